/- Package wire's Put. -/
import Derived.Test.YtebdmfmadbikaaaDoorWrPutF
namespace Go.Proofs.YtebdmfmadbikaaaDoor.WiW
open Go.RowKit Go.Shelf Mem Fds FdW Wi Rng
set_option linter.unusedVariables false
set_option linter.unusedSimpArgs false
attribute [local go_sem] Oper.semAt_some wide_fn

theorem put_any (W : World) (base p : Nat) (l : List UInt8) (m : Msg) (s : Sl) (f : Nat) (hf : f < 11) (hS : WS base p l W) (hl : l.length ≤ 800000) (hM : MIn W base m s) (hm : MayF m) :
    Calls Tryd.prog 32 #[.pointer (some ⟨p, 0, none⟩), .int .u16 (bit f), .agg (mv m s)] W (PutS W base p (l ++ fb m f)) := by
  have h : f = 0 ∨ f = 1 ∨ f = 2 ∨ f = 3 ∨ f = 4 ∨ f = 5 ∨ f = 6 ∨ f = 7 ∨ f = 8 ∨ f = 9 ∨ f = 10 := by omega
  rcases h with rfl | rfl | rfl | rfl | rfl | rfl | rfl | rfl | rfl | rfl | rfl
  · exact put0_any W base p l m s hS hl hM hm
  · exact put1_any W base p l m s hS hl hM hm
  · exact put2_any W base p l m s hS hl hM hm
  · exact put3_any W base p l m s hS hl hM hm
  · exact put4_any W base p l m s hS hl hM hm
  · exact put5_any W base p l m s hS hl hM hm
  · exact put6_any W base p l m s hS hl hM hm
  · exact put7_any W base p l m s hS hl hM hm
  · exact put8_any W base p l m s hS hl hM hm
  · exact put9_any W base p l m s hS hl hM hm
  · exact put10_any W base p l m s hS hl hM hm
theorem flat_le {α : Type} (g : α → List UInt8) (K : Nat) : ∀ l : List α, (∀ x ∈ l, (g x).length ≤ K) → (l.flatMap g).length ≤ K * l.length
  | [], _ => by simp
  | a :: r, h => by
    rw [List.flatMap_cons, List.length_append, List.length_cons, Nat.mul_succ]
    have h1 := h a (by simp)
    have h2 := flat_le g K r (fun x hx => h x (by simp [hx]))
    omega
theorem fb_le {m : Msg} (h : MayB m) (f : Nat) : (fb m f).length ≤ 66000 := by
  have hk := h.key
  have hd := h.data
  unfold fb
  split
  · rw [be_len]; omega
  · rw [txt_len]; omega
  · rw [be_len]; omega
  · rw [be_len]; omega
  · rw [be_len]; omega
  · rw [be_len]; omega
  · rw [be_len]; omega
  · rw [be_len]; omega
  · rw [List.length_append, be_len]
    have := flat_le (fun x : List UInt8 × Int => txt x.1 ++ be 8 x.2.toNat) 80 m.ids (fun x hx => by
      have := (h.id x hx).1
      show (txt x.1 ++ be 8 x.2.toNat).length ≤ 80
      rw [List.length_append, txt_len, be_len]; omega)
    have := h.ids
    omega
  · rw [List.length_append, be_len]
    have := flat_le (fun n : Int => be 2 n.toNat) 2 m.nodes (fun x hx => by
      show (be 2 x.toNat).length ≤ 2
      rw [be_len]; omega)
    have := h.nodes
    omega
  · rw [List.length_append, be_len]; omega
  · simp
theorem head_len (m : Msg) : (head m).length = 5 := by unfold head; rw [List.length_append, List.length_append, be_len, be_len, be_len]
theorem flds_len (k : Nat) (pre r : List Nat) (h : pre ++ r = flds k) : pre.length ≤ 11 := by
  have h1 : (flds k).length ≤ 11 := by
    by_cases hk : k < 21
    · have : ∀ k < 21, (flds k).length ≤ 11 := by decide
      exact this k hk
    · rw [flds_over (by simp [isK]; omega)]; simp
  rw [← h, List.length_append] at h1
  omega
theorem bytes_leB {m : Msg} (h : MayB m) : (Wi.bytes m).length ≤ 800000 := by
  unfold Wi.bytes
  rw [List.length_append, head_len]
  have h1 := flat_le (fb m) 66000 (flds m.kind) (fun f _ => fb_le h f)
  have h2 := flds_len m.kind (flds m.kind) [] (by simp)
  omega
theorem bytes_le {m : Msg} (h : MayF m) : (Wi.bytes m).length ≤ 800000 := bytes_leB h.b
/-- What Put leaves. -/
def PutR (w : World) (m : Msg) (e : Ending) (w' : World) : Prop :=
  if may m = true then ∃ A c, e = .returned (.tuple #[.slice A (Wi.bytes m).length c, .int .i64 0]) ∧ Mem.Own w' w.heap.size 5 A c ((Wi.bytes m).map u8v) ∧ Below w.heap.size w w'
  else e = .returned (.tuple #[.slice none 0 0, .int .i64 2]) ∧ Below w.heap.size w w'
/-- Put's state: the writer's blocks from base on; the writer's row a0 or a new one. -/
def PutI (W0 w1 : World) (bx base D : Nat) (A0 : Option Addr) (m : Msg) (s : Sl) (pre : List Nat) (W : World) : Prop :=
  (Below base w1 W ∧ D + 2 ≤ W.heap.size) ∧ Blk W bx 27 (mv m s) ∧ ∃ A c, Wr W base base A c (head m ++ pre.flatMap (fb m)) ∧ (∀ g, A = some ⟨g, 0, none⟩ → A0 = some ⟨g, 0, none⟩ ∨ D + 2 ≤ g)
theorem put_bad (w : World) (m : Msg) (s : Sl) (hT : HasT w) (hI : MIn w w.heap.size m s) (hm : may m = false) : Calls Tryd.prog 14 #[.agg (mv m s)] w (PutR w m) := by
  have HR := Lib.hid hm
  have HM := Lib.hid (show ∀ w1, w.alloc (.cells (mv m s) 27) = w1 → HasT w1 ∧ MIn w1 w1.heap.size m s ∧ Blk w1 w.heap.size 27 (mv m s) ∧ Below w.heap.size w w1 from fun w1 h => by
    rw [← h]; exact ⟨hT.keep (nextA (Mem.start w) _), hI.keep (nextA (Mem.start w) _), Blk.new w _ _, nextA (Mem.start w) _⟩)
  clear hT hI hm
  go_enter Tryd.func14, Tryd.ntmps14
  go_wp2_with ((with_reducible show wpList _ _ _ ((⟨some 6, _, _, _, _, _⟩ : Oper) :: _) _ _); refine wpList_load_mid rfl 27 (.tmp 1) rfl w.heap.size 0 rfl (mv m s).toList _ (range_of (HM.out _ rfl).2.2.1) Tryd.underlying27 rfl minfo ?_)
  refine (may_any _ m s (HM.out _ rfl).1 (HM.out _ rfl).2.1).mono ?_
  rintro e w2 ⟨rfl, hb2⟩
  rw [HR.out]
  have HB := Lib.hid (next (HM.out _ rfl).2.2.2 hb2)
  clear hb2
  go_wp2_with fail
  go_ret2
  unfold PutR
  rw [if_neg (by rw [HR.out]; decide)]
  exact ⟨rfl, HB.out⟩
theorem u16w {x : Int} {n : Nat} (hn : x.toNat = n) (h0 : 0 ≤ x) (h1 : x ≤ 65535) : IntKind.u16.wrap x = (n : Int) := by
  have e : ∀ x : Int, IntKind.u16.wrap x = x % 65536 := fun _ => rfl
  rw [e]; omega
set_option maxRecDepth 100000 in
set_option maxHeartbeats 8000000 in
theorem put_ok (w : World) (m : Msg) (s : Sl) (hT : HasT w) (hI : MIn w w.heap.size m s) (hm : may m = true) : Calls Tryd.prog 14 #[.agg (mv m s)] w (PutR w m) := by
  have HR := Lib.hid hm
  have HMF := Lib.hid ((may_iff m).1 hm)
  have HK := Lib.hid hI.kind
  obtain ⟨bx, hbx⟩ : ∃ bx, w.heap.size = bx := ⟨_, rfl⟩
  have HM := Lib.hid (show ∀ w1, w.alloc (.cells (mv m s) 27) = w1 → HasT w1 ∧ MIn w1 w1.heap.size m s ∧ Blk w1 bx 27 (mv m s) ∧ Below w.heap.size w w1 from fun w1 h => by
    rw [← h, ← hbx]; exact ⟨hT.keep (nextA (Mem.start w) _), hI.keep (nextA (Mem.start w) _), Blk.new w _ _, nextA (Mem.start w) _⟩)
  have HBX := Lib.hid hbx
  clear hT hI hm
  refine of_wide ?_
  refine callsIn_of_wp_marks Tryd.func14 rfl trivial ?_ rfl
  refine wpIn_wide.2 ?_
  simp only [Tryd.ntmps14, List.size_toArray, List.length_cons, List.length_nil, Nat.reduceAdd, Nat.reduceSub, Array.replicate_succ, Array.replicate_zero, List.push_toArray, List.append_toArray, List.nil_append, List.cons_append]
  go_wp2_with ((with_reducible show wpList _ _ _ ((⟨some 6, _, _, _, _, _⟩ : Oper) :: _) _ _); refine wpList_load_mid rfl 27 (.tmp 1) rfl bx 0 rfl (mv m s).toList _ (range_of (HM.out _ rfl).2.2.1) Tryd.underlying27 rfl minfo ?_)
  refine (may_any _ m s (HM.out _ rfl).1 (HM.out _ rfl).2.1).mono ?_
  rintro e w2 ⟨rfl, hb2⟩
  rw [HR.out]
  have HB2 := Lib.hid (next (HM.out _ rfl).2.2.2 hb2)
  have HX2 := Lib.hid ((HM.out _ rfl).2.2.1.keep hb2)
  have HT2 := Lib.hid ((HM.out _ rfl).1.keep hb2)
  have HI2 := Lib.hid ((HM.out _ rfl).2.1.keep hb2)
  clear hb2 hbx
  obtain ⟨base, hbase⟩ : ∃ base, w2.heap.size = base := ⟨_, rfl⟩
  obtain ⟨w3, hw3⟩ : ∃ w3 : World, w2.alloc (.cells #[.slice none 0 0] 61) = w3 := ⟨_, rfl⟩
  have hb3 : Below w2.heap.size w2 w3 := by rw [← hw3]; exact nextA (Mem.start w2) _
  have hbl : bx < base := by rw [← hbase]; exact HX2.out.lt
  have hwr : Wr w3 base base none 0 [] := by
    rw [← hw3, ← hbase]; exact ⟨Blk.new w2 _ _, Own.nil, Nat.le_refl _⟩
  have HW3 := Lib.hid hwr
  have HS3 := Lib.hid (show WS base base [] w3 from ⟨by rw [← hbase]; exact hb3.size, _, _, hwr⟩)
  have HX3 := Lib.hid (HX2.out.keep hb3)
  have HB3 := Lib.hid (next HB2.out hb3)
  have HT3 := Lib.hid (HT2.out.keep hb3)
  have HI3 := Lib.hid (show MIn w3 base m s by rw [← hbase]; exact HI2.out.below hb3)
  have HBL := Lib.hid (show bx < base ∧ 0 < base ∧ bx ≠ base ∧ w.heap.size = bx from ⟨hbl, by omega, by omega, HBX.out⟩)
  have hbx := HBX.out
  have c0 := HX3.out.cell 0
  simp [mv] at c0
  clear hb3 hbl hwr
  go_wp2_with fail
  refine (byteS HS3.out (by simp) m.kind (by have := HK.out; omega)).mono ?_
  rintro e w4 h4
  have H4 := Lib.hid h4
  obtain ⟨rfl, _, _, q3, _⟩ := h4
  have HX4 := Lib.hid (q3 _ _ _ HBL.out.2.2.1 (by decide) HX3.out)
  clear q3 c0 hw3 hbase
  obtain ⟨n1, hn1⟩ : ∃ n : Nat, m.frm.toNat = n := ⟨_, rfl⟩
  obtain ⟨n2, hn2⟩ : ∃ n : Nat, m.to_.toNat = n := ⟨_, rfl⟩
  have hwf1 := u16w hn1 HMF.out.frm.1 HMF.out.frm.2
  have hwf2 := u16w hn2 HMF.out.to_.1 HMF.out.to_.2
  have HN := Lib.hid (show m.frm.toNat = n1 ∧ m.to_.toNat = n2 ∧ n1 < 256 ^ 2 ∧ n2 < 256 ^ 2 from ⟨hn1, hn2, by have := HMF.out.frm; omega, by have := HMF.out.to_; omega⟩)
  have c1 := HX4.out.cell 1
  simp [mv] at c1
  clear hn1 hn2
  go_wp2_with fail
  refine (shortS H4.out.2.1 (by rw [List.nil_append, be_len]; decide) n1 HN.out.2.2.1).mono ?_
  rintro e w5 h5
  have H5 := Lib.hid (H4.out.two h5)
  obtain ⟨rfl, _, _, q3, _⟩ := h5
  have HX5 := Lib.hid (q3 _ _ _ HBL.out.2.2.1 (by decide) HX4.out)
  clear q3 c1
  have c2 := HX5.out.cell 2
  simp [mv] at c2
  go_wp2_with fail
  refine (shortS H5.out.2.1 (by rw [List.length_append, List.nil_append, be_len, be_len]; decide) n2 HN.out.2.2.2).mono ?_
  rintro e w6 h6
  have H6 := Lib.hid (show PutS w3 base base (head m) (.returned (.tuple #[])) w6 by
    have h := H5.out.two h6
    rw [h6.1] at h
    unfold head
    rw [HN.out.1, HN.out.2.1]
    exact h)
  obtain ⟨rfl, _, _, q3, _⟩ := h6
  have HX6 := Lib.hid (q3 _ _ _ HBL.out.2.2.1 (by decide) HX5.out)
  obtain ⟨A0, c0', hA0⟩ : ∃ A0 c0', Wr w6 base base A0 c0' (head m) := by
    obtain ⟨_, A, c, h, _⟩ := H6.out.2.2.2.2 _ _ _ HW3.out
    exact ⟨A, c, h⟩
  have HA0 := Lib.hid hA0
  clear q3 c2 hwf1 hwf2 hA0
  have c0 := HX6.out.cell 0
  simp [mv] at c0
  go_wp2_with fail
  refine (fieldsOf_any w6 m.kind).mono ?_
  rintro e w7 ⟨rfl, hw7⟩
  obtain ⟨kb, hkb⟩ : ∃ kb, w6.heap.size = kb := ⟨_, rfl⟩
  have hb7 : Below w6.heap.size w6 w7 := by rw [← hw7]; exact nextA (Mem.start w6) _
  have HS7 := Lib.hid (show w7.heap.size = kb + 1 ∧ base < kb by
    refine ⟨by rw [← hw7, World.size_alloc, hkb], ?_⟩
    rw [← hkb]; exact HA0.out.blk.lt)
  have HC7 := Lib.hid (show w7.cell? ⟨kb, 0, none⟩ = some (.int .u8 (m.kind : Int)) by rw [← hw7, ← hkb, new_cell]; rfl)
  have HX7 := Lib.hid (HX6.out.keep hb7)
  have HA7 := Lib.hid (show Wr w7 base base A0 c0' (head m) from ⟨HA0.out.blk.keep hb7, HA0.out.own.keep hb7, HA0.out.at_⟩)
  have HB7 := Lib.hid (show Below base w3 w7 from H6.out.2.2.1.trans (hb7.mono (by rw [hkb]; have := HS7.out; omega)))
  have HT7 := Lib.hid (show HasT w7 from fun k hk => (HB7.out.cell HBL.out.2.1).trans (HT3.out k hk))
  have HA := Lib.hid (show ∀ g, A0 = some ⟨g, 0, none⟩ → base ≤ g ∧ g < kb from fun g hg => by
    rcases HA0.out.own.form with ⟨h, _⟩ | ⟨g', h, h1, h2, _⟩
    · rw [h] at hg; cases hg
    · rw [h] at hg; injection hg with hg; injection hg with hg; subst hg; exact ⟨h1, by rw [← hkb]; exact h2⟩)
  rw [hkb]
  clear hw7 hb7 hkb c0 hbx
  go_wp2_with fail
  refine (wpIn_wide (n := 5)).1 ?_
  refine wpIn_rangeT (gf := 57) (lb := #[.pointer (some ⟨kb, 0, none⟩)]) (encs := fun f : Nat => #[.int .u16 (bit f)]) rfl (enters_of Tryd.func57 (by kernel_rfl) rfl) (fun _ => rfl)
    (fun pre W' => PutI w w3 bx base (kb + 1) A0 m s pre W') (fun _ _ _ => False) (fun pre x W1 => Nxt m.kind pre x) (fun k => k = base ∨ A0 = some ⟨k, 0, none⟩ ∨ kb + 1 + 2 ≤ k) (S := fun xs => xs = flds m.kind) (Sp := fun _ => False) ?hsb
    (fields_callT w7 kb m.kind HK.out _ _ _ HT7.out ?hsb2 HC7.out (fun _ _ _ h => h))
    ?hI ?hIx ?hLX ?h0 ?round ?done ?stop
  case hsb =>
    have h1 := HS7.out
    rw [h1.1]
    exact ⟨fun h => h.elim (by omega) (fun h => h.elim (fun h => by have := HA.out _ h; omega) (by omega)), fun h => h.elim (by omega) (fun h => h.elim (fun h => by have := HA.out _ h; omega) (by omega))⟩
  case hsb2 =>
    have h1 := HS7.out
    have h2 := HBL.out
    exact ⟨fun h => h.elim (by omega) (fun h => h.elim (fun h => by have := HA.out _ h; omega) (by omega)), fun h => h.elim (by omega) (fun h => h.elim (fun h => by have := HA.out _ h; omega) (by omega))⟩
  case hI =>
    intro pre W1 W2 ⟨⟨h1, h1s⟩, h2, A, c, h3, h4⟩ hf
    have g1 := HS7.out
    have g2 := HBL.out
    rw [g1.1] at hf
    have g3 := h1.size
    refine ⟨⟨h1.trans (hf.below (by have := h3.blk.lt; omega) fun k hk => by omega), Nat.le_trans h1s hf.size⟩, h2.fr hf (by omega), A, c, ⟨h3.blk.fr hf (by omega), h3.own.fr hf (fun g hg => ?_), h3.at_⟩, h4⟩
    rcases h4 g hg with h | h
    · have := HA.out g h; omega
    · omega
  case hIx => exact fun _ _ _ _ h => h.elim
  case hLX => exact fun pre x W1 W2 h hf => h
  case h0 =>
    intro W1 hb hs1
    refine ⟨⟨HB7.out.trans (hb.mono (by have := HS7.out; omega)), by rw [hs1, HS7.out.1]; omega⟩, HX7.out.keep hb, A0, c0', ⟨HA7.out.blk.keep hb, ?_, HA7.out.at_⟩, fun g hg => .inl hg⟩
    rw [List.flatMap_nil, List.append_nil]; exact HA7.out.own.keep hb
  case round =>
    rintro lp pre x W1 hI1 hx1
    gi_wp2
    refine ⟨trivial, ?_⟩
    clear hI1 hx1
    rintro W2 hI2 hx
    have HX := Lib.hid hx
    have HI := Lib.hid hI2
    have hX2 := hI2.2.1
    have c0 := hX2.cell 0
    have c1 := hX2.cell 1
    have c2 := hX2.cell 2
    have c3 := hX2.cell 3
    have c4 := hX2.cell 4
    have c5 := hX2.cell 5
    have c6 := hX2.cell 6
    have c7 := hX2.cell 7
    have c8 := hX2.cell 8
    have c9 := hX2.cell 9
    have c10 := hX2.cell 10
    have c11 := hX2.cell 11
    have c12 := hX2.cell 12
    have c13 := hX2.cell 13
    simp [mv] at c0 c1 c2 c3 c4 c5 c6 c7 c8 c9 c10 c11 c12 c13
    clear hI2 hX2 hx
    gi_wp2
    obtain ⟨A, cA, hwr, hAA⟩ := HI.out.2.2
    have hle : (head m ++ pre.flatMap (fb m)).length ≤ 800000 := by
      obtain ⟨_, r, hr⟩ := HX.out
      have h1 := flat_le (fb m) 66000 pre (fun f _ => fb_le HMF.out.b f)
      have h2 := flds_len m.kind pre (x :: r) hr
      rw [List.length_append, head_len]; omega
    have hbs : base ≤ W2.heap.size := Nat.le_of_lt hwr.blk.lt
    have HWR := Lib.hid (And.intro hwr hAA)
    refine (wideR (put_any W2 base base (head m ++ pre.flatMap (fb m)) m s x HX.out.1 ⟨hbs, A, cA, hwr⟩ hle (HI3.out.below HI.out.1.1) HMF.out)).mono ?_
    rintro e w8 h8
    have H8 := Lib.hid h8
    obtain ⟨rfl, _⟩ := h8
    clear hwr hAA hle hbs c0 c1 c2 c3 c4 c5 c6 c7 c8 c9 c10 c11 c12 c13
    gi_wp2
    obtain ⟨f1, A1, c1', g1, a1⟩ := H8.out.2.2.2.2 A cA _ HWR.out.1
    have hfr : Fr (fun k => k = base ∨ A0 = some ⟨k, 0, none⟩ ∨ kb + 1 + 2 ≤ k) W2 w8 := f1.mono fun k hk h => by
      rcases h with h | h
      · exact .inl h
      · rcases HWR.out.1.own.form with ⟨e, _⟩ | ⟨g, e, _⟩
        · rw [e] at h; cases h
        · rw [e] at h; injection h with h; dsimp only at h; subst h; exact .inr (HWR.out.2 g e)
    refine ⟨hfr, ⟨HI.out.1.1.trans H8.out.2.2.1, Nat.le_trans HI.out.1.2 f1.size⟩, H8.out.2.2.2.1 _ _ _ HBL.out.2.2.1 (by decide) HI.out.2.1, A1, c1', ?_, fun g hg => ?_⟩
    · rw [List.flatMap_append, ← List.append_assoc]
      simpa using g1
    · rcases a1 g hg with h | h
      · exact HWR.out.2 g h
      · have := HI.out.1.2; exact .inr (by omega)
  case done =>
    rintro D xs W hD rfl hI5 hK
    rw [HS7.out.1] at hD
    have HD := Lib.hid (And.intro hD (And.intro hK hI5))
    clear hD hK hI5
    obtain ⟨hD, hK, ⟨h1, _⟩, h2, A, cA, hwr, _⟩ := HD.out
    have hbe : Wi.bytes m = head m ++ (flds m.kind).flatMap (fb m) := rfl
    rw [← hbe] at hwr
    have HBE := Lib.hid (And.intro hD (And.intro hK (And.intro h1 hwr)))
    clear hbe hD hK h1 h2 hwr
    go_wp2_with fail
    refine (out_any W base base A cA (Wi.bytes m) HBE.out.2.2.2 (by have := bytes_le HMF.out; omega)).mono ?_
    rintro e w9 ⟨A9, c9, rfl, ho9, hb9⟩
    have H9 := Lib.hid (And.intro ho9 hb9)
    clear ho9 hb9
    go_wp2_with fail
    have hKD : w9.heap[D]? = some (.deferred (some [])) := by
      have h := HBE.out.2.1
      rw [H9.out.2.block D (Array.getElem?_eq_some_iff.1 h).1]; exact h
    refine ⟨by simp, .inl ⟨_, _, rfl, run_takeDeferred hKD, ?_⟩⟩
    have hfs : Fr (fun k => k = D) w9 (w9.putObj D (.deferred none)) := put_fr _
    refine ⟨.tuple #[.slice A9 (Wi.bytes m).length c9, .int .i64 0], ?_, ?_⟩
    · simp [results, Tryd.results14, go_sem]
    unfold PutR
    rw [if_pos HR.out]
    have hDl := (Array.getElem?_eq_some_iff.1 HBE.out.2.1).1
    have hsz := HBE.out.2.2.1.size
    have hbw : w.heap.size ≤ W.heap.size := by have := HB3.out.size; omega
    refine ⟨A9, c9, rfl, ?_, ?_⟩
    · exact (H9.out.1.fr hfs (fun g hg e => by
        rcases H9.out.1.form with ⟨h, _⟩ | ⟨g', h, h1, _⟩
        · rw [h] at hg; cases hg
        · rw [h] at hg; injection hg with hg; injection hg with hg; omega)).down hbw
    · have g1 : Below w.heap.size w3 W := HBE.out.2.2.1.mono (by have := HBL.out; omega)
      exact ((HB3.out.trans g1).trans (H9.out.2.mono hbw)).trans (hfs.below (by have := H9.out.2.size; omega) fun k hk => by have := HBE.out.1; have := HS7.out; have := HBL.out; omega)
  case stop => exact fun _ _ _ _ _ h => h.elim
theorem Put_any (w : World) (m : Msg) (s : Sl) (hT : HasT w) (hI : MIn w w.heap.size m s) : Calls Tryd.prog 14 #[.agg (mv m s)] w (PutR w m) := by
  cases hm : may m
  · exact put_bad w m s hT hI hm
  · exact put_ok w m s hT hI hm
end Go.Proofs.YtebdmfmadbikaaaDoor.WiW
