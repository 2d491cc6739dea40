/- Package wire's Get, at any bytes. Printed by genwga.py (raw numbers of the seat). -/
import Derived.Test.YtebdmfmadbikaaaDoorWrGet
import Derived.Test.YtebdmfmadbikaaaDoorWrGetL
import Derived.Test.YtebdmfmadbikaaaDoorWpAt
namespace Go.Proofs.YtebdmfmadbikaaaDoor.WiW
open Go.RowKit Go.Shelf Mem Fds FdW Wi Rng
set_option linter.unusedVariables false
set_option linter.unusedSimpArgs false
attribute [local go_sem] Oper.semAt_some wide_fn

/-- The message that is nothing. -/
def mz : Msg := msg0 0 0 0
theorem set14z {w : World} {g : Nat} {T : TypeId} {m : Msg} {s : Sl} (h : Blk w g T (mv m s)) (m2 : Msg) (s2 : Sl) : Blk (w.setCells g 0 (mv m2 s2).toList) g T (mv m2 s2) := by
  have h4 := blk_setCells (mv m2 s2).toList 0 w _ h
  have e : setAll (mv m s) 0 (mv m2 s2).toList = mv m2 s2 := by simp [mv, setAll]
  rw [e] at h4; exact h4
set_option maxRecDepth 100000 in
/-- Get's deferred closure, where none has been thrown. -/
theorem caught_in (q b : Nat) (w : World) (n : Nat) (m : Msg) (s : Sl) (x : Value) (hB : Blk w q 27 (mv m s)) (hE : Blk w b 22 #[x]) (hne : q ≠ b) :
    CallsDIn Fence.wide n Tryd.prog 34 #[.pointer (some ⟨q, 0, none⟩), .pointer (some ⟨b, 0, none⟩)] (.panicking thrown) w fun e u' w' =>
      e = .returned (.tuple #[]) ∧ settle u' = .returning ∧ Fr (fun k => k = q ∨ k = b) w w' ∧ Blk w' q 27 (mv mz s0) ∧ Blk w' b 22 #[.int .i64 170] := by
  refine callsDIn_of_wpSIn Tryd.func34 rfl trivial fun c₀ cs hu => ?_
  apply wpSIn_seq
  apply wpSIn_region
  simp [wpOpsSIn, go_sem, recoverD, hu, thrown, Tryd.ntmps34, Exit.thenS]
  apply wpSIn_seq
  apply wpSIn_region
  simp [wpOpsSIn, go_sem, Exit.thenS]
  refine wpSIn_cond (t := true) (by simp [Act.eval, Array.replicate]) ?_
  simp only [if_true]
  refine wpSIn_of_wpIn rfl (wpIn_wide.2 (Code.wp_mono (Q := fun e a w' => e = .normal ∧ a.defers = [] ∧ Fr (fun k => k = q ∨ k = b) w w' ∧ Blk w' q 27 (mv mz s0) ∧ Blk w' b 22 #[.int .i64 170]) ?imp ?walk))
  case imp =>
    rintro e a w' ⟨rfl, hd, hp⟩
    refine ⟨hd, _, rfl, .tuple #[], by simp [results, Tryd.results34, go_sem], rfl, rfl, hp⟩
  case walk =>
    have hz := hE.frozen 0
    have hc := hE.cell 0
    simp only [Array.replicate_succ, Array.replicate_zero, List.push_toArray, List.append_toArray, List.nil_append, List.cons_append, List.setIfInBounds_toArray, List.set_cons_zero, List.set_cons_succ]
    have hbd : ∀ W : World, (Instr.build 27 #[]).run Tryd.prog W = .ok (.agg (mv mz s0)) W := fun W => by kernel_rfl
    have hta : ∀ W : World, (Instr.typeAssert (.iface 70 (.agg #[])) 20 70 false).run Tryd.prog W = .ok (.agg #[]) W := fun W => by kernel_rfl
    have HB := Lib.hid hB
    have HE := Lib.hid hE
    clear hB hE hz hc
    go_wp2_with ((with_reducible show wpList _ _ _ ((⟨none, .store 27 (.tmp 0) (.tmp 8), _, _, _, _⟩ : Oper) :: _) _ _); refine wpList_store_mid rfl 27 (.tmp 0) (.tmp 8) rfl q 0 (mv mz s0) rfl rfl (there_of HB.out) minfo (mv_one _ _) ?_; obtain ⟨w5, hw5⟩ : ∃ x, w.setCells q 0 (mv mz s0).toList = x := ⟨_, rfl⟩; have hF5 : Fr (fun k => k = q) w w5 := (by rw [← hw5]; exact set14_fr w q mz s0); have HF5 := Lib.hid hF5; have HX5 := Lib.hid (show Blk w5 q 27 (mv mz s0) from by rw [← hw5]; exact set14z HB.out mz s0); have HQ5 := Lib.hid (HE.out.fr hF5 (by omega)); have y0 := HQ5.out.cell 0; have y1 := HQ5.out.frozen 0; simp at y0; rw [hw5]; clear hw5 hF5)
    have hf6 : Fr (fun k => k = b) w5 (w5.setCell ⟨b, 0, none⟩ (.int .i64 170)) := Fr.setCell (S := fun k => k = b) (w' := w5) (Fr.refl _ w5) (p := ⟨b, 0, none⟩) (fun _ => rfl) _
    exact ⟨(HF5.out.mono fun k _ h => .inl h).trans hf6 fun k _ h => .inr h, HX5.out.fr hf6 hne, HQ5.out.set_ 0 (.int .i64 170)⟩
/-- Any field. -/
theorem getAny (w : World) (B B2 p q : Nat) (m : Msg) (s : Sl) (l : List UInt8) (f : Nat) (hf : f < 11) (h : Rd w B p l) (hB : Blk w q 27 (mv m s)) (hR : RowsO w B2 m s) (hB2 : B2 ≤ w.heap.size) (hq : B ≤ q ∧ q ≠ p) (hfr : Fresh f m s) (hl : l.length ≤ 100000000) :
    Calls Tryd.prog 36 #[.pointer (some ⟨p, 0, none⟩), .int .u16 (bit f), .pointer (some ⟨q, 0, none⟩)] w (GetR w B B2 p q f s (rf m l f)) := by
  by_cases h8 : f < 8
  · refine (get_small w B p q m s l f h8 h hB hq).mono fun e w' he => ?_
    obtain ⟨hf1, he⟩ := he
    refine ⟨hf1, ?_⟩
    cases hr : rf m l f with
    | none => rw [hr] at he; exact he
    | some x =>
      rw [hr] at he
      obtain ⟨rfl, h1, h2⟩ := he
      have hs := rf_small h8 (m1 := x.1) (l1 := x.2) hr
      have hRR := hR.frT h hB hf1
      refine ⟨rfl, h1, s, h2, ?_, fun _ => ⟨rfl, rfl⟩, fun _ => ⟨rfl, rfl⟩, fun _ => ⟨rfl, rfl⟩⟩
      unfold RowsO; rw [hs.2.1, hs.2.2.1, hs.2.2.2]; exact hRR
  · have : f = 8 ∨ f = 9 ∨ f = 10 := by omega
    rcases this with rfl | rfl | rfl
    · exact get8_any w B B2 p q m s l h hB hR hB2 hq (hfr.1 rfl)
    · exact get9_any w B B2 p q m s l h hB hR hB2 hq (hfr.2.1 rfl)
    · exact get10_any w B B2 p q m s l h hB hR hB2 hq ⟨hfr.2.2 rfl, hl⟩
/-- What Get leaves. -/
def GotR (w : World) (b : List UInt8) (e : Ending) (w' : World) : Prop := Below w.heap.size w w' ∧ match Wi.get b with
  | some m => ∃ s, e = .returned (.tuple #[.agg (mv m s), .int .i64 0]) ∧ RowsO w' w.heap.size m s
  | none => e = .returned (.tuple #[.agg (mv mz s0), .int .i64 170])
/-- The call that is deferred. -/
def CL (q : Nat) : Deferred := { target := .fn (.func 34) #[.pointer (some ⟨q, 0, none⟩), .pointer (some ⟨q + 1, 0, none⟩)], args := #[] }
theorem leave_one (w W : World) (q : Nat) (m : Msg) (s : Sl) (x : Value) (t : Array Value) (b : List UInt8) (hq : w.heap.size = q) (h2 : t.getD 2 undef = .pointer (some ⟨q, 0, none⟩)) (h3 : t.getD 3 undef = .pointer (some ⟨q + 1, 0, none⟩))
    (hB : Blk W q 27 (mv m s)) (hE : Blk W (q + 1) 22 #[x]) (hb : Below q w W) (hg : Wi.get b = none) :
    LeavesInM Fence.wide 5 Tryd.prog Tryd.f15 t (GotR w b) [CL q] (.panicking thrown) W := by
  refine ⟨by simp, .inr ⟨by simp [Fence.wide], _, _, 34, #[.pointer (some ⟨q, 0, none⟩), .pointer (some ⟨q + 1, 0, none⟩)], rfl, by simp [go_sem, CL], fun _ _ => trivial, ?_⟩⟩
  refine (caught_in q (q + 1) W _ m s x hB hE (by omega)).mono ?_
  rintro e u' w' ⟨rfl, hs, hf, hX, hE'⟩
  dsimp only
  rw [hs]
  refine ⟨.tuple #[.agg (mv mz s0), .int .i64 170], ?_, ?_⟩
  · have e0 := hX.cell 0
    have e1 := hX.cell 1
    have e2 := hX.cell 2
    have e3 := hX.cell 3
    have e4 := hX.cell 4
    have e5 := hX.cell 5
    have e6 := hX.cell 6
    have e7 := hX.cell 7
    have e8 := hX.cell 8
    have e9 := hX.cell 9
    have e10 := hX.cell 10
    have e11 := hX.cell 11
    have e12 := hX.cell 12
    have e13 := hX.cell 13
    have e14 := hE'.cell 0
    simp [mv] at e0 e1 e2 e3 e4 e5 e6 e7 e8 e9 e10 e11 e12 e13
    simp at e14
    simp only [results, Tryd.results15]
    simp only [Array.getD_eq_getD_getElem?] at h2 h3
    simp [go_sem, h2, h3, e0, e1, e2, e3, e4, e5, e6, e7, e8, e9, e10, e11, e12, e13, e14]
    rfl
  · have hle : q ≤ W.heap.size := by have := hB.lt; omega
    refine ⟨by rw [hq]; exact hb.trans (hf.below hle fun k hk => by omega), ?_⟩
    rw [hg]
theorem leave_two (w W : World) (q D : Nat) (m : Msg) (s : Sl) (x : Value) (t : Array Value) (b : List UInt8) (hq : w.heap.size = q) (h2 : t.getD 2 undef = .pointer (some ⟨q, 0, none⟩)) (h3 : t.getD 3 undef = .pointer (some ⟨q + 1, 0, none⟩))
    (hB : Blk W q 27 (mv m s)) (hE : Blk W (q + 1) 22 #[x]) (hb : Below q w W) (hg : Wi.get b = none) (hD : W.heap[D]? = some (.deferred (some []))) (hqD : q + 1 < D) :
    LeavesInM Fence.wide 5 Tryd.prog Tryd.f15 t (GotR w b) [{ target := .collected D, args := #[] }, CL q] (.panicking thrown) W := by
  refine ⟨by simp, .inl ⟨_, _, rfl, run_takeDeferred hD, ?_⟩⟩
  have hfs : Fr (fun k => k = D) W (W.putObj D (.deferred none)) := put_fr _
  exact leave_one w _ q m s x t b hq h2 h3 (hB.fr hfs (by omega)) (hE.fr hfs (by omega)) (hb.trans (hfs.below (by have := hB.lt; omega) fun k hk => by omega)) hg
/-- fieldsOf's iterator, where a round may panic. -/
theorem fields_callX (w : World) (B0 k : Nat) (hk : k < 256) (SB : Nat → Prop) (hT : HasT w) (hSB : ¬ SB B0 ∧ ¬ SB 0) (h0 : w.cell? ⟨B0, 0, none⟩ = some (.int .u8 (k : Int))) :
    CallX Tryd.prog 57 #[.pointer (some ⟨B0, 0, none⟩)] fenc (fun pre x _ => Nxt k pre x) SB w.heap.size (fun xs => xs = flds k) w := by
  intro J Jp W hsz hb hY hJ0
  have l0 := World.block_lt_of_cell? _ _ h0
  dsimp only at l0
  refine CallsIn.mono (fields1_in (w.heap.size + 1) B0 k hk (fun k => SB k ∨ k = w.heap.size + 1) J (fun _ _ => False) Jp W (hT.keep hb) ⟨fun h => h.elim hSB.1 (by omega), fun h => h.elim hSB.2 (by have := hT.pos; omega)⟩ ((hb.cell l0).trans h0) (fun pre f W1 h hx => ?_) hJ0) ?_
  · exact YieldAt.mono (hY pre _ W1 h hx) fun e W' h' => h'.imp (fun h' => h') (fun h' => .inr h')
  · rintro e W' (⟨⟨v, rfl⟩, h | ⟨pre, hx⟩⟩ | ⟨ch, rfl, hp⟩)
    · exact .inl ⟨v, _, rfl, rfl, h⟩
    · exact hx.elim
    · exact .inr ⟨ch, rfl, hp⟩
theorem rnum_len {n : Nat} {l : List UInt8} {q : Nat × List UInt8} (h : rnum n l = some q) : q.2.length ≤ l.length := by
  rw [(rnum_some h).2.2.2, List.length_drop]; omega
theorem cut_len {n : Nat} {l : List UInt8} {q : List UInt8 × List UInt8} (h : Wi.cut n l = some q) : q.1.length + q.2.length = l.length := by
  unfold Wi.cut at h
  split at h
  · injection h with h; subst h; simp; omega
  · cases h
theorem rtxt_len {l : List UInt8} {q : List UInt8 × List UInt8} (h : rtxt l = some q) : q.1.length + q.2.length ≤ l.length := by
  unfold rtxt at h
  rw [Option.bind_eq_some_iff] at h
  obtain ⟨x, h1, h2⟩ := h
  have := rnum_len h1
  have := cut_len h2
  omega
theorem rid_len {l : List UInt8} {q : (List UInt8 × Int) × List UInt8} (h : rid l = some q) : q.1.1.length ≤ l.length ∧ q.2.length + 1 ≤ l.length := by
  unfold rid at h
  rw [Option.bind_eq_some_iff] at h
  obtain ⟨x, h1, h2⟩ := h
  rw [Option.map_eq_some_iff] at h2
  obtain ⟨y, h3, rfl⟩ := h2
  have h4 := rtxt_len h1
  have h5 := rnum_some h3
  have h6 : y.2.length + 8 = x.2.length := by rw [h5.2.2.2, List.length_drop]; have := h5.2.1; omega
  dsimp only
  omega
theorem rids_sz : ∀ {n : Nat} {l : List UInt8} {q : List (List UInt8 × Int) × List UInt8}, rids n l = some q → q.1.length + q.2.length ≤ l.length ∧ ∀ x ∈ q.1, x.1.length ≤ l.length
  | 0, l, q, h => by injection h with h; subst h; exact ⟨by simp, fun x hx => by cases hx⟩
  | n + 1, l, q, h => by
    simp only [rids, Option.bind_eq_some_iff, Option.map_eq_some_iff] at h
    obtain ⟨x, h1, y, h2, rfl⟩ := h
    have h3 := rid_len h1
    have h4 := rids_sz h2
    refine ⟨by simp only [List.length_cons]; omega, fun z hz => ?_⟩
    rcases List.mem_cons.1 hz with rfl | hz
    · exact h3.1
    · have := h4.2 z hz; omega
theorem rnodes_sz : ∀ {n : Nat} {l : List UInt8} {q : List Int × List UInt8}, rnodes n l = some q → q.1.length + q.2.length ≤ l.length
  | 0, l, q, h => by injection h with h; subst h; simp
  | n + 1, l, q, h => by
    simp only [rnodes, Option.bind_eq_some_iff, Option.map_eq_some_iff] at h
    obtain ⟨x, h1, y, h2, rfl⟩ := h
    have h3 := rnum_some h1
    have h4 := rnodes_sz h2
    have h6 : x.2.length + 2 = l.length := by rw [h3.2.2.2, List.length_drop]; have := h3.2.1; omega
    simp only [List.length_cons]; omega
/-- Nothing grows beyond what there was. -/
def Sz (L : Nat) (m : Msg) (l : List UInt8) : Prop := m.ids.length + m.nodes.length + l.length ≤ L ∧ m.key.length ≤ L ∧ m.data.length ≤ L ∧ ∀ x ∈ m.ids, x.1.length ≤ L
theorem rf_sz {L : Nat} {m m1 : Msg} {l l1 : List UInt8} {f : Nat} (hf : f < 11) (h : rf m l f = some (m1, l1)) (hs : Sz L m l) : Sz L m1 l1 ∧ m1.kind = m.kind ∧ (f ≠ 8 → m1.ids = m.ids) ∧ (f ≠ 9 → m1.nodes = m.nodes) ∧ (f ≠ 10 → m1.data = m.data) := by
  obtain ⟨s1, s2, s3, s4⟩ := hs
  have : f = 0 ∨ f = 1 ∨ f = 2 ∨ f = 3 ∨ f = 4 ∨ f = 5 ∨ f = 6 ∨ f = 7 ∨ f = 8 ∨ f = 9 ∨ f = 10 := by omega
  rcases this with rfl | rfl | rfl | rfl | rfl | rfl | rfl | rfl | rfl | rfl | rfl
  · simp only [rf, Option.map_eq_some_iff] at h; obtain ⟨a, h1, h⟩ := h; injection h with h h2; subst h; subst h2; have := rnum_len h1; exact ⟨⟨by dsimp only; omega, s2, s3, s4⟩, rfl, fun _ => rfl, fun _ => rfl, fun _ => rfl⟩
  · simp only [rf, Option.map_eq_some_iff] at h; obtain ⟨a, h1, h⟩ := h; injection h with h h2; subst h; subst h2; have := rtxt_len h1; exact ⟨⟨by dsimp only; omega, by dsimp only; omega, s3, s4⟩, rfl, fun _ => rfl, fun _ => rfl, fun _ => rfl⟩
  · simp only [rf, Option.map_eq_some_iff] at h; obtain ⟨a, h1, h⟩ := h; injection h with h h2; subst h; subst h2; have := rnum_len h1; exact ⟨⟨by dsimp only; omega, s2, s3, s4⟩, rfl, fun _ => rfl, fun _ => rfl, fun _ => rfl⟩
  · simp only [rf, Option.map_eq_some_iff] at h; obtain ⟨a, h1, h⟩ := h; injection h with h h2; subst h; subst h2; have := rnum_len h1; exact ⟨⟨by dsimp only; omega, s2, s3, s4⟩, rfl, fun _ => rfl, fun _ => rfl, fun _ => rfl⟩
  · simp only [rf, Option.map_eq_some_iff] at h; obtain ⟨a, h1, h⟩ := h; injection h with h h2; subst h; subst h2; have := rnum_len h1; exact ⟨⟨by dsimp only; omega, s2, s3, s4⟩, rfl, fun _ => rfl, fun _ => rfl, fun _ => rfl⟩
  · simp only [rf, Option.map_eq_some_iff] at h; obtain ⟨a, h1, h⟩ := h; injection h with h h2; subst h; subst h2; have := rnum_len h1; exact ⟨⟨by dsimp only; omega, s2, s3, s4⟩, rfl, fun _ => rfl, fun _ => rfl, fun _ => rfl⟩
  · simp only [rf, Option.map_eq_some_iff] at h; obtain ⟨a, h1, h⟩ := h; injection h with h h2; subst h; subst h2; have := rnum_len h1; exact ⟨⟨by dsimp only; omega, s2, s3, s4⟩, rfl, fun _ => rfl, fun _ => rfl, fun _ => rfl⟩
  · simp only [rf, Option.bind_eq_some_iff] at h; obtain ⟨a, h1, h⟩ := h; split at h
    · injection h with h; injection h with h h2; subst h; subst h2; have := rnum_len h1; exact ⟨⟨by dsimp only; omega, s2, s3, s4⟩, rfl, fun _ => rfl, fun _ => rfl, fun _ => rfl⟩
    · cases h
  · simp only [rf, Option.bind_eq_some_iff, Option.map_eq_some_iff] at h; obtain ⟨a, h1, b, h3, h⟩ := h; injection h with h h2; subst h; subst h2
    have := rnum_len h1
    have h4 := rids_sz h3
    refine ⟨⟨by dsimp only; rw [List.length_append]; omega, s2, s3, fun x hx => ?_⟩, rfl, fun h => absurd rfl h, fun _ => rfl, fun _ => rfl⟩
    rcases List.mem_append.1 hx with hx | hx
    · exact s4 x hx
    · have := h4.2 x hx; omega
  · simp only [rf, Option.bind_eq_some_iff, Option.map_eq_some_iff] at h; obtain ⟨a, h1, b, h3, h⟩ := h; injection h with h h2; subst h; subst h2
    have := rnum_len h1
    have h4 := rnodes_sz h3
    exact ⟨⟨by dsimp only; rw [List.length_append]; omega, s2, s3, s4⟩, rfl, fun _ => rfl, fun h => absurd rfl h, fun _ => rfl⟩
  · simp only [rf, Option.bind_eq_some_iff, Option.map_eq_some_iff] at h; obtain ⟨a, h1, b, h3, h⟩ := h; injection h with h h2; subst h; subst h2
    have := rnum_len h1
    have h4 := cut_len h3
    exact ⟨⟨by dsimp only; omega, s2, by dsimp only; omega, s4⟩, rfl, fun _ => rfl, fun _ => rfl, fun h => absurd rfl h⟩
theorem flds_nodup (k : Nat) : (flds k).Nodup := by
  by_cases h : k < 21
  · have : ∀ k < 21, (flds k).Nodup := by decide
    exact this k h
  · rw [flds_over (by simp [isK]; omega)]; exact List.nodup_nil
theorem nxt_new {k : Nat} {pre : List Nat} {x : Nat} (h : Nxt k pre x) : x ∉ pre := by
  obtain ⟨_, r, hr⟩ := h
  have h1 := flds_nodup k
  rw [← hr, List.nodup_append] at h1
  intro hx
  exact h1.2.2 x hx x (by simp) rfl
theorem rfs_none {pre r : List Nat} {f : Nat} {m m2 : Msg} {l l2 : List UInt8} (h2 : rfs pre m l = some (m2, l2)) (h3 : rf m2 l2 f = none) : rfs (pre ++ f :: r) m l = none := by
  rw [rfs_app, h2, Option.bind_some]
  show (rf m2 l2 f).bind _ = none
  rw [h3]; rfl
theorem rfs_one {pre : List Nat} {f : Nat} {m m2 m3 : Msg} {l l2 l3 : List UInt8} (h2 : rfs pre m l = some (m2, l2)) (h3 : rf m2 l2 f = some (m3, l3)) : rfs (pre ++ [f]) m l = some (m3, l3) := by
  rw [rfs_app, h2, Option.bind_some]
  show (rf m2 l2 f).bind _ = _
  rw [h3]; rfl
/-- What is told of a message's rows that have not been read. -/
def Frs (pre : List Nat) (m : Msg) (s : Sl) : Prop := (8 ∉ pre → m.ids = [] ∧ s.ia = none ∧ s.ic = 0) ∧ (9 ∉ pre → m.nodes = [] ∧ s.na = none ∧ s.nc = 0) ∧ (10 ∉ pre → m.data = [] ∧ s.da = none ∧ s.dk = 0)
theorem Frs.fresh {pre : List Nat} {m : Msg} {s : Sl} {f : Nat} (h : Frs pre m s) (hf : f ∉ pre) : Fresh f m s := ⟨fun e => h.1 (e ▸ hf), fun e => h.2.1 (e ▸ hf), fun e => h.2.2 (e ▸ hf)⟩
theorem Frs.next {pre : List Nat} {m m1 : Msg} {s s1 : Sl} {f : Nat} (h : Frs pre m s) (hk : Kept f s s1) (h8 : f ≠ 8 → m1.ids = m.ids) (h9 : f ≠ 9 → m1.nodes = m.nodes) (h10 : f ≠ 10 → m1.data = m.data) : Frs (pre ++ [f]) m1 s1 := by
  refine ⟨fun hn => ?_, fun hn => ?_, fun hn => ?_⟩
  · have hf : f ≠ 8 := fun e => hn (by rw [e]; simp)
    have hp := h.1 fun hx => hn (by simp [hx])
    exact ⟨(h8 hf).trans hp.1, (hk.1 hf).1.trans hp.2.1, (hk.1 hf).2.trans hp.2.2⟩
  · have hf : f ≠ 9 := fun e => hn (by rw [e]; simp)
    have hp := h.2.1 fun hx => hn (by simp [hx])
    exact ⟨(h9 hf).trans hp.1, (hk.2.1 hf).1.trans hp.2.1, (hk.2.1 hf).2.trans hp.2.2⟩
  · have hf : f ≠ 10 := fun e => hn (by rw [e]; simp)
    have hp := h.2.2 fun hx => hn (by simp [hx])
    exact ⟨(h10 hf).trans hp.1, (hk.2.2 hf).1.trans hp.2.1, (hk.2.2 hf).2.trans hp.2.2⟩
theorem RowsO.frB {S : Nat → Prop} {w w' : World} {B : Nat} {m : Msg} {s : Sl} (h : RowsO w B m s) (hf : Fr S w w') (hS : ∀ k, S k → k < B) : RowsO w' B m s :=
  h.fr hf fun k hk => ⟨fun n A c xs ho g hg e => by
    rcases ho.form with ⟨e1, _⟩ | ⟨g2, e1, hb, _⟩
    · rw [e1] at hg; cases hg
    · rw [e1] at hg; injection hg with hg; injection hg with hg; have := hS k hk; omega, fun A c xs T hT ho g hg e => by
    rcases ho.form with ⟨e1, _⟩ | ⟨g2, e1, hb, _⟩
    · rw [e1] at hg; cases hg
    · rw [e1] at hg; injection hg with hg; injection hg with hg; have := hS k hk; omega⟩
theorem RowsO.keep {w w' : World} {B : Nat} {m : Msg} {s : Sl} (h : RowsO w B m s) (hb : Below w.heap.size w w') : RowsO w' B m s := ⟨h.1.keep hb, h.2.1.keep hb, h.2.2.keep hb⟩
theorem RowsO.down {w : World} {B B' : Nat} {m : Msg} {s : Sl} (h : RowsO w B m s) (hb : B' ≤ B) : RowsO w B' m s := ⟨h.1.down hb, h.2.1.down hb, h.2.2.down hb⟩
/-- Get's state ahead of its loop, and within it. -/
def GetK (w : World) (q : Nat) (m : Msg) (l : List UInt8) (s : Sl) (W : World) : Prop := Rd W q (q + 2) l ∧ Blk W q 27 (mv m s) ∧ Blk W (q + 3) 71 #[.pointer (some ⟨q + 2, 0, none⟩)] ∧ Blk W (q + 1) 22 #[.int .i64 0] ∧ Below q w W
theorem GetK.fr {w W W' : World} {q : Nat} {m : Msg} {l : List UInt8} {s : Sl} {S : Nat → Prop} (h : GetK w q m l s W) (hf : Fr S W W') (hS : ∀ k, S k → q + 4 ≤ k) : GetK w q m l s W' := by
  obtain ⟨h2, h3, h4, h5, h6⟩ := h
  have e : q ≤ W.heap.size := by have := h3.lt; omega
  exact ⟨h2.fr hf (fun k hk => by have := hS k hk; omega) (fun h => by have := hS _ h; omega), h3.fr hf (fun h => by have := hS _ h; omega), h4.fr hf (fun h => by have := hS _ h; omega), h5.fr hf (fun h => by have := hS _ h; omega), h6.trans (hf.below e fun k hk => by have := hS k hk; omega)⟩
def GetJ (w : World) (q D L : Nat) (m0 : Msg) (r0 : List UInt8) (pre : List Nat) (W : World) : Prop :=
  ∃ m l s, rfs pre m0 r0 = some (m, l) ∧ GetK w q m l s W ∧ RowsO W (D + 2) m s ∧ D + 2 ≤ W.heap.size ∧ Frs pre m s ∧ Sz L m l ∧ m.kind = m0.kind
/-- What a panic leaves. -/
def GetP (w : World) (q : Nat) (b : List UInt8) (ch : List PanicEntry) (W : World) : Prop := ch = thrown ∧ Wi.get b = none ∧ (∃ m s, Blk W q 27 (mv m s)) ∧ Blk W (q + 1) 22 #[.int .i64 0] ∧ Below q w W
/-- The blocks at Get's start. -/
def Bs (w : World) (q : Nat) (W : World) : Prop := Blk W q 27 (mv mz s0) ∧ Blk W (q + 1) 22 #[.int .i64 0] ∧ Below q w W ∧ q ≤ W.heap.size
theorem Bs.fr {w W W' : World} {q : Nat} (h : Bs w q W) (hf : Fr (fun k => k = q + 2) W W') : Bs w q W' :=
  ⟨h.1.fr hf (by omega), h.2.1.fr hf (by omega), h.2.2.1.trans (hf.below h.2.2.2 fun k hk => by omega), Nat.le_trans h.2.2.2 hf.size⟩
set_option maxRecDepth 100000 in
set_option maxHeartbeats 16000000 in
theorem get_any (w : World) (A : Option Addr) (b : List UInt8) (n c : Nat) (hn : n = b.length) (hnc : n ≤ c) (hcc : c ≤ 9223372036854775807) (hA : Bytes w w.heap.size A b) (hT : HasT w) (hbl : b.length ≤ 1000000) :
    Calls Tryd.prog 15 #[.slice A n c] w (GotR w b) := by
  subst hn
  have hmf : ∀ (fn : Fn) (first cap : Array Value) (w : World), (Instr.makeFunc fn first cap).run Tryd.prog w = .ok (.func fn first cap) w := fun _ _ _ _ => rfl
  have hbd : ∀ (W : World) (A : Option Addr) (n c : Nat), (Instr.build 73 #[(0, .slice A n c)]).run Tryd.prog W = .ok (.agg #[.slice A n c]) W := fun W A n c => by kernel_rfl
  obtain ⟨q, hq⟩ : ∃ q, w.heap.size = q := ⟨_, rfl⟩
  obtain ⟨w2, hw2⟩ : ∃ w2 : World, ((((w.alloc (.cells #[.int .u8 0, .int .i64 0, .int .i64 0, .int .i64 0, .string { data := #[] }, .int .i64 0, .int .i64 0, .int .i64 0, .int .i64 0, .int .i64 0, .bool false, .slice none 0 0, .slice none 0 0, .slice none 0 0] 27)).alloc (.cells #[.int .i64 0] 22)).alloc (.cells #[.slice A b.length c] 73)).alloc (.cells #[.pointer (some ⟨q + 2, 0, none⟩)] 71)) = w2 := ⟨_, rfl⟩
  have hb2 : Below w.heap.size w w2 := by rw [← hw2]; exact nextA (nextA (nextA (nextA (Mem.start w) _) _) _) _
  have HQ2 := Lib.hid (show Blk w2 q 27 #[.int .u8 0, .int .i64 0, .int .i64 0, .int .i64 0, .string { data := #[] }, .int .i64 0, .int .i64 0, .int .i64 0, .int .i64 0, .int .i64 0, .bool false, .slice none 0 0, .slice none 0 0, .slice none 0 0] ∧ Blk w2 (q + 1) 22 #[.int .i64 0] ∧ Blk w2 (q + 2) 73 #[.slice A b.length c] ∧ Blk w2 (q + 3) 71 #[.pointer (some ⟨q + 2, 0, none⟩)] by
    rw [← hw2, ← hq]
    refine ⟨?_, ?_, ?_, ?_⟩
    · exact (((Blk.new w _ _).keep (nextA (Mem.start _) _)).keep (nextA (Mem.start _) _)).keep (nextA (Mem.start _) _)
    · have := ((Blk.new (w.alloc (.cells #[.int .u8 0, .int .i64 0, .int .i64 0, .int .i64 0, .string { data := #[] }, .int .i64 0, .int .i64 0, .int .i64 0, .int .i64 0, .int .i64 0, .bool false, .slice none 0 0, .slice none 0 0, .slice none 0 0] 27)) 22 #[.int .i64 0]).keep (nextA (Mem.start _) (.cells #[.slice A b.length c] 73))).keep (nextA (Mem.start _) (.cells #[.pointer (some ⟨w.heap.size + 2, 0, none⟩)] 71))
      rw [World.size_alloc] at this; exact this
    · have := (Blk.new ((w.alloc (.cells #[.int .u8 0, .int .i64 0, .int .i64 0, .int .i64 0, .string { data := #[] }, .int .i64 0, .int .i64 0, .int .i64 0, .int .i64 0, .int .i64 0, .bool false, .slice none 0 0, .slice none 0 0, .slice none 0 0] 27)).alloc (.cells #[.int .i64 0] 22)) 73 #[.slice A b.length c]).keep (nextA (Mem.start _) (.cells #[.pointer (some ⟨w.heap.size + 2, 0, none⟩)] 71))
      rw [World.size_alloc, World.size_alloc] at this; exact this
    · have := Blk.new (((w.alloc (.cells #[.int .u8 0, .int .i64 0, .int .i64 0, .int .i64 0, .string { data := #[] }, .int .i64 0, .int .i64 0, .int .i64 0, .int .i64 0, .int .i64 0, .bool false, .slice none 0 0, .slice none 0 0, .slice none 0 0] 27)).alloc (.cells #[.int .i64 0] 22)).alloc (.cells #[.slice A b.length c] 73)) 71 #[.pointer (some ⟨w.heap.size + 2, 0, none⟩)]
      rw [World.size_alloc, World.size_alloc, World.size_alloc] at this; exact this)
  have HB2 := Lib.hid (show Below q w w2 ∧ w2.heap.size = q + 4 ∧ q = w.heap.size by rw [← hq]; exact ⟨hb2, by rw [← hw2]; simp, rfl⟩)
  have HR2 := Lib.hid (show Rd w2 q (q + 2) b from ⟨by omega, A, c, HQ2.out.2.2.1, by rw [← hq]; exact hA.below hb2, hnc, hcc⟩)
  have HT := Lib.hid (And.intro hT hT.pos)
  have HL := Lib.hid hbl
  have HZ2 := Lib.hid (show Bs w q w2.drew from ⟨HQ2.out.1.keep (nextN (Mem.start _) 1), HQ2.out.2.1.keep (nextN (Mem.start _) 1), HB2.out.1.trans ⟨rfl, rfl, rfl, Nat.le_refl _, fun _ _ => rfl⟩, by show q ≤ w2.heap.size; have := HB2.out.2.1; omega⟩)
  clear hb2 hA hT hbl hnc hcc
  refine of_wide ?_
  refine calls_of_wpAt Tryd.func15 rfl ?_
  simp only [Tryd.ntmps15, List.size_toArray, List.length_cons, List.length_nil, Nat.reduceAdd, Nat.reduceSub, Array.replicate_succ, Array.replicate_zero, List.push_toArray, List.append_toArray, List.nil_append, List.cons_append]
  refine wpAt_seq1 ?_
  go_wp2_with fail
  refine wpAt_seq1 ?_
  go_wp2_with fail
  refine wpAt_seq1 ?_
  go_wp2_with fail
  refine wpAt_seq1 ?_
  have HW2 := Lib.hid hw2
  clear hbd hw2 hmf
  refine wp_region_panR [CL q] (.pointer (some ⟨q, 0, none⟩)) (.pointer (some ⟨q + 1, 0, none⟩)) (GetP w q b) (fun ch a' w' hd h2 h3 hp => ?pan) ?_
  case pan =>
    obtain ⟨rfl, hg, ⟨m, s, hB⟩, hE, hb⟩ := hp
    show LeavesInM Fence.wide 5 Tryd.prog Tryd.f15 a'.tmps (GotR w b) a'.defers (.panicking thrown) w'
    rw [hd]
    exact leave_one w _ q m s _ a'.tmps b hq h2 h3 hB hE hb hg
  refine wp_heldG (fun V => Blk V (q + 3) 71 #[.pointer (some ⟨q + 2, 0, none⟩)]) [] (by kernel_rfl) ?hs0 ?rg0
  case hs0 =>
    exact HQ2.out.2.2.2.keep (nextN (Mem.start _) 1)
  case rg0 =>
  intro hHeld
  refine wpAnyG_take (i := 0) (oi := { dst := some 10, op := Op.load 71 (Operand.tmp 4), type := 71, pos := _, after := #[], guard := none }) (v := ?_) rfl (by kernel_rfl) (by kernel_rfl) (by kernel_rfl) (by kernel_rfl) (fun _ _ _ h => panR_put (by decide) h) (Or.inl ⟨by rfl, ?_⟩) (by assumption) ?_
  rotate_left
  · intro w hSw
    try dsimp only at hSw
    have hk := hSw.cell 0
    simp at hk
    go_simp
    try with_reducible rfl
  try simp only [Act.put, List.setIfInBounds_toArray, List.set_cons_zero, List.set_cons_succ]
  refine wpAnyG_take (i := 3) (oi := { dst := some 13, op := Op.load 71 (Operand.tmp 4), type := 71, pos := _, after := #[], guard := none }) (v := ?_) rfl (by kernel_rfl) (by kernel_rfl) (by kernel_rfl) (by kernel_rfl) (fun _ _ _ h => panR_put (by decide) h) (Or.inl ⟨by rfl, ?_⟩) (by assumption) ?_
  rotate_left
  · intro w hSw
    try dsimp only at hSw
    have hk := hSw.cell 0
    simp at hk
    go_simp
    try with_reducible rfl
  try simp only [Act.put, List.setIfInBounds_toArray, List.set_cons_zero, List.set_cons_succ]
  refine wpAnyG_take (i := 5) (oi := { dst := some 15, op := Op.load 71 (Operand.tmp 4), type := 71, pos := _, after := #[], guard := none }) (v := ?_) rfl (by kernel_rfl) (by kernel_rfl) (by kernel_rfl) (by kernel_rfl) (fun _ _ _ h => panR_put (by decide) h) (Or.inl ⟨by rfl, ?_⟩) (by assumption) ?_
  rotate_left
  · intro w hSw
    try dsimp only at hSw
    have hk := hSw.cell 0
    simp at hk
    go_simp
    try with_reducible rfl
  try simp only [Act.put, List.setIfInBounds_toArray, List.set_cons_zero, List.set_cons_succ]
  refine wpAnyG_one (i := 1) (o := { dst := some 11, op := Op.call { callee := Callee.value (Operand.func 35), args := #[Operand.tmp 10, Operand.const (Value.int IntKind.i64 1)], argTypes := #[71, 3] }, type := 2, pos := _, after := #[{ on := 0, ground := Ground.data }], guard := none }) (by kernel_rfl) rfl (fun K hK => ?_)
  go_simp
  refine (number_any _ q (q + 2) 1 _ (HR2.out.keep (nextN (Mem.start _) 1)) (by decide)).mono ?_
  rintro e w4 he
  rcases h1 : rnum 1 b with _ | ⟨n1, r1⟩
  · rw [h1] at he
    obtain ⟨hf, rfl⟩ := he
    have hz := HZ2.out.fr hf
    exact ⟨rfl, ⟨rfl, rfl⟩, rfl, by unfold Wi.get rall rhead; simp only [h1]; rfl, ⟨_, _, hz.1⟩, hz.2.1, hz.2.2.1⟩
  rw [h1] at he
  obtain ⟨hf, rfl, hr1⟩ := he
  dsimp only [Option.map_some] at hr1 ⊢
  have hn := (rnum_some h1).1
  dsimp only at hn
  rw [sgn_small (show n1 < 9223372036854775808 by omega)]
  have HZ3 := Lib.hid (HZ2.out.fr hf)
  have HD1 := Lib.hid hr1
  have HHA := Lib.hid (And.intro h1 (show n1 < 65536 by omega))
  have hwk : IntKind.u8.wrap (n1 : Int) = (n1 : Int) := by
    have e : ∀ x : Int, IntKind.u8.wrap x = x % 256 := fun _ => rfl
    rw [e]; omega
  have HK1 := Lib.hid (show n1 < 256 by omega)
  clear hr1 hn h1
  refine hK.out _ _ ?_ (fun hHeld => ?_)
  · intro _
    try dsimp only
    exact hHeld.fr hf (by omega)
  clear hK K
  try simp only [Act.put, List.setIfInBounds_toArray, List.set_cons_zero, List.set_cons_succ]
  have hHeld := hHeld (by kernel_rfl)
  refine wpAnyG_pure (i := 2) (oi := { dst := some 12, op := Op.convert 2 5 (Operand.tmp 11), type := 5, pos := _, after := #[{ on := 1, ground := Ground.data }], guard := none }) (v := ?_) rfl (by kernel_rfl) (by kernel_rfl) (by kernel_rfl) (by kernel_rfl) (fun _ _ _ h => panR_put (by decide) h) (Or.inl ⟨by rfl, ?_⟩) (fun _ => by assumption) ?_
  rotate_left
  · intro w hSw
    try dsimp only at hSw
    go_simp
    try with_reducible rfl
  try simp only [Act.put, List.setIfInBounds_toArray, List.set_cons_zero, List.set_cons_succ]
  refine wpAnyG_one (i := 4) (o := { dst := some 14, op := Op.call { callee := Callee.value (Operand.func 35), args := #[Operand.tmp 13, Operand.const (Value.int IntKind.i64 2)], argTypes := #[71, 3] }, type := 2, pos := _, after := #[{ on := 3, ground := Ground.data }, { on := 1, ground := Ground.chain }], guard := none }) (by kernel_rfl) rfl (fun K hK => ?_)
  go_simp
  refine (number_any _ q (q + 2) 2 _ (HD1.out) (by decide)).mono ?_
  rintro e w5 he
  rcases h1 : rnum 2 r1 with _ | ⟨n2, r2⟩
  · rw [h1] at he
    obtain ⟨hf, rfl⟩ := he
    have hz := HZ3.out.fr hf
    exact ⟨rfl, ⟨rfl, rfl⟩, rfl, by unfold Wi.get rall rhead; simp only [HHA.out.1, Option.bind_some, h1]; rfl, ⟨_, _, hz.1⟩, hz.2.1, hz.2.2.1⟩
  rw [h1] at he
  obtain ⟨hf, rfl, hr2⟩ := he
  dsimp only [Option.map_some] at hr2 ⊢
  have hn := (rnum_some h1).1
  dsimp only at hn
  rw [sgn_small (show n2 < 9223372036854775808 by omega)]
  have HZ4 := Lib.hid (HZ3.out.fr hf)
  have HD2 := Lib.hid hr2
  have HHB := Lib.hid (And.intro h1 (show n2 < 65536 by omega))
  clear hr2 hn h1
  refine hK.out _ _ ?_ (fun hHeld => ?_)
  · intro _
    try dsimp only
    exact hHeld.fr hf (by omega)
  clear hK K
  try simp only [Act.put, List.setIfInBounds_toArray, List.set_cons_zero, List.set_cons_succ]
  have hHeld := hHeld (by kernel_rfl)
  refine wpAnyG_one (i := 6) (o := { dst := some 16, op := Op.call { callee := Callee.value (Operand.func 35), args := #[Operand.tmp 15, Operand.const (Value.int IntKind.i64 2)], argTypes := #[71, 3] }, type := 2, pos := _, after := #[{ on := 5, ground := Ground.data }, { on := 4, ground := Ground.chain }], guard := none }) (by kernel_rfl) rfl (fun K hK => ?_)
  go_simp
  refine (number_any _ q (q + 2) 2 _ (HD2.out) (by decide)).mono ?_
  rintro e w6 he
  rcases h1 : rnum 2 r2 with _ | ⟨n3, r0⟩
  · rw [h1] at he
    obtain ⟨hf, rfl⟩ := he
    have hz := HZ4.out.fr hf
    exact ⟨rfl, ⟨rfl, rfl⟩, rfl, by unfold Wi.get rall rhead; simp only [HHA.out.1, HHB.out.1, Option.bind_some, h1]; rfl, ⟨_, _, hz.1⟩, hz.2.1, hz.2.2.1⟩
  rw [h1] at he
  obtain ⟨hf, rfl, hr3⟩ := he
  dsimp only [Option.map_some] at hr3 ⊢
  have hn := (rnum_some h1).1
  dsimp only at hn
  rw [sgn_small (show n3 < 9223372036854775808 by omega)]
  have HZ5 := Lib.hid (HZ4.out.fr hf)
  have HD3 := Lib.hid hr3
  have HHC := Lib.hid (And.intro h1 (show n3 < 65536 by omega))
  clear hr3 hn h1
  refine hK.out _ _ ?_ (fun hHeld => ?_)
  · intro _
    try dsimp only
    exact hHeld.fr hf (by omega)
  clear hK K
  try simp only [Act.put, List.setIfInBounds_toArray, List.set_cons_zero, List.set_cons_succ]
  have hHeld := hHeld (by kernel_rfl)
  refine wpAnyG_pure (i := 7) (oi := { dst := some 17, op := Op.fieldAddr 27 (Operand.tmp 2) 0, type := 0, pos := _, after := #[{ on := 0, ground := Ground.phase }, { on := 1, ground := Ground.phase }, { on := 2, ground := Ground.phase }, { on := 3, ground := Ground.textOnly Departure.lateStoresUnsure }, { on := 4, ground := Ground.phase }, { on := 5, ground := Ground.textOnly Departure.lateStoresUnsure }, { on := 6, ground := Ground.phase }], guard := none }) (v := ?_) rfl (by kernel_rfl) (by kernel_rfl) (by kernel_rfl) (by kernel_rfl) (fun _ _ _ h => panR_put (by decide) h) (Or.inl ⟨by rfl, ?_⟩) (fun _ => by assumption) ?_
  rotate_left
  · intro w hSw
    try dsimp only at hSw
    go_simp
    try with_reducible rfl
  try simp only [Act.put, List.setIfInBounds_toArray, List.set_cons_zero, List.set_cons_succ]
  refine wpAnyG_one (i := 8) (o := { dst := none, op := Op.store 5 (Operand.tmp 17) (Operand.tmp 12), type := 0, pos := _, after := #[{ on := 7, ground := Ground.data }, { on := 2, ground := Ground.data }, { on := 6, ground := Ground.chain }, { on := 0, ground := Ground.phase }, { on := 1, ground := Ground.phase }, { on := 2, ground := Ground.phase }, { on := 3, ground := Ground.textOnly Departure.lateStoresUnsure }, { on := 4, ground := Ground.phase }, { on := 5, ground := Ground.textOnly Departure.lateStoresUnsure }, { on := 6, ground := Ground.phase }], guard := none }) (by kernel_rfl) rfl (fun K hK => ?_)
  have z0 := HZ5.out.1.frozen 0
  have c0 := HZ5.out.1.cell 0
  simp [mv] at c0
  go_simp
  try dsimp only
  refine hK.out _ _ ?_ (fun hHeld => ?_)
  · intro _
    try dsimp only
    exact hHeld.fr (Fr.setCell (S := fun k => k = q) (Fr.refl _ _) (p := ⟨q, 0, none⟩) (fun _ => rfl) _) (by omega)
  clear hK K
  try simp only [Act.put, List.setIfInBounds_toArray, List.set_cons_zero, List.set_cons_succ]
  have hHeld := hHeld (by kernel_rfl)
  refine wpAnyG_pure (i := 9) (oi := { dst := some 18, op := Op.fieldAddr 27 (Operand.tmp 2) 1, type := 0, pos := _, after := #[{ on := 0, ground := Ground.phase }, { on := 1, ground := Ground.phase }, { on := 2, ground := Ground.phase }, { on := 3, ground := Ground.phase }, { on := 4, ground := Ground.phase }, { on := 5, ground := Ground.textOnly Departure.lateStoresUnsure }, { on := 6, ground := Ground.phase }, { on := 7, ground := Ground.phase }, { on := 8, ground := Ground.phase }], guard := none }) (v := ?_) rfl (by kernel_rfl) (by kernel_rfl) (by kernel_rfl) (by kernel_rfl) (fun _ _ _ h => panR_put (by decide) h) (Or.inl ⟨by rfl, ?_⟩) (fun _ => by assumption) ?_
  rotate_left
  · intro w hSw
    try dsimp only at hSw
    go_simp
    try with_reducible rfl
  try simp only [Act.put, List.setIfInBounds_toArray, List.set_cons_zero, List.set_cons_succ]
  refine wpAnyG_one (i := 10) (o := { dst := none, op := Op.store 3 (Operand.tmp 18) (Operand.tmp 14), type := 0, pos := _, after := #[{ on := 9, ground := Ground.data }, { on := 4, ground := Ground.data }, { on := 8, ground := Ground.chain }, { on := 0, ground := Ground.phase }, { on := 1, ground := Ground.phase }, { on := 2, ground := Ground.phase }, { on := 3, ground := Ground.phase }, { on := 4, ground := Ground.phase }, { on := 5, ground := Ground.textOnly Departure.lateStoresUnsure }, { on := 6, ground := Ground.phase }, { on := 7, ground := Ground.phase }, { on := 8, ground := Ground.phase }], guard := none }) (by kernel_rfl) rfl (fun K hK => ?_)
  have z0 := (HZ5.out.1.set_ 0 (.int .u8 (n1 : Int))).frozen 1
  have c0 := (HZ5.out.1.set_ 0 (.int .u8 (n1 : Int))).cell 1
  simp [mv] at c0
  go_simp
  try dsimp only
  refine hK.out _ _ ?_ (fun hHeld => ?_)
  · intro _
    try dsimp only
    exact hHeld.fr (Fr.setCell (S := fun k => k = q) (Fr.refl _ _) (p := ⟨q, 1, none⟩) (fun _ => rfl) _) (by omega)
  clear hK K
  try simp only [Act.put, List.setIfInBounds_toArray, List.set_cons_zero, List.set_cons_succ]
  have hHeld := hHeld (by kernel_rfl)
  refine wpAnyG_pure (i := 11) (oi := { dst := some 19, op := Op.fieldAddr 27 (Operand.tmp 2) 2, type := 0, pos := _, after := #[{ on := 0, ground := Ground.phase }, { on := 1, ground := Ground.phase }, { on := 2, ground := Ground.phase }, { on := 3, ground := Ground.phase }, { on := 4, ground := Ground.phase }, { on := 5, ground := Ground.phase }, { on := 6, ground := Ground.phase }, { on := 7, ground := Ground.phase }, { on := 8, ground := Ground.phase }, { on := 9, ground := Ground.phase }, { on := 10, ground := Ground.phase }], guard := none }) (v := ?_) rfl (by kernel_rfl) (by kernel_rfl) (by kernel_rfl) (by kernel_rfl) (fun _ _ _ h => panR_put (by decide) h) (Or.inl ⟨by rfl, ?_⟩) (fun _ => by assumption) ?_
  rotate_left
  · intro w hSw
    try dsimp only at hSw
    go_simp
    try with_reducible rfl
  try simp only [Act.put, List.setIfInBounds_toArray, List.set_cons_zero, List.set_cons_succ]
  refine wpAnyG_one (i := 12) (o := { dst := none, op := Op.store 3 (Operand.tmp 19) (Operand.tmp 16), type := 0, pos := _, after := #[{ on := 11, ground := Ground.data }, { on := 6, ground := Ground.data }, { on := 10, ground := Ground.chain }, { on := 0, ground := Ground.phase }, { on := 1, ground := Ground.phase }, { on := 2, ground := Ground.phase }, { on := 3, ground := Ground.phase }, { on := 4, ground := Ground.phase }, { on := 5, ground := Ground.phase }, { on := 6, ground := Ground.phase }, { on := 7, ground := Ground.phase }, { on := 8, ground := Ground.phase }, { on := 9, ground := Ground.phase }, { on := 10, ground := Ground.phase }], guard := none }) (by kernel_rfl) rfl (fun K hK => ?_)
  have z0 := ((HZ5.out.1.set_ 0 (.int .u8 (n1 : Int))).set_ 1 (.int .i64 (n2 : Int))).frozen 2
  have c0 := ((HZ5.out.1.set_ 0 (.int .u8 (n1 : Int))).set_ 1 (.int .i64 (n2 : Int))).cell 2
  simp [mv] at c0
  go_simp
  try dsimp only
  refine hK.out _ _ ?_ (fun hHeld => ?_)
  · intro _
    try dsimp only
    exact hHeld.fr (Fr.setCell (S := fun k => k = q) (Fr.refl _ _) (p := ⟨q, 2, none⟩) (fun _ => rfl) _) (by omega)
  clear hK K
  try simp only [Act.put, List.setIfInBounds_toArray, List.set_cons_zero, List.set_cons_succ]
  have hHeld := hHeld (by kernel_rfl)
  refine wpAnyG_done (by kernel_rfl) ?_ _
  refine PanR.normal ?_
  have HH3 := Lib.hid hHeld
  clear hHeld
  obtain ⟨w7, hw7⟩ : ∃ x : World, ((w6.setCell ⟨q, 0, none⟩ (.int .u8 (n1 : Int))).setCell ⟨q, 1, none⟩ (.int .i64 (n2 : Int))).setCell ⟨q, 2, none⟩ (.int .i64 (n3 : Int)) = x := ⟨_, rfl⟩
  have hf7 : Fr (fun k => k = q) w6 w7 := by
    rw [← hw7]
    exact Fr.setCell (S := fun k => k = q) (Fr.setCell (S := fun k => k = q) (Fr.setCell (S := fun k => k = q) (w' := w6) (Fr.refl _ w6) (p := ⟨q, 0, none⟩) (fun _ => rfl) _) (p := ⟨q, 1, none⟩) (fun _ => rfl) _) (p := ⟨q, 2, none⟩) (fun _ => rfl) _
  obtain ⟨m0, hm0⟩ : ∃ m0, msg0 n1 (n2 : Int) (n3 : Int) = m0 := ⟨_, rfl⟩
  have HI7 := Lib.hid (show GetK w q m0 r0 s0 w7 from ⟨HD3.out.fr hf7 (fun k hk => by omega) (by omega), by
    rw [← hw7, ← hm0]
    have := ((HZ5.out.1.set_ 0 (.int .u8 (n1 : Int))).set_ 1 (.int .i64 (n2 : Int))).set_ 2 (.int .i64 (n3 : Int))
    exact this, by rw [← hw7]; exact HH3.out, HZ5.out.2.1.fr hf7 (by omega), HZ5.out.2.2.1.trans (hf7.below HZ5.out.2.2.2 fun k hk => by omega)⟩)
  have HM0 := Lib.hid (show m0.kind = n1 ∧ m0.ids = [] ∧ m0.nodes = [] ∧ m0.data = [] ∧ Sz 1000000 m0 r0 by
    have l1 := rnum_len HHA.out.1
    have l2 := rnum_len HHB.out.1
    have l3 := rnum_len HHC.out.1
    dsimp only at l1 l2 l3
    rw [← hm0]
    exact ⟨rfl, rfl, rfl, rfl, by have := HL.out; simp [msg0]; omega, by simp [msg0], by simp [msg0], fun x hx => by cases hx⟩)
  have HG := Lib.hid (show ∀ o, rfs (flds n1) m0 r0 = o → Wi.get b = o.bind fun p => if p.2.length = 0 ∧ may p.1 = true then some p.1 else none from fun o ho => by
    unfold Wi.get rall rhead
    simp only [HHA.out.1, HHB.out.1, HHC.out.1, Option.bind_some, Option.map_some, hm0]
    rw [show m0.kind = n1 from HM0.out.1, ho])
  have c0 : w7.cell? ⟨q, 0, none⟩ = some (.int .u8 (n1 : Int)) := by
    have := HI7.out.2.1.cell 0
    rw [this]; rw [← hm0]; rfl
  rw [hw7]
  clear hf7 hw7 hm0
  go_wp2_with fail
  refine wpAt_seq ?_
  refine wpAt_seq1 ?_
  go_wp2_with fail
  refine (fieldsOf_any w7 n1).mono ?_
  rintro e w8 ⟨rfl, hw8⟩
  obtain ⟨kb, hkb⟩ : ∃ kb, w7.heap.size = kb := ⟨_, rfl⟩
  have hb8 : Below w7.heap.size w7 w8 := by rw [← hw8]; exact nextA (Mem.start w7) _
  have HS8 := Lib.hid (show w8.heap.size = kb + 1 ∧ q + 3 < kb ∧ 0 < q by
    refine ⟨by rw [← hw8, World.size_alloc, hkb], ?_, by have := HT.out.2; have := HB2.out.2.2; omega⟩
    rw [← hkb]; exact HI7.out.2.2.1.lt)
  have HC8 := Lib.hid (show w8.cell? ⟨kb, 0, none⟩ = some (.int .u8 (n1 : Int)) by rw [← hw8, ← hkb, new_cell]; rfl)
  have HI8 := Lib.hid (HI7.out.fr (Fr.quiet (S := fun _ => False) hb8) (fun _ h => h.elim))
  have HT8 := Lib.hid (show HasT w8 from fun k hk => by
    have h := HI8.out.2.2.2.2
    exact (h.cell (by have := HS8.out; dsimp only; omega)).trans (HT.out.1 k hk))
  rw [hkb]
  clear hw8 hb8 hkb c0
  go_wp2_with fail
  refine wpAt_block ?_
  refine wpAt_rangeX Tryd.func15 (gf := 57) (lb := #[.pointer (some ⟨kb, 0, none⟩)]) (encs := fun f : Nat => #[.int .u16 (bit f)]) rfl (enters_of Tryd.func57 (by kernel_rfl) rfl) (fun _ => rfl)
    (fun pre W' => GetJ w q (kb + 1) 1000000 m0 r0 pre W') (fun ch W' => GetP w q b ch W') (fun pre x W1 => Nxt n1 pre x) (fun k => k = q + 2 ∨ k = q) (S := fun xs => xs = flds n1) ?hsb
    (fields_callX w8 kb n1 HK1.out _ HT8.out (by have := HS8.out; omega) HC8.out)
    ?hI ?hLX ?h0 ?round ?done ?hpan
  case hsb => rw [HS8.out.1]; have := HS8.out; omega
  case hI =>
    rintro pre W1 W2 ⟨m, l, s, h1, h2, h3, h4, h5, h6⟩ hf
    rw [HS8.out.1] at hf
    exact ⟨m, l, s, h1, h2.fr hf (fun k h => by have := HS8.out; omega), h3.frB hf (fun k h => by omega), Nat.le_trans h4 hf.size, h5, h6⟩
  case hLX => exact fun pre x W1 W2 h hf => h
  case h0 =>
    intro W1 hb hsz
    rw [HS8.out.1] at hsz
    refine ⟨m0, r0, s0, rfl, HI8.out.fr (Fr.quiet (S := fun _ => False) hb) (fun _ h => h.elim), ?_, by omega, ?_, HM0.out.2.2.2.2, rfl⟩
    · refine ⟨?_, ?_, ?_⟩
      · rw [HM0.out.2.1]; exact OwnK.nil
      · rw [HM0.out.2.2.1]; exact Own.nil
      · rw [HM0.out.2.2.2.1]; exact Own.nil
    · exact ⟨fun _ => ⟨HM0.out.2.1, rfl, rfl⟩, fun _ => ⟨HM0.out.2.2.1, rfl, rfl⟩, fun _ => ⟨HM0.out.2.2.2.1, rfl, rfl⟩⟩
  case round =>
    rintro lp pre x W1 hI1 hx1
    gi_wp2
    refine ⟨trivial, ?_⟩
    clear hI1 hx1
    rintro W2 hI2 hx
    obtain ⟨m, l, s, h1, h2, h3, h4, h5, h6, h7⟩ := hI2
    have HX := Lib.hid (And.intro hx (And.intro h1 (And.intro h5 (And.intro h6 h7))))
    have HY := Lib.hid (And.intro h2 (And.intro h3 h4))
    have c4 := h2.2.2.1.cell 0
    simp at c4
    rw [show q + 3 = q + 1 + 1 + 1 from rfl] at c4
    clear h1 h2 h3 h4 h5 h6 h7 hx
    gi_wp2
    refine (wideR (getAny W2 q (kb + 1 + 2) (q + 2) q m s l x HX.out.1.1 HY.out.1.1 HY.out.1.2.1 HY.out.2.1 HY.out.2.2 ⟨Nat.le_refl _, by omega⟩ (HX.out.2.2.1.fresh (nxt_new HX.out.1)) (by have := HX.out.2.2.2.1.1; omega))).mono ?_
    rintro e w9 ⟨hf9, h9⟩
    have hle : q ≤ W2.heap.size := by have := HY.out.1.2.1.lt; omega
    have hE9 := HY.out.1.2.2.2.1.fr hf9 (by omega)
    have hb9 := HY.out.1.2.2.2.2.trans (hf9.below hle fun k hk => by omega)
    cases hr : rf m l x with
    | none =>
      rw [hr] at h9
      obtain ⟨rfl, m', s', hq9⟩ := h9
      obtain ⟨r, hnx⟩ := HX.out.1.2
      have hnn := rfs_none (r := r) HX.out.2.1 hr
      rw [hnx] at hnn
      have HZ := Lib.hid (show Fr (fun k => k = q + 2 ∨ k = q) W2 w9 ∧ GetP w q b thrown w9 from ⟨hf9, rfl, by rw [HG.out _ hnn]; rfl, ⟨m', s', hq9⟩, hE9, hb9⟩)
      clear hf9 hE9 hb9 hq9 hnn hr hnx c4 hle
      gi_wp2
      exact ⟨rfl, HZ.out⟩
    | some y =>
      rw [hr] at h9
      obtain ⟨rfl, hr9, s', hq9, hR9, hk9⟩ := h9
      obtain ⟨m3, l3⟩ := y
      have hsz := rf_sz HX.out.1.1 hr HX.out.2.2.2.1
      have HZ := Lib.hid (show Fr (fun k => k = q + 2 ∨ k = q) W2 w9 ∧ GetJ w q (kb + 1) 1000000 m0 r0 (pre ++ [x]) w9 from ⟨hf9, m3, l3, s', rfs_one HX.out.2.1 hr, ⟨hr9, hq9, HY.out.1.2.2.1.fr hf9 (by omega), hE9, hb9⟩, hR9, Nat.le_trans HY.out.2.2 hf9.size, HX.out.2.2.1.next hk9 hsz.2.2.1 hsz.2.2.2.1 hsz.2.2.2.2, hsz.1, hsz.2.1.trans HX.out.2.2.2.2⟩)
      clear hf9 hE9 hb9 hq9 hr hr9 hR9 hk9 hsz c4 hle
      gi_wp2
      exact HZ.out
  case hpan =>
    rintro D ch W hD ⟨rfl, hg, ⟨m, s, hB⟩, hE, hb⟩ hK
    rw [HS8.out.1] at hD
    exact leave_two w W q D m s _ _ b HB2.out.2.2.symm rfl rfl hB hE hb hg hK (by have := HS8.out; omega)
  case done =>
    rintro D xs W hD rfl hI5 hK
    rw [HS8.out.1] at hD
    obtain ⟨m1, l, s, h1, ⟨g0, h3, h4, h5, h6⟩, hR, hsz0, _, hsz, hkind⟩ := hI5
    have hg := HG.out _ h1
    rw [Option.bind_some] at hg
    dsimp only at hg
    have HMI := Lib.hid (show HasT W ∧ MIn W W.heap.size m1 s from ⟨fun k hk => (h6.cell (by have := HS8.out; dsimp only; omega)).trans (HT.out.1 k hk), by
      obtain ⟨z1, z2, z3, z4⟩ := hsz
      exact ⟨hR.1.cells, hR.2.1.cells, hR.2.2.cells, by rw [hkind, HM0.out.1]; exact HK1.out, by omega, by omega, by omega, by omega, fun x hx => by have := z4 x hx; omega⟩⟩)
    obtain ⟨_, A', c', g1, g2, g3⟩ := g0
    clear h1 hsz0 hsz hkind
    show WpAt _ _ _ _ _ _
    by_cases hl : l.length = 0
    · have hln : l = [] := List.eq_nil_of_length_eq_zero hl
      subst hln
      cases hm : may m1 with
      | true =>
      have HG1 := Lib.hid (show Wi.get b = some m1 ∧ may m1 = true from ⟨by rw [hg, if_pos ⟨rfl, hm⟩], hm⟩)
      clear hg hm hl
      have HX := Lib.hid h3
      have HD := Lib.hid (And.intro hD (And.intro hK (And.intro h4 (And.intro h5 (And.intro h6 hR)))))
      have c0 := HX.out.cell 0
      have c1 := HX.out.cell 1
      have c2 := HX.out.cell 2
      have c3 := HX.out.cell 3
      have c4 := HX.out.cell 4
      have c5 := HX.out.cell 5
      have c6 := HX.out.cell 6
      have c7 := HX.out.cell 7
      have c8 := HX.out.cell 8
      have c9 := HX.out.cell 9
      have c10 := HX.out.cell 10
      have c11 := HX.out.cell 11
      have c12 := HX.out.cell 12
      have c13 := HX.out.cell 13
      simp [mv] at c0 c1 c2 c3 c4 c5 c6 c7 c8 c9 c10 c11 c12 c13
      have d0 := g1.cell 0
      simp at d0
      have d4 := h4.cell 0
      simp at d4
      rw [show q + 3 = q + 1 + 1 + 1 from rfl] at d4
      clear h3 h4 h5 h6 hD hK hR g1 g2 g3
      refine wpAt_seq1 ?_
      go_wp2_with fail
      refine (may_any W m1 s HMI.out.1 HMI.out.2).mono ?_
      rintro e w3 ⟨rfl, hb3⟩
      rw [HG1.out.2]
      have HX3 := Lib.hid (HX.out.keep hb3)
      have HD3' := Lib.hid (show Blk w3 (q + 1) 22 #[.int .i64 0] ∧ Below q w w3 ∧ w3.heap[D]? = some (.deferred (some [])) ∧ RowsO w3 (kb + 1 + 2) m1 s from ⟨HD.out.2.2.2.1.keep hb3, HD.out.2.2.2.2.1.trans (hb3.mono (by have := HX.out.lt; omega)), by
        rw [hb3.block D (Array.getElem?_eq_some_iff.1 HD.out.2.1).1]; exact HD.out.2.1, HD.out.2.2.2.2.2.keep hb3⟩)
      clear hb3 c0 c1 c2 c3 c4 c5 c6 c7 c8 c9 c10 c11 c12 c13 d0 d4
      go_wp2_with fail
      refine (want_ok _).mono ?_
      rintro e w4' ⟨rfl, rfl⟩
      go_wp2_with fail
      refine wpAt_seq1 ?_
      go_wp2_with ((with_reducible show wpList _ _ _ ((⟨some 38, _, _, _, _, _⟩ : Oper) :: _) _ _); refine wpList_load_mid rfl 27 (.tmp 2) rfl q 0 rfl (mv m1 s).toList _ (range_of HX3.out) Tryd.underlying27 rfl minfo ?_; refine wpList_store_mid rfl 27 (.tmp 2) (.tmp 38) rfl q 0 (mv m1 s) rfl rfl (there_of HX3.out) minfo (mv_one _ _) ?_; obtain ⟨w5', hw5⟩ : ∃ x, w3.setCells q 0 (mv m1 s).toList = x := ⟨_, rfl⟩; have hF5 : Fr (fun k => k = q) w3 w5' := (by rw [← hw5]; exact set14_fr w3 q m1 s); have HF5 := Lib.hid hF5; have HX5 := Lib.hid (show Blk w5' q 27 (mv m1 s) from by rw [← hw5]; exact set14m HX3.out); have HQ5 := Lib.hid (HD3'.out.1.fr hF5 (by omega)); have y0 := HQ5.out.cell 0; have y1 := HQ5.out.frozen 0; simp at y0; rw [hw5]; clear hw5 hF5)
      have hf6 : Fr (fun k => k = q + 1) w5' (w5'.setCell ⟨q + 1, 0, none⟩ (.int .i64 0)) := Fr.setCell (S := fun k => k = q + 1) (w' := w5') (Fr.refl _ w5') (p := ⟨q + 1, 0, none⟩) (fun _ => rfl) _
      obtain ⟨w6', hw6⟩ : ∃ x, w5'.setCell ⟨q + 1, 0, none⟩ (.int .i64 0) = x := ⟨_, rfl⟩
      have HZ := Lib.hid (show Blk w6' q 27 (mv m1 s) ∧ Blk w6' (q + 1) 22 #[.int .i64 0] ∧ Below q w w6' ∧ w6'.heap[D]? = some (.deferred (some [])) ∧ RowsO w6' (kb + 1 + 2) m1 s from by
        rw [hw6] at hf6
        have e3 : q ≤ w3.heap.size := by have := HX3.out.lt; omega
        have e5 : q ≤ w5'.heap.size := by have := HX5.out.lt; omega
        refine ⟨HX5.out.fr hf6 (by omega), ?_, (HD3'.out.2.1.trans (HF5.out.below e3 fun k hk => by omega)).trans (hf6.below e5 fun k hk => by omega), ?_, (HD3'.out.2.2.2.frB HF5.out fun k hk => by have := HS8.out; omega).frB hf6 fun k hk => by have := HS8.out; omega⟩
        · rw [← hw6]; exact HQ5.out.set_ 0 (.int .i64 0)
        · have k3 := HD3'.out.2.2.1
          have k5 := (HF5.out.block D (Array.getElem?_eq_some_iff.1 k3).1 (by have := HD.out.1; have := HS8.out; omega)).trans k3
          exact (hf6.block D (Array.getElem?_eq_some_iff.1 k5).1 (by have := HD.out.1; have := HS8.out; omega)).trans k5)
      rw [hw6]
      clear hf6 hw6 y0 y1
      refine wpAt_of ?_
      go_wp2_with fail
      refine ⟨by simp, .inl ⟨_, _, rfl, run_takeDeferred HZ.out.2.2.2.1, ?_⟩⟩
      refine ⟨by simp, .inr ⟨by simp [Fence.wide], _, _, 34, #[.pointer (some ⟨q, 0, none⟩), .pointer (some ⟨q + 1, 0, none⟩)], rfl, by simp [go_sem], fun _ _ => trivial, ?_⟩⟩
      refine (idle_in ⟨q, 0, none⟩ ⟨q + 1, 0, none⟩ _ _).mono ?_
      rintro e u' w7' ⟨rfl, rfl, rfl⟩
      have hfs : Fr (fun k => k = D) w6' (w6'.putObj D (.deferred none)) := put_fr _
      have hX := HZ.out.1.fr hfs (by have := HD.out.1; have := HS8.out; omega)
      have hE := HZ.out.2.1.fr hfs (by have := HD.out.1; have := HS8.out; omega)
      refine ⟨.tuple #[.agg (mv m1 s), .int .i64 0], ?_, ?_, ?_⟩
      · have e0 := hX.cell 0
        have e1 := hX.cell 1
        have e2 := hX.cell 2
        have e3 := hX.cell 3
        have e4 := hX.cell 4
        have e5 := hX.cell 5
        have e6 := hX.cell 6
        have e7 := hX.cell 7
        have e8 := hX.cell 8
        have e9 := hX.cell 9
        have e10 := hX.cell 10
        have e11 := hX.cell 11
        have e12 := hX.cell 12
        have e13 := hX.cell 13
        have e14 := hE.cell 0
        simp [mv] at e0 e1 e2 e3 e4 e5 e6 e7 e8 e9 e10 e11 e12 e13
        simp at e14
        simp [results, Tryd.results15, go_sem, e0, e1, e2, e3, e4, e5, e6, e7, e8, e9, e10, e11, e12, e13, e14]
        rfl
      · rw [← HB2.out.2.2]
        exact HZ.out.2.2.1.trans (hfs.below (by have := HZ.out.1.lt; omega) fun k hk => by have := HD.out.1; have := HS8.out; omega)
      · rw [HG1.out.1]
        exact ⟨s, rfl, (HZ.out.2.2.2.2.frB hfs fun k hk => by have := HD.out.1; omega).down (by have := HS8.out; have := HB2.out.2.2; omega)⟩
      | false =>
      have HG1 := Lib.hid (show Wi.get b = none ∧ may m1 = false from ⟨by rw [hg, if_neg (by rw [hm]; simp)], hm⟩)
      clear hg hm hl
      have HX := Lib.hid h3
      have HD := Lib.hid (And.intro hD (And.intro hK (And.intro h4 (And.intro h5 (And.intro h6 hR)))))
      have c0 := HX.out.cell 0
      have c1 := HX.out.cell 1
      have c2 := HX.out.cell 2
      have c3 := HX.out.cell 3
      have c4 := HX.out.cell 4
      have c5 := HX.out.cell 5
      have c6 := HX.out.cell 6
      have c7 := HX.out.cell 7
      have c8 := HX.out.cell 8
      have c9 := HX.out.cell 9
      have c10 := HX.out.cell 10
      have c11 := HX.out.cell 11
      have c12 := HX.out.cell 12
      have c13 := HX.out.cell 13
      simp [mv] at c0 c1 c2 c3 c4 c5 c6 c7 c8 c9 c10 c11 c12 c13
      have d0 := g1.cell 0
      simp at d0
      have d4 := h4.cell 0
      simp at d4
      rw [show q + 3 = q + 1 + 1 + 1 from rfl] at d4
      clear h3 h4 h5 h6 hD hK hR g1 g2 g3
      refine wpAt_seq1 ?_
      go_wp2_with fail
      refine (may_any W m1 s HMI.out.1 HMI.out.2).mono ?_
      rintro e w3 ⟨rfl, hb3⟩
      rw [HG1.out.2]
      have HX3 := Lib.hid (HX.out.keep hb3)
      have HD3' := Lib.hid (show Blk w3 (q + 1) 22 #[.int .i64 0] ∧ Below q w w3 ∧ w3.heap[D]? = some (.deferred (some [])) ∧ RowsO w3 (kb + 1 + 2) m1 s from ⟨HD.out.2.2.2.1.keep hb3, HD.out.2.2.2.2.1.trans (hb3.mono (by have := HX.out.lt; omega)), by
        rw [hb3.block D (Array.getElem?_eq_some_iff.1 HD.out.2.1).1]; exact HD.out.2.1, HD.out.2.2.2.2.2.keep hb3⟩)
      clear hb3 c0 c1 c2 c3 c4 c5 c6 c7 c8 c9 c10 c11 c12 c13 d0 d4
      go_wp2_with fail
      refine (want_no _).mono ?_
      rintro e w4' ⟨rfl, rfl⟩
      go_wp2_with fail
      exact leave_two w w3 q D m1 s _ _ b HB2.out.2.2.symm rfl rfl HX3.out HD3'.out.1 HD3'.out.2.1 HG1.out.1 HD3'.out.2.2.1 (by have := HD.out.1; have := HS8.out; omega)
    · have HG1 := Lib.hid (show Wi.get b = none by rw [hg, if_neg (fun h => hl h.1)])
      obtain ⟨k, hk⟩ : ∃ k, l.length = k := ⟨_, rfl⟩
      rw [hk] at g1 hl
      have e0 : ((k : Int) == 0) = false := by rw [beq_eq_false_iff_ne]; omega
      have e1 : (k == 0) = false := by rw [beq_eq_false_iff_ne]; omega
      clear hg hl hk g3
      have HX := Lib.hid h3
      have HD := Lib.hid (And.intro hD (And.intro hK (And.intro h4 (And.intro h5 (And.intro h6 hR)))))
      have c0 := HX.out.cell 0
      have c1 := HX.out.cell 1
      have c2 := HX.out.cell 2
      have c3 := HX.out.cell 3
      have c4 := HX.out.cell 4
      have c5 := HX.out.cell 5
      have c6 := HX.out.cell 6
      have c7 := HX.out.cell 7
      have c8 := HX.out.cell 8
      have c9 := HX.out.cell 9
      have c10 := HX.out.cell 10
      have c11 := HX.out.cell 11
      have c12 := HX.out.cell 12
      have c13 := HX.out.cell 13
      simp [mv] at c0 c1 c2 c3 c4 c5 c6 c7 c8 c9 c10 c11 c12 c13
      have d0 := g1.cell 0
      simp at d0
      have d4 := h4.cell 0
      simp at d4
      rw [show q + 3 = q + 1 + 1 + 1 from rfl] at d4
      clear h3 h4 h5 h6 hD hK hR g1 g2
      refine wpAt_seq1 ?_
      go_wp2_with fail
      refine (want_no _).mono ?_
      rintro e w4' ⟨rfl, rfl⟩
      go_wp2_with fail
      exact leave_two w W q D m1 s _ _ b HB2.out.2.2.symm rfl rfl HX.out HD.out.2.2.2.1 HD.out.2.2.2.2.1 HG1.out HD.out.2.1 (by have := HD.out.1; have := HS8.out; omega)
