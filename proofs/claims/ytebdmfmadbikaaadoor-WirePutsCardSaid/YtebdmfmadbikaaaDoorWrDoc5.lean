/- The document's Bytes. Printed by genwdoc5.py (raw numbers of the seat). -/
import Derived.Test.YtebdmfmadbikaaaDoorWrApps
import Derived.Deep.DeepCutAuto
import Derived.Deep.CutBlock
namespace Go.Proofs.YtebdmfmadbikaaaDoor.WiW
open Go.RowKit Go.Shelf Mem Fds FdW Wi Rng
set_option linter.unusedVariables false
set_option linter.unusedSimpArgs false

/-- Bytes appended to a row of the call's own. -/
theorem wpList_appW {ops : Array Oper} {rest : List Oper} {o : Oper} {a : Act} {Q : Exit → Act → World → Prop} (w : World) (hgd : o.guard = none) (s x : Operand) (ho : o.op = .call { callee := .builtin .append, args := #[s, x], argTypes := #[25, 25] })
    (base : Nat) (hbase : base ≤ w.heap.size) (A : Option Addr) (n c : Nat) (l : List UInt8) (hs : a.eval s = .slice A n c) (hn : l.length = n) (hown : Mem.Own w base 5 A c (l.map u8v)) (M : Nat) (S : Option Addr) (m d : Nat) (b : List UInt8) (hx : a.eval x = .slice S m d) (hm : b.length = m) (hB : Bytes w M S b) (hmx : n + m ≤ 100000000) (N : Nat) (hN : N = n + m)
    (h : ∀ A' c' w', Mem.Own w' base 5 A' c' ((l ++ b).map u8v) → Below base w w' → w.grownBy w' (A.map (·.block)) → wpList Tryd.prog ops Q rest (a.put o.dst (.slice A' N c')) w') : wpList Tryd.prog ops Q (o :: rest) a w := by
  obtain ⟨i0, hi0, hz0, hz1, hz2⟩ := info_parts u8inf17
  exact wpList_app w hgd s x _ ho base 5 i0 _ 1 Tryd.underlying25 hi0 hz0 hz1 hz2 rfl A c n (l.map u8v) hs (by rw [List.length_map, hn]) hown M S d m (b.map u8v) hx (by rw [List.length_map, hm]) hB u8v_one (by rw [List.length_map, List.length_map, hn, hm]; unfold maxLen; omega) (by rw [List.length_map, List.length_map, hn, hm]; omega) hbase N hN fun A' c' w' h1 h2 h3 _ => h A' c' w' (by rw [List.map_append]; exact h1) h2 h3
/-- The bytes as far as the fields below j. -/
def preB (m : Msg) (j : Nat) : List UInt8 := head m ++ ((flds m.kind).filter (fun f => decide (f < j))).flatMap (fb m)
theorem preB_zero (m : Msg) : preB m 0 = head m := by unfold preB; rw [show (flds m.kind).filter (fun f => decide (f < 0)) = [] from by simp]; simp
theorem preB_next (m : Msg) (j : Nat) (hk : m.kind < 256) (hj : j < 11) : preB m (j + 1) = preB m j ++ (if j ∈ flds m.kind then fb m j else []) := by
  unfold preB
  rw [flds_cut _ _ hk hj, List.flatMap_append, List.append_assoc]
  split <;> simp
theorem preB_all (m : Msg) (hk : m.kind < 256) : preB m 11 = Wi.bytes m := by unfold preB Wi.bytes; rw [flds_all _ hk]
theorem flat_sub (m : Msg) {fs gs : List Nat} (h : List.Sublist fs gs) : (fs.flatMap (fb m)).length ≤ (gs.flatMap (fb m)).length := by
  induction h with
  | slnil => exact Nat.le_refl _
  | cons _ _ ih => rw [List.flatMap_cons, List.length_append]; omega
  | cons_cons _ _ ih => rw [List.flatMap_cons, List.flatMap_cons, List.length_append, List.length_append]; omega
theorem preB_le (m : Msg) (j : Nat) (hm : MayF m) : (preB m j).length ≤ 800000 := by
  have h1 := bytes_le hm
  have h2 := flat_sub m (List.filter_sublist (l := flds m.kind) (p := fun f => decide (f < j)))
  unfold Wi.bytes at h1
  unfold preB
  rw [List.length_append] at h1 ⊢
  omega
/-- The state: the bytes so far in slot 3. -/
def BSt (w : World) (bx : Nat) (m : Msg) (A : Option Addr) (c : Nat) (na : Option Addr) (nc : Nat) (l : List UInt8) (s : Value) (W : World) : Prop :=
  ∃ B d n, s = .slice B n d ∧ l.length = n ∧ Mem.Own W w.heap.size 5 B d (l.map u8v) ∧ Blk W bx 33 (pv m A c na nc) ∧ Below w.heap.size w W
theorem take_flat {α : Type} (l : List α) (g : α → List UInt8) (j : Nat) : ((l.take j).flatMap g).length ≤ (l.flatMap g).length := by
  conv => rhs; rw [← List.take_append_drop j l, List.flatMap_append, List.length_append]
  omega
theorem be_one (k : Nat) (hk : k < 256) : (be 1 k).map u8v = [.int .u8 (k : Int)] := by
  simp [be, u8v]
  omega
set_option maxRecDepth 100000 in
set_option maxHeartbeats 16000000 in
theorem rbytes_any (w : World) (m : Msg) (A : Option Addr) (c : Nat) (na : Option Addr) (nc : Nat) (hI : PIn w w.heap.size m A na) (hm : MayF m) :
    Calls Tryd.prog 13 #[.agg (pv m A c na nc)] w (NewOk w (Wi.bytes m)) := by
  obtain ⟨bx, hbx⟩ : ∃ bx, w.heap.size = bx := ⟨_, rfl⟩
  obtain ⟨w1, hw1⟩ : ∃ x : World, w.alloc (.cells (pv m A c na nc) 33) = x := ⟨_, rfl⟩
  have hb1 : Below w.heap.size w w1 := by rw [← hw1]; exact nextA (Mem.start w) _
  have HX1 := Lib.hid (show Blk w1 bx 33 (pv m A c na nc) ∧ Below w.heap.size w w1 by rw [← hw1, ← hbx]; exact ⟨Blk.new w _ _, nextA (Mem.start w) _⟩)
  have HI := Lib.hid hI
  have HM := Lib.hid hm
  have HK := Lib.hid hI.kind
  have c0 := HX1.out.1.cell 0
  have c1 := HX1.out.1.cell 1
  simp [pv, pvk] at c0 c1
  have c1' : (w1.alloc (.cells #[.int .u8 (m.kind : Int)] 5)).cell? ⟨bx, 1, none⟩ = some (.int .i64 m.frm) := ((nextA (Mem.start w1) _).cell (World.block_lt_of_cell? _ _ c1)).trans c1
  clear hb1 hI hm
  go_enter Tryd.func13, Tryd.ntmps13
  go_wp2_with fail
  refine (rnumber2_any _ m.frm HM.out.frm.1 (by have := HM.out.frm.2; omega)).mono ?_
  rintro e w2 ⟨A2, d2, rfl, ho2, hb2⟩
  rw [be_len] at *
  have HR0 := Lib.hid (show Mem.Own w2 w.heap.size 5 (some ⟨w1.heap.size, 0, none⟩) 1 ((be 1 m.kind).map u8v) ∧ Mem.Own w2 (w1.alloc (.cells #[.int .u8 (m.kind : Int)] 5)).heap.size 5 A2 d2 ((be 2 m.frm.toNat).map u8v) ∧ Blk w2 bx 33 (pv m A c na nc) ∧ Below w.heap.size w w2 by
    have h1 : Mem.Own (w1.alloc (.cells #[.int .u8 (m.kind : Int)] 5)) w.heap.size 5 (some ⟨w1.heap.size, 0, none⟩) 1 ((be 1 m.kind).map u8v) := by
      rw [be_one m.kind HK.out]
      exact own_made w1 #[.int .u8 (m.kind : Int)] 5 (by simp [maxLen]) (base := w.heap.size) HX1.out.2.size
    exact ⟨h1.keep hb2, ho2, (HX1.out.1.keep (nextA (Mem.start w1) _)).keep hb2, next (nextA HX1.out.2 _) hb2⟩)
  clear c0 c1 c1' ho2 hb2
  go_wp2_with ((with_reducible show wpList _ _ _ ((⟨some 14, _, _, _, _, _⟩ : Oper) :: _) _ _); refine wpList_appW w2 rfl (.tmp 10) (.tmp 13) rfl w.heap.size HR0.out.2.2.2.size (some ⟨w1.heap.size, 0, none⟩) 1 1 (be 1 m.kind) rfl (be_len _ _) HR0.out.1 w2.heap.size A2 2 d2 (be 2 m.frm.toNat) rfl (be_len _ _) HR0.out.2.1.bytes (by omega) 3 rfl ?_; intro A3 d3 w3 ho3 hb3 hg3; have H3 := Lib.hid (show Mem.Own w3 w.heap.size 5 A3 d3 ((be 1 m.kind ++ be 2 m.frm.toNat).map u8v) ∧ Blk w3 bx 33 (pv m A c na nc) ∧ Below w.heap.size w w3 from ⟨ho3, HR0.out.2.2.1.app HR0.out.1 (by decide) hg3, HR0.out.2.2.2.trans hb3⟩); clear ho3 hb3 hg3; have c2 := H3.out.2.1.cell 2; simp [pv, pvk] at c2)
  refine (rnumber2_any w3 m.to_ HM.out.to_.1 (by have := HM.out.to_.2; omega)).mono ?_
  rintro e w4 ⟨A4, d4, rfl, ho4, hb4⟩
  rw [be_len]
  have H4 := Lib.hid (show Mem.Own w4 w.heap.size 5 A3 d3 ((be 1 m.kind ++ be 2 m.frm.toNat).map u8v) ∧ Mem.Own w4 w3.heap.size 5 A4 d4 ((be 2 m.to_.toNat).map u8v) ∧ Blk w4 bx 33 (pv m A c na nc) ∧ Below w.heap.size w w4 from ⟨H3.out.1.keep hb4, ho4, H3.out.2.1.keep hb4, next H3.out.2.2 hb4⟩)
  clear c2 ho4 hb4
  go_wp2_with ((with_reducible show wpList _ _ _ ((⟨some 19, _, _, _, _, _⟩ : Oper) :: _) _ _); refine wpList_appW w4 rfl (.tmp 15) (.tmp 18) rfl w.heap.size H4.out.2.2.2.size A3 3 d3 (be 1 m.kind ++ be 2 m.frm.toNat) rfl (by rw [List.length_append, be_len, be_len]) H4.out.1 w4.heap.size A4 2 d4 (be 2 m.to_.toNat) rfl (be_len _ _) H4.out.2.1.bytes (by omega) 5 rfl ?_; intro A5 d5 w5 ho5 hb5 hg5; have H5 := Lib.hid (show Mem.Own w5 w.heap.size 5 A5 d5 ((preB m 0).map u8v) ∧ (preB m 0).length = 5 ∧ Blk w5 bx 33 (pv m A c na nc) ∧ Below w.heap.size w w5 from ⟨by rw [preB_zero]; exact ho5, by rw [preB_zero, head_len], H4.out.2.2.1.app H4.out.1 (by decide) hg5, H4.out.2.2.2.trans hb5⟩); clear ho5 hb5 hg5; have c0 := H5.out.2.2.1.cell 0; simp [pv, pvk] at c0)
  refine (in_any w5 m.kind HK.out 0 (by decide) 82 rfl).mono ?_
  rintro e wi ⟨rfl, rfl⟩
  obtain ⟨d_0, hd0⟩ : ∃ d, decide (0 ∈ flds m.kind) = d := ⟨_, rfl⟩
  have HP0 := Lib.hid (show preB m 1 = preB m 0 ++ (if d_0 = true then fb m 0 else []) by rw [preB_next m 0 HK.out (by decide), ← hd0]; simp)
  rw [hd0]
  clear hd0 c0
  go_upto_if 23 with fail
  go_cut [3] (fun s3 wx => BSt w bx m A c na nc (preB m 1) s3 wx)
  case first =>
    as_aux_lemma =>
    cases d_0
    · go_wp2_with fail
      go_meet
      have hp := HP0.out
      simp only [Bool.false_eq_true, if_false, List.append_nil] at hp
      rw [hp]
      exact ⟨A5, d5, 5, rfl, H5.out.2.1, H5.out.1, H5.out.2.2.1, H5.out.2.2.2⟩
    · skip
      have cc := H5.out.2.2.1.cell 3
      simp [pv, pvk] at cc
      go_wp2_with fail
      refine (rnumber8_any w5 m.req HM.out.req.1 (by have := HM.out.req.2; omega)).mono ?_
      rintro e wn ⟨An, dn, rfl, hon, hbn⟩
      rw [be_len]
      have KN := Lib.hid (And.intro (H5.out.1.keep hbn) (And.intro hon (And.intro (H5.out.2.2.1.keep hbn) (next H5.out.2.2.2 hbn))))
      clear cc hon hbn
      go_wp2_with ((with_reducible show wpList _ _ _ ((⟨some 28, _, _, _, _, _⟩ : Oper) :: _) _ _); refine wpList_appW wn rfl (.tmp 24) (.tmp 27) rfl w.heap.size KN.out.2.2.2.size A5 5 d5 (preB m 0) rfl H5.out.2.1 KN.out.1 wn.heap.size An 8 dn (be 8 m.req.toNat) rfl (be_len _ _) KN.out.2.1.bytes (by have := preB_le m 0 HM.out; have := H5.out.2.1; omega) (5 + 8) rfl ?_; intro Am dm wm hom hbm hgm; have KM := Lib.hid (And.intro hom (And.intro (KN.out.2.2.1.app KN.out.1 (by decide) hgm) (KN.out.2.2.2.trans hbm))); clear hom hbm hgm)
      go_meet
      have hp := HP0.out
      simp only [if_true] at hp
      rw [hp]
      exact ⟨Am, dm, 5 + 8, rfl, by rw [List.length_append, H5.out.2.1]; exact congrArg (5 + ·) (be_len _ _), KM.out.1, KM.out.2.1, KM.out.2.2⟩
  case rest =>
  obtain ⟨B_0, e_0, n_0, rfl, hn, ho, hX, hb⟩ := hcut
  have K0 := Lib.hid (And.intro ho (And.intro hn (And.intro hX hb)))
  clear hn ho hX hb H5 HP0
  go_wp2_with fail
  refine (in_any wc m.kind HK.out 1 (by decide) 75 rfl).mono ?_
  rintro e wi ⟨rfl, rfl⟩
  obtain ⟨d_1, hd1⟩ : ∃ d, decide (1 ∈ flds m.kind) = d := ⟨_, rfl⟩
  have HP1 := Lib.hid (show preB m 2 = preB m 1 ++ (if d_1 = true then fb m 1 else []) by rw [preB_next m 1 HK.out (by decide), ← hd1]; simp)
  rw [hd1]
  clear hd1 
  go_upto_if 30 with fail
  go_cut [3] (fun s3 wx => BSt w bx m A c na nc (preB m 2) s3 wx)
  case first =>
    as_aux_lemma =>
    cases d_1
    · go_wp2_with fail
      go_meet
      have hp := HP1.out
      simp only [Bool.false_eq_true, if_false, List.append_nil] at hp
      rw [hp]
      exact ⟨B_0, e_0, n_0, rfl, K0.out.2.1, K0.out.1, K0.out.2.2.1, K0.out.2.2.2⟩
    · skip
      have cc := K0.out.2.2.1.cell 4
      simp [pv, pvk] at cc
      go_wp2_with fail
      refine (rtext1_any wc m.key (by have := HM.out.key; omega)).mono ?_
      rintro e wn ⟨An, dn, rfl, hon, hbn⟩
      obtain ⟨xl, hxl⟩ : ∃ xl, (be 1 m.key.length ++ m.key).length = xl := ⟨_, rfl⟩
      have HXL := Lib.hid (And.intro hxl (show xl ≤ 65540 by rw [← hxl, List.length_append, be_len]; have := HM.out.key; omega))
      rw [hxl]
      clear hxl
      have KN := Lib.hid (And.intro (K0.out.1.keep hbn) (And.intro hon (And.intro (K0.out.2.2.1.keep hbn) (next K0.out.2.2.2 hbn))))
      clear cc hon hbn
      go_wp2_with ((with_reducible show wpList _ _ _ ((⟨some 35, _, _, _, _, _⟩ : Oper) :: _) _ _); refine wpList_appW wn rfl (.tmp 31) (.tmp 34) rfl w.heap.size KN.out.2.2.2.size B_0 n_0 e_0 (preB m 1) rfl K0.out.2.1 KN.out.1 wn.heap.size An xl dn (be 1 m.key.length ++ m.key) rfl HXL.out.1 KN.out.2.1.bytes (by have := HXL.out.2; have := preB_le m 1 HM.out; have := K0.out.2.1; omega) (n_0 + xl) rfl ?_; intro Am dm wm hom hbm hgm; have KM := Lib.hid (And.intro hom (And.intro (KN.out.2.2.1.app KN.out.1 (by decide) hgm) (KN.out.2.2.2.trans hbm))); clear hom hbm hgm)
      go_meet
      have hp := HP1.out
      simp only [if_true] at hp
      rw [hp]
      exact ⟨Am, dm, n_0 + xl, rfl, by rw [List.length_append, K0.out.2.1]; exact congrArg (n_0 + ·) HXL.out.1, KM.out.1, KM.out.2.1, KM.out.2.2⟩
  case rest =>
  obtain ⟨B_1, e_1, n_1, rfl, hn, ho, hX, hb⟩ := hcut
  have K1 := Lib.hid (And.intro ho (And.intro hn (And.intro hX hb)))
  clear hn ho hX hb K0 HP1
  go_wp2_with fail
  refine (in_any wc m.kind HK.out 2 (by decide) 86 rfl).mono ?_
  rintro e wi ⟨rfl, rfl⟩
  obtain ⟨d_2, hd2⟩ : ∃ d, decide (2 ∈ flds m.kind) = d := ⟨_, rfl⟩
  have HP2 := Lib.hid (show preB m 3 = preB m 2 ++ (if d_2 = true then fb m 2 else []) by rw [preB_next m 2 HK.out (by decide), ← hd2]; simp)
  rw [hd2]
  clear hd2 
  go_upto_if 37 with fail
  go_cut [3] (fun s3 wx => BSt w bx m A c na nc (preB m 3) s3 wx)
  case first =>
    as_aux_lemma =>
    cases d_2
    · go_wp2_with fail
      go_meet
      have hp := HP2.out
      simp only [Bool.false_eq_true, if_false, List.append_nil] at hp
      rw [hp]
      exact ⟨B_1, e_1, n_1, rfl, K1.out.2.1, K1.out.1, K1.out.2.2.1, K1.out.2.2.2⟩
    · skip
      have cc := K1.out.2.2.1.cell 5
      simp [pv, pvk] at cc
      go_wp2_with fail
      refine (rnumber8_any wc m.ver HM.out.ver.1 (by have := HM.out.ver.2; omega)).mono ?_
      rintro e wn ⟨An, dn, rfl, hon, hbn⟩
      rw [be_len]
      have KN := Lib.hid (And.intro (K1.out.1.keep hbn) (And.intro hon (And.intro (K1.out.2.2.1.keep hbn) (next K1.out.2.2.2 hbn))))
      clear cc hon hbn
      go_wp2_with ((with_reducible show wpList _ _ _ ((⟨some 42, _, _, _, _, _⟩ : Oper) :: _) _ _); refine wpList_appW wn rfl (.tmp 38) (.tmp 41) rfl w.heap.size KN.out.2.2.2.size B_1 n_1 e_1 (preB m 2) rfl K1.out.2.1 KN.out.1 wn.heap.size An 8 dn (be 8 m.ver.toNat) rfl (be_len _ _) KN.out.2.1.bytes (by have := preB_le m 2 HM.out; have := K1.out.2.1; omega) (n_1 + 8) rfl ?_; intro Am dm wm hom hbm hgm; have KM := Lib.hid (And.intro hom (And.intro (KN.out.2.2.1.app KN.out.1 (by decide) hgm) (KN.out.2.2.2.trans hbm))); clear hom hbm hgm)
      go_meet
      have hp := HP2.out
      simp only [if_true] at hp
      rw [hp]
      exact ⟨Am, dm, n_1 + 8, rfl, by rw [List.length_append, K1.out.2.1]; exact congrArg (n_1 + ·) (be_len _ _), KM.out.1, KM.out.2.1, KM.out.2.2⟩
  case rest =>
  obtain ⟨B_2, e_2, n_2, rfl, hn, ho, hX, hb⟩ := hcut
  have K2 := Lib.hid (And.intro ho (And.intro hn (And.intro hX hb)))
  clear hn ho hX hb K1 HP2
  go_wp2_with fail
  refine (in_any wc m.kind HK.out 3 (by decide) 73 rfl).mono ?_
  rintro e wi ⟨rfl, rfl⟩
  obtain ⟨d_3, hd3⟩ : ∃ d, decide (3 ∈ flds m.kind) = d := ⟨_, rfl⟩
  have HP3 := Lib.hid (show preB m 4 = preB m 3 ++ (if d_3 = true then fb m 3 else []) by rw [preB_next m 3 HK.out (by decide), ← hd3]; simp)
  rw [hd3]
  clear hd3 
  go_upto_if 44 with fail
  go_cut [3] (fun s3 wx => BSt w bx m A c na nc (preB m 4) s3 wx)
  case first =>
    as_aux_lemma =>
    cases d_3
    · go_wp2_with fail
      go_meet
      have hp := HP3.out
      simp only [Bool.false_eq_true, if_false, List.append_nil] at hp
      rw [hp]
      exact ⟨B_2, e_2, n_2, rfl, K2.out.2.1, K2.out.1, K2.out.2.2.1, K2.out.2.2.2⟩
    · skip
      have cc := K2.out.2.2.1.cell 6
      simp [pv, pvk] at cc
      go_wp2_with fail
      refine (rnumber8_any wc m.inc HM.out.inc.1 (by have := HM.out.inc.2; omega)).mono ?_
      rintro e wn ⟨An, dn, rfl, hon, hbn⟩
      rw [be_len]
      have KN := Lib.hid (And.intro (K2.out.1.keep hbn) (And.intro hon (And.intro (K2.out.2.2.1.keep hbn) (next K2.out.2.2.2 hbn))))
      clear cc hon hbn
      go_wp2_with ((with_reducible show wpList _ _ _ ((⟨some 49, _, _, _, _, _⟩ : Oper) :: _) _ _); refine wpList_appW wn rfl (.tmp 45) (.tmp 48) rfl w.heap.size KN.out.2.2.2.size B_2 n_2 e_2 (preB m 3) rfl K2.out.2.1 KN.out.1 wn.heap.size An 8 dn (be 8 m.inc.toNat) rfl (be_len _ _) KN.out.2.1.bytes (by have := preB_le m 3 HM.out; have := K2.out.2.1; omega) (n_2 + 8) rfl ?_; intro Am dm wm hom hbm hgm; have KM := Lib.hid (And.intro hom (And.intro (KN.out.2.2.1.app KN.out.1 (by decide) hgm) (KN.out.2.2.2.trans hbm))); clear hom hbm hgm)
      go_meet
      have hp := HP3.out
      simp only [if_true] at hp
      rw [hp]
      exact ⟨Am, dm, n_2 + 8, rfl, by rw [List.length_append, K2.out.2.1]; exact congrArg (n_2 + ·) (be_len _ _), KM.out.1, KM.out.2.1, KM.out.2.2⟩
  case rest =>
  obtain ⟨B_3, e_3, n_3, rfl, hn, ho, hX, hb⟩ := hcut
  have K3 := Lib.hid (And.intro ho (And.intro hn (And.intro hX hb)))
  clear hn ho hX hb K2 HP3
  go_wp2_with fail
  refine (in_any wc m.kind HK.out 4 (by decide) 83 rfl).mono ?_
  rintro e wi ⟨rfl, rfl⟩
  obtain ⟨d_4, hd4⟩ : ∃ d, decide (4 ∈ flds m.kind) = d := ⟨_, rfl⟩
  have HP4 := Lib.hid (show preB m 5 = preB m 4 ++ (if d_4 = true then fb m 4 else []) by rw [preB_next m 4 HK.out (by decide), ← hd4]; simp)
  rw [hd4]
  clear hd4 
  go_upto_if 51 with fail
  go_cut [3] (fun s3 wx => BSt w bx m A c na nc (preB m 5) s3 wx)
  case first =>
    as_aux_lemma =>
    cases d_4
    · go_wp2_with fail
      go_meet
      have hp := HP4.out
      simp only [Bool.false_eq_true, if_false, List.append_nil] at hp
      rw [hp]
      exact ⟨B_3, e_3, n_3, rfl, K3.out.2.1, K3.out.1, K3.out.2.2.1, K3.out.2.2.2⟩
    · skip
      have cc := K3.out.2.2.1.cell 7
      simp [pv, pvk] at cc
      go_wp2_with fail
      refine (rnumber4_any wc m.size HM.out.size.1 (by have := HM.out.size.2; omega)).mono ?_
      rintro e wn ⟨An, dn, rfl, hon, hbn⟩
      rw [be_len]
      have KN := Lib.hid (And.intro (K3.out.1.keep hbn) (And.intro hon (And.intro (K3.out.2.2.1.keep hbn) (next K3.out.2.2.2 hbn))))
      clear cc hon hbn
      go_wp2_with ((with_reducible show wpList _ _ _ ((⟨some 56, _, _, _, _, _⟩ : Oper) :: _) _ _); refine wpList_appW wn rfl (.tmp 52) (.tmp 55) rfl w.heap.size KN.out.2.2.2.size B_3 n_3 e_3 (preB m 4) rfl K3.out.2.1 KN.out.1 wn.heap.size An 4 dn (be 4 m.size.toNat) rfl (be_len _ _) KN.out.2.1.bytes (by have := preB_le m 4 HM.out; have := K3.out.2.1; omega) (n_3 + 4) rfl ?_; intro Am dm wm hom hbm hgm; have KM := Lib.hid (And.intro hom (And.intro (KN.out.2.2.1.app KN.out.1 (by decide) hgm) (KN.out.2.2.2.trans hbm))); clear hom hbm hgm)
      go_meet
      have hp := HP4.out
      simp only [if_true] at hp
      rw [hp]
      exact ⟨Am, dm, n_3 + 4, rfl, by rw [List.length_append, K3.out.2.1]; exact congrArg (n_3 + ·) (be_len _ _), KM.out.1, KM.out.2.1, KM.out.2.2⟩
  case rest =>
  obtain ⟨B_4, e_4, n_4, rfl, hn, ho, hX, hb⟩ := hcut
  have K4 := Lib.hid (And.intro ho (And.intro hn (And.intro hX hb)))
  clear hn ho hX hb K3 HP4
  go_wp2_with fail
  refine (in_any wc m.kind HK.out 5 (by decide) 67 rfl).mono ?_
  rintro e wi ⟨rfl, rfl⟩
  obtain ⟨d_5, hd5⟩ : ∃ d, decide (5 ∈ flds m.kind) = d := ⟨_, rfl⟩
  have HP5 := Lib.hid (show preB m 6 = preB m 5 ++ (if d_5 = true then fb m 5 else []) by rw [preB_next m 5 HK.out (by decide), ← hd5]; simp)
  rw [hd5]
  clear hd5 
  go_upto_if 58 with fail
  go_cut [3] (fun s3 wx => BSt w bx m A c na nc (preB m 6) s3 wx)
  case first =>
    as_aux_lemma =>
    cases d_5
    · go_wp2_with fail
      go_meet
      have hp := HP5.out
      simp only [Bool.false_eq_true, if_false, List.append_nil] at hp
      rw [hp]
      exact ⟨B_4, e_4, n_4, rfl, K4.out.2.1, K4.out.1, K4.out.2.2.1, K4.out.2.2.2⟩
    · skip
      have cc := K4.out.2.2.1.cell 8
      simp [pv, pvk] at cc
      go_wp2_with fail
      refine (rnumber2_any wc m.code HM.out.code.1 (by have := HM.out.code.2; omega)).mono ?_
      rintro e wn ⟨An, dn, rfl, hon, hbn⟩
      rw [be_len]
      have KN := Lib.hid (And.intro (K4.out.1.keep hbn) (And.intro hon (And.intro (K4.out.2.2.1.keep hbn) (next K4.out.2.2.2 hbn))))
      clear cc hon hbn
      go_wp2_with ((with_reducible show wpList _ _ _ ((⟨some 63, _, _, _, _, _⟩ : Oper) :: _) _ _); refine wpList_appW wn rfl (.tmp 59) (.tmp 62) rfl w.heap.size KN.out.2.2.2.size B_4 n_4 e_4 (preB m 5) rfl K4.out.2.1 KN.out.1 wn.heap.size An 2 dn (be 2 m.code.toNat) rfl (be_len _ _) KN.out.2.1.bytes (by have := preB_le m 5 HM.out; have := K4.out.2.1; omega) (n_4 + 2) rfl ?_; intro Am dm wm hom hbm hgm; have KM := Lib.hid (And.intro hom (And.intro (KN.out.2.2.1.app KN.out.1 (by decide) hgm) (KN.out.2.2.2.trans hbm))); clear hom hbm hgm)
      go_meet
      have hp := HP5.out
      simp only [if_true] at hp
      rw [hp]
      exact ⟨Am, dm, n_4 + 2, rfl, by rw [List.length_append, K4.out.2.1]; exact congrArg (n_4 + ·) (be_len _ _), KM.out.1, KM.out.2.1, KM.out.2.2⟩
  case rest =>
  obtain ⟨B_5, e_5, n_5, rfl, hn, ho, hX, hb⟩ := hcut
  have K5 := Lib.hid (And.intro ho (And.intro hn (And.intro hX hb)))
  clear hn ho hX hb K4 HP5
  go_wp2_with fail
  refine (in_any wc m.kind HK.out 6 (by decide) 78 rfl).mono ?_
  rintro e wi ⟨rfl, rfl⟩
  obtain ⟨d_6, hd6⟩ : ∃ d, decide (6 ∈ flds m.kind) = d := ⟨_, rfl⟩
  have HP6 := Lib.hid (show preB m 7 = preB m 6 ++ (if d_6 = true then fb m 6 else []) by rw [preB_next m 6 HK.out (by decide), ← hd6]; simp)
  rw [hd6]
  clear hd6 
  go_upto_if 65 with fail
  go_cut [3] (fun s3 wx => BSt w bx m A c na nc (preB m 7) s3 wx)
  case first =>
    as_aux_lemma =>
    cases d_6
    · go_wp2_with fail
      go_meet
      have hp := HP6.out
      simp only [Bool.false_eq_true, if_false, List.append_nil] at hp
      rw [hp]
      exact ⟨B_5, e_5, n_5, rfl, K5.out.2.1, K5.out.1, K5.out.2.2.1, K5.out.2.2.2⟩
    · skip
      have cc := K5.out.2.2.1.cell 9
      simp [pv, pvk] at cc
      go_wp2_with fail
      refine (rnumber2_any wc m.node HM.out.node.1 (by have := HM.out.node.2; omega)).mono ?_
      rintro e wn ⟨An, dn, rfl, hon, hbn⟩
      rw [be_len]
      have KN := Lib.hid (And.intro (K5.out.1.keep hbn) (And.intro hon (And.intro (K5.out.2.2.1.keep hbn) (next K5.out.2.2.2 hbn))))
      clear cc hon hbn
      go_wp2_with ((with_reducible show wpList _ _ _ ((⟨some 70, _, _, _, _, _⟩ : Oper) :: _) _ _); refine wpList_appW wn rfl (.tmp 66) (.tmp 69) rfl w.heap.size KN.out.2.2.2.size B_5 n_5 e_5 (preB m 6) rfl K5.out.2.1 KN.out.1 wn.heap.size An 2 dn (be 2 m.node.toNat) rfl (be_len _ _) KN.out.2.1.bytes (by have := preB_le m 6 HM.out; have := K5.out.2.1; omega) (n_5 + 2) rfl ?_; intro Am dm wm hom hbm hgm; have KM := Lib.hid (And.intro hom (And.intro (KN.out.2.2.1.app KN.out.1 (by decide) hgm) (KN.out.2.2.2.trans hbm))); clear hom hbm hgm)
      go_meet
      have hp := HP6.out
      simp only [if_true] at hp
      rw [hp]
      exact ⟨Am, dm, n_5 + 2, rfl, by rw [List.length_append, K5.out.2.1]; exact congrArg (n_5 + ·) (be_len _ _), KM.out.1, KM.out.2.1, KM.out.2.2⟩
  case rest =>
  obtain ⟨B_6, e_6, n_6, rfl, hn, ho, hX, hb⟩ := hcut
  have K6 := Lib.hid (And.intro ho (And.intro hn (And.intro hX hb)))
  clear hn ho hX hb K5 HP6
  go_wp2_with fail
  refine (in_any wc m.kind HK.out 7 (by decide) 66 rfl).mono ?_
  rintro e wi ⟨rfl, rfl⟩
  obtain ⟨d_7, hd7⟩ : ∃ d, decide (7 ∈ flds m.kind) = d := ⟨_, rfl⟩
  have HP7 := Lib.hid (show preB m 8 = preB m 7 ++ (if d_7 = true then fb m 7 else []) by rw [preB_next m 7 HK.out (by decide), ← hd7]; simp)
  rw [hd7]
  clear hd7 
  go_upto_if 72 with fail
  go_cut [3] (fun s3 wx => BSt w bx m A c na nc (preB m 8) s3 wx)
  case first =>
    as_aux_lemma =>
    cases d_7
    · go_wp2_with fail
      go_meet
      have hp := HP7.out
      simp only [Bool.false_eq_true, if_false, List.append_nil] at hp
      rw [hp]
      exact ⟨B_6, e_6, n_6, rfl, K6.out.2.1, K6.out.1, K6.out.2.2.1, K6.out.2.2.2⟩
    · skip
      have cc := K6.out.2.2.1.cell 10
      simp [pv, pvk] at cc
      rcases Bool.eq_false_or_eq_true m.back with hbk | hbk
      rotate_left
      · rw [hbk] at cc
        have HBK := Lib.hid hbk
        clear hbk
        go_wp2_with ((with_reducible show wpList _ _ _ ((⟨some 80, _, _, _, _, _⟩ : Oper) :: _) _ _); refine wpList_appW (wc.alloc (.cells #[.int .u8 0] 5)) rfl (.tmp 78) (.tmp 79) rfl w.heap.size (by have := K6.out.2.2.2.size; simp; omega) B_6 n_6 e_6 (preB m 7) rfl K6.out.2.1 (K6.out.1.keep (nextA (Mem.start wc) _)) (wc.heap.size + 1) (some ⟨wc.heap.size, 0, none⟩) 1 1 [0] rfl rfl (cells_one wc _ _ _ (Nat.lt_succ_self _)) (by have := preB_le m 7 HM.out; have := K6.out.2.1; omega) (n_6 + 1) rfl ?_; intro Am dm wm hom hbm hgm; have KM := Lib.hid (And.intro hom (And.intro ((K6.out.2.2.1.keep (nextA (Mem.start wc) _)).app (K6.out.1.keep (nextA (Mem.start wc) _)) (by decide) hgm) ((nextA K6.out.2.2.2 _).trans hbm))); clear hom hbm hgm)
        go_meet
        have hp := HP7.out
        simp only [if_true] at hp
        have hf : fb m 7 = [0] := by
          have hb := HBK.out
          simp [fb, hb, be]
        rw [hp, hf]
        exact ⟨Am, dm, n_6 + 1, rfl, by rw [List.length_append, K6.out.2.1]; rfl, KM.out.1, KM.out.2.1, KM.out.2.2⟩
      · rw [hbk] at cc
        have HBK := Lib.hid hbk
        clear hbk
        go_wp2_with ((with_reducible show wpList _ _ _ ((⟨some 77, _, _, _, _, _⟩ : Oper) :: _) _ _); refine wpList_appW (wc.alloc (.cells #[.int .u8 1] 5)) rfl (.tmp 75) (.tmp 76) rfl w.heap.size (by have := K6.out.2.2.2.size; simp; omega) B_6 n_6 e_6 (preB m 7) rfl K6.out.2.1 (K6.out.1.keep (nextA (Mem.start wc) _)) (wc.heap.size + 1) (some ⟨wc.heap.size, 0, none⟩) 1 1 [1] rfl rfl (cells_one wc _ _ _ (Nat.lt_succ_self _)) (by have := preB_le m 7 HM.out; have := K6.out.2.1; omega) (n_6 + 1) rfl ?_; intro Am dm wm hom hbm hgm; have KM := Lib.hid (And.intro hom (And.intro ((K6.out.2.2.1.keep (nextA (Mem.start wc) _)).app (K6.out.1.keep (nextA (Mem.start wc) _)) (by decide) hgm) ((nextA K6.out.2.2.2 _).trans hbm))); clear hom hbm hgm)
        go_meet
        have hp := HP7.out
        simp only [if_true] at hp
        have hf : fb m 7 = [1] := by
          have hb := HBK.out
          simp [fb, hb, be]
        rw [hp, hf]
        exact ⟨Am, dm, n_6 + 1, rfl, by rw [List.length_append, K6.out.2.1]; rfl, KM.out.1, KM.out.2.1, KM.out.2.2⟩
  case rest =>
  obtain ⟨B_7, e_7, n_7, rfl, hn, ho, hX, hb⟩ := hcut
  have K7 := Lib.hid (And.intro ho (And.intro hn (And.intro hX hb)))
  clear hn ho hX hb K6 HP7
  go_wp2_with fail
  refine (in_any wc m.kind HK.out 8 (by decide) 68 rfl).mono ?_
  rintro e wi ⟨rfl, rfl⟩
  obtain ⟨d_8, hd8⟩ : ∃ d, decide (8 ∈ flds m.kind) = d := ⟨_, rfl⟩
  have HP8 := Lib.hid (show preB m 9 = preB m 8 ++ (if d_8 = true then fb m 8 else []) by rw [preB_next m 8 HK.out (by decide), ← hd8]; simp)
  rw [hd8]
  clear hd8 
  go_upto_if 82 with fail
  go_cut [3] (fun s3 wx => BSt w bx m A c na nc (preB m 9) s3 wx)
  case first =>
    as_aux_lemma =>
    cases d_8
    · go_wp2_with fail
      go_meet
      have hp := HP8.out
      simp only [Bool.false_eq_true, if_false, List.append_nil] at hp
      rw [hp]
      exact ⟨B_7, e_7, n_7, rfl, K7.out.2.1, K7.out.1, K7.out.2.2.1, K7.out.2.2.2⟩
    · skip
      obtain ⟨q, hq⟩ : ∃ q, m.ids.length = q := ⟨_, rfl⟩
      have HQ := Lib.hid (show m.ids.length = q ∧ q ≤ 255 from ⟨hq, by have := HM.out.ids; omega⟩)
      have hwf : IntKind.u8.wrap (q : Int) = (q : Int) := by
        have e : ∀ x : Int, IntKind.u8.wrap x = x % 256 := fun _ => rfl
        rw [e]; have := HQ.out.2; omega
      have cc := K7.out.2.2.1.cell 11
      simp [pv, pvk] at cc
      rw [hq] at cc
      have HFB := Lib.hid (show fb m 8 = be 1 q ++ m.ids.flatMap (fun x => txt x.1 ++ be 8 x.2.toNat) by rw [← hq]; rfl)
      clear hq
      have h255 : (q : Int) ≤ 255 := by have := HQ.out.2; omega
      have HBYT := Lib.hid (show Bytes (wc.alloc (.cells #[.int .u8 (q : Int)] 5)) (wc.heap.size + 1) (some ⟨wc.heap.size, 0, none⟩) (be 1 q) by
        unfold Bytes
        rw [be_one q (by have := HQ.out.2; omega)]
        exact cells_one wc _ _ _ (Nat.lt_succ_self _))
      have HPL := Lib.hid (show ∀ j, ((preB m 8 ++ be 1 q) ++ (m.ids.take j).flatMap (fun x => txt x.1 ++ be 8 x.2.toNat)).length ≤ 800000 from fun j => by
        have h1 := preB_le m 9 HM.out
        have hp := HP8.out
        simp only [if_true] at hp
        rw [hp, HFB.out, ← List.append_assoc, List.length_append] at h1
        rw [List.length_append]
        have h2 := take_flat m.ids (fun x => txt x.1 ++ be 8 x.2.toNat) j
        omega)
      go_wp2_with ((with_reducible show wpList _ _ _ ((⟨some 89, _, _, _, _, _⟩ : Oper) :: _) _ _); refine wpList_appW (wc.alloc (.cells #[.int .u8 (q : Int)] 5)) rfl (.tmp 83) (.tmp 88) rfl w.heap.size (by have := K7.out.2.2.2.size; simp; omega) B_7 n_7 e_7 (preB m 8) rfl K7.out.2.1 (K7.out.1.keep (nextA (Mem.start wc) _)) (wc.heap.size + 1) (some ⟨wc.heap.size, 0, none⟩) 1 1 (be 1 q) rfl (be_len _ _) HBYT.out (by have := preB_le m 8 HM.out; have := K7.out.2.1; omega) (n_7 + 1) rfl ?_; intro Am dm wm hom hbm hgm; have KM := Lib.hid (And.intro hom (And.intro ((K7.out.2.2.1.keep (nextA (Mem.start wc) _)).app (K7.out.1.keep (nextA (Mem.start wc) _)) (by decide) hgm) ((nextA K7.out.2.2.2 _).trans hbm))); clear hom hbm hgm)
      clear cc hwf
      go_loopw [3, 5] (fun s i wr => ∃ j : Nat, i = .int .i64 (j : Int) ∧ j ≤ q ∧ BSt w bx m A c na nc ((preB m 8 ++ be 1 q) ++ (m.ids.take j).flatMap (fun x => txt x.1 ++ be 8 x.2.toNat)) s wr) (fun _ i _ => q - (intOf i).toNat)
      case atStart => exact ⟨0, rfl, Nat.zero_le _, Am, dm, n_7 + 1, rfl, by simp [be_len, K7.out.2.1], by simpa using KM.out.1, KM.out.2.1, KM.out.2.2⟩
      case round =>
        clear KM
        obtain ⟨j, rfl, hj, Bj, dj, nj, rfl, hnj, hoj, hXj, hbj⟩ := hrel
        have cc := hXj.cell 11
        simp [pv, pvk] at cc
        rw [HQ.out.1] at cc
        have KJ := Lib.hid (And.intro hoj (And.intro hnj (And.intro hXj hbj)))
        clear hnj hoj hXj hbj
        by_cases hjq : j < q
        · have hjl : j < m.ids.length := by rw [HQ.out.1]; exact hjq
          obtain ⟨b1, o1, e1, hb1, k1, k2⟩ := ids_at (HI.out.below KJ.out.2.2.2).ids hjl
          rw [e1] at cc
          obtain ⟨⟨ky, vr⟩, hx⟩ : ∃ x, m.ids[j] = x := ⟨_, rfl⟩
          rw [hx] at k1 k2
          dsimp only at k1 k2
          have hid : ky.length ≤ 64 ∧ 0 ≤ vr ∧ vr ≤ 4611686018427387904 := by
            have hm : m.ids[j] ∈ m.ids := List.getElem_mem _
            rw [hx] at hm
            exact HM.out.id _ hm
          have HID := Lib.hid hid
          have HJE := Lib.hid hx
          have HB1 := Lib.hid hb1
          have HCW := Lib.hid (And.intro e1 (And.intro k1 k2))
          clear hid hx hb1 e1
          have h1 : (j : Int) < (q : Int) := by omega
          have h0 : (0 : Int) ≤ (j : Int) := by omega
          have HJ := Lib.hid (And.intro hjq hjl)
          go_wp2_with fail
          refine (rtext1_any wr ky (by have := HID.out.1; omega)).mono ?_
          rintro e wn ⟨An, dn, rfl, hon, hbn⟩
          obtain ⟨xl, hxl⟩ : ∃ xl, (be 1 ky.length ++ ky).length = xl := ⟨_, rfl⟩
          have HXL := Lib.hid (And.intro hxl (show xl ≤ 65 by rw [← hxl, List.length_append, be_len]; have := HID.out; omega))
          rw [hxl]
          have KN := Lib.hid (And.intro (KJ.out.1.keep hbn) (And.intro hon (And.intro (KJ.out.2.2.1.keep hbn) (next KJ.out.2.2.2 hbn))))
          clear hxl hon hbn cc k1 k2
          go_wp2_with ((with_reducible show wpList _ _ _ ((⟨some 105, _, _, _, _, _⟩ : Oper) :: _) _ _); refine wpList_appW wn rfl (.tmp 97) (.tmp 104) rfl w.heap.size KN.out.2.2.2.size Bj nj dj ((preB m 8 ++ be 1 q) ++ (m.ids.take j).flatMap (fun x => txt x.1 ++ be 8 x.2.toNat)) rfl KJ.out.2.1 KN.out.1 wn.heap.size An xl dn (be 1 ky.length ++ ky) rfl HXL.out.1 KN.out.2.1.bytes (by have := HPL.out j; have := KJ.out.2.1; have := HXL.out.2; omega) (nj + xl) rfl ?_; intro Ap dp wp hop hbp hgp; have KP := Lib.hid (And.intro hop (And.intro (KN.out.2.2.1.app KN.out.1 (by decide) hgp) (KN.out.2.2.2.trans hbp))); clear hop hbp hgp; have cc := KP.out.2.1.cell 11; simp [pv, pvk] at cc; rw [HQ.out.1, HCW.out.1] at cc; have k2 := (KP.out.2.2.cell (p := ⟨b1, o1 + j * 2 + 1, none⟩) HB1.out).trans ((KJ.out.2.2.2.cell (p := ⟨b1, o1 + j * 2 + 1, none⟩) HB1.out).symm.trans HCW.out.2.2))
          refine (rnumber8_any wp vr HID.out.2.1 HID.out.2.2).mono ?_
          rintro e wu ⟨Au, du, rfl, hou, hbu⟩
          rw [be_len]
          have KU := Lib.hid (And.intro (KP.out.1.keep hbu) (And.intro hou (And.intro (KP.out.2.1.keep hbu) (next KP.out.2.2 hbu))))
          clear cc k2 hou hbu
          go_wp2_with ((with_reducible show wpList _ _ _ ((⟨some 114, _, _, _, _, _⟩ : Oper) :: _) _ _); refine wpList_appW wu rfl (.tmp 106) (.tmp 113) rfl w.heap.size KU.out.2.2.2.size Ap (nj + xl) dp (((preB m 8 ++ be 1 q) ++ (m.ids.take j).flatMap (fun x => txt x.1 ++ be 8 x.2.toNat)) ++ (be 1 ky.length ++ ky)) rfl (by rw [List.length_append, KJ.out.2.1, HXL.out.1]) KU.out.1 wu.heap.size Au 8 du (be 8 vr.toNat) rfl (be_len _ _) KU.out.2.1.bytes (by have := HPL.out j; have := KJ.out.2.1; have := HXL.out.2; omega) (nj + xl + 8) rfl ?_; intro Av dv wv hov hbv hgv; have KV := Lib.hid (And.intro hov (And.intro (KU.out.2.2.1.app KU.out.1 (by decide) hgv) (KU.out.2.2.2.trans hbv))); clear hov hbv hgv)
          go_roundw
          case rel =>
            refine ⟨j + 1, by go_num, HJ.out.1, ?_⟩
            rw [List.take_succ_eq_append_getElem HJ.out.2, List.flatMap_append, ← List.append_assoc, HJE.out]
            simp only [List.flatMap_cons, List.flatMap_nil, List.append_nil]
            refine ⟨Av, dv, nj + xl + 8, rfl, ?_, ?_, KV.out.2.1, KV.out.2.2⟩
            · rw [show txt ky = be 1 ky.length ++ ky from rfl, ← List.append_assoc, List.length_append, List.length_append, KJ.out.2.1, HXL.out.1, be_len]
            · have := KV.out.1
              rw [show txt ky = be 1 ky.length ++ ky from rfl, ← List.append_assoc]; exact this
          case measure => simp [intOf]; have := HJ.out.1; omega
        · obtain rfl : j = q := by omega
          have h1 : ¬ (j : Int) < (j : Int) := by omega
          clear hj hjq
          go_wp2_with fail
          go_meet
          have hp := HP8.out
          simp only [if_true] at hp
          rw [hp, HFB.out, ← List.append_assoc]
          have ht : m.ids.take j = m.ids := by rw [← HQ.out.1, List.take_length]
          have k1 := KJ.out
          rw [ht] at k1
          exact ⟨Bj, dj, nj, rfl, k1.2.1, k1.1, k1.2.2.1, k1.2.2.2⟩
  case rest =>
  obtain ⟨B_8, e_8, n_8, rfl, hn, ho, hX, hb⟩ := hcut
  have K8 := Lib.hid (And.intro ho (And.intro hn (And.intro hX hb)))
  clear hn ho hX hb K7 HP8
  go_wp2_with fail
  refine (in_any wc m.kind HK.out 9 (by decide) 76 rfl).mono ?_
  rintro e wi ⟨rfl, rfl⟩
  obtain ⟨d_9, hd9⟩ : ∃ d, decide (9 ∈ flds m.kind) = d := ⟨_, rfl⟩
  have HP9 := Lib.hid (show preB m 10 = preB m 9 ++ (if d_9 = true then fb m 9 else []) by rw [preB_next m 9 HK.out (by decide), ← hd9]; simp)
  rw [hd9]
  clear hd9 
  go_upto_if 116 with fail
  go_cut [3] (fun s3 wx => BSt w bx m A c na nc (preB m 10) s3 wx)
  case first =>
    as_aux_lemma =>
    cases d_9
    · go_wp2_with fail
      go_meet
      have hp := HP9.out
      simp only [Bool.false_eq_true, if_false, List.append_nil] at hp
      rw [hp]
      exact ⟨B_8, e_8, n_8, rfl, K8.out.2.1, K8.out.1, K8.out.2.2.1, K8.out.2.2.2⟩
    · skip
      obtain ⟨q, hq⟩ : ∃ q, m.nodes.length = q := ⟨_, rfl⟩
      have HQ := Lib.hid (show m.nodes.length = q ∧ q ≤ 255 from ⟨hq, by have := HM.out.nodes; omega⟩)
      have hwf : IntKind.u8.wrap (q : Int) = (q : Int) := by
        have e : ∀ x : Int, IntKind.u8.wrap x = x % 256 := fun _ => rfl
        rw [e]; have := HQ.out.2; omega
      have cc := K8.out.2.2.1.cell 12
      simp [pv, pvk] at cc
      rw [hq] at cc
      have HFB := Lib.hid (show fb m 9 = be 1 q ++ m.nodes.flatMap (fun n => be 2 n.toNat) by rw [← hq]; rfl)
      clear hq
      have h255 : (q : Int) ≤ 255 := by have := HQ.out.2; omega
      have HBYT := Lib.hid (show Bytes (wc.alloc (.cells #[.int .u8 (q : Int)] 5)) (wc.heap.size + 1) (some ⟨wc.heap.size, 0, none⟩) (be 1 q) by
        unfold Bytes
        rw [be_one q (by have := HQ.out.2; omega)]
        exact cells_one wc _ _ _ (Nat.lt_succ_self _))
      have HPL := Lib.hid (show ∀ j, ((preB m 9 ++ be 1 q) ++ (m.nodes.take j).flatMap (fun n => be 2 n.toNat)).length ≤ 800000 from fun j => by
        have h1 := preB_le m 10 HM.out
        have hp := HP9.out
        simp only [if_true] at hp
        rw [hp, HFB.out, ← List.append_assoc, List.length_append] at h1
        rw [List.length_append]
        have h2 := take_flat m.nodes (fun n => be 2 n.toNat) j
        omega)
      go_wp2_with ((with_reducible show wpList _ _ _ ((⟨some 123, _, _, _, _, _⟩ : Oper) :: _) _ _); refine wpList_appW (wc.alloc (.cells #[.int .u8 (q : Int)] 5)) rfl (.tmp 117) (.tmp 122) rfl w.heap.size (by have := K8.out.2.2.2.size; simp; omega) B_8 n_8 e_8 (preB m 9) rfl K8.out.2.1 (K8.out.1.keep (nextA (Mem.start wc) _)) (wc.heap.size + 1) (some ⟨wc.heap.size, 0, none⟩) 1 1 (be 1 q) rfl (be_len _ _) HBYT.out (by have := preB_le m 9 HM.out; have := K8.out.2.1; omega) (n_8 + 1) rfl ?_; intro Am dm wm hom hbm hgm; have KM := Lib.hid (And.intro hom (And.intro ((K8.out.2.2.1.keep (nextA (Mem.start wc) _)).app (K8.out.1.keep (nextA (Mem.start wc) _)) (by decide) hgm) ((nextA K8.out.2.2.2 _).trans hbm))); clear hom hbm hgm)
      clear cc hwf
      go_loopw [3, 6] (fun s i wr => ∃ j : Nat, i = .int .i64 (j : Int) ∧ j ≤ q ∧ BSt w bx m A c na nc ((preB m 9 ++ be 1 q) ++ (m.nodes.take j).flatMap (fun n => be 2 n.toNat)) s wr) (fun _ i _ => q - (intOf i).toNat)
      case atStart => exact ⟨0, rfl, Nat.zero_le _, Am, dm, n_8 + 1, rfl, by simp [be_len, K8.out.2.1], by simpa using KM.out.1, KM.out.2.1, KM.out.2.2⟩
      case round =>
        clear KM
        obtain ⟨j, rfl, hj, Bj, dj, nj, rfl, hnj, hoj, hXj, hbj⟩ := hrel
        have cc := hXj.cell 12
        simp [pv, pvk] at cc
        rw [HQ.out.1] at cc
        have KJ := Lib.hid (And.intro hoj (And.intro hnj (And.intro hXj hbj)))
        clear hnj hoj hXj hbj
        by_cases hjq : j < q
        · have hjl : j < m.nodes.length := by rw [HQ.out.1]; exact hjq
          obtain ⟨b1, o1, e1, hb1, k1⟩ := (HI.out.below KJ.out.2.2.2).nodes.at_ (k := j) (by rw [List.length_map]; exact hjl)
          rw [List.getElem_map] at k1
          rw [e1] at cc
          obtain ⟨nd, hx⟩ : ∃ x, m.nodes[j] = x := ⟨_, rfl⟩
          rw [hx] at k1
          simp only [iv] at k1
          have hid : 0 ≤ nd ∧ nd ≤ 254 := by
            have hm : m.nodes[j] ∈ m.nodes := List.getElem_mem _
            rw [hx] at hm
            exact HM.out.nd _ hm
          have HID := Lib.hid hid
          have HJE := Lib.hid hx
          clear hid hx hb1 e1
          have h1 : (j : Int) < (q : Int) := by omega
          have h0 : (0 : Int) ≤ (j : Int) := by omega
          have HJ := Lib.hid (And.intro hjq hjl)
          go_wp2_with fail
          refine (rnumber2_any wr nd HID.out.1 (by have := HID.out.2; omega)).mono ?_
          rintro e wu ⟨Au, du, rfl, hou, hbu⟩
          rw [be_len]
          have KU := Lib.hid (And.intro (KJ.out.1.keep hbu) (And.intro hou (And.intro (KJ.out.2.2.1.keep hbu) (next KJ.out.2.2.2 hbu))))
          clear cc k1 hou hbu
          go_wp2_with ((with_reducible show wpList _ _ _ ((⟨some 138, _, _, _, _, _⟩ : Oper) :: _) _ _); refine wpList_appW wu rfl (.tmp 131) (.tmp 137) rfl w.heap.size KU.out.2.2.2.size Bj nj dj ((preB m 9 ++ be 1 q) ++ (m.nodes.take j).flatMap (fun n => be 2 n.toNat)) rfl KJ.out.2.1 KU.out.1 wu.heap.size Au 2 du (be 2 nd.toNat) rfl (be_len _ _) KU.out.2.1.bytes (by have := HPL.out j; have := KJ.out.2.1; omega) (nj + 2) rfl ?_; intro Av dv wv hov hbv hgv; have KV := Lib.hid (And.intro hov (And.intro (KU.out.2.2.1.app KU.out.1 (by decide) hgv) (KU.out.2.2.2.trans hbv))); clear hov hbv hgv)
          go_roundw
          case rel =>
            refine ⟨j + 1, by go_num, HJ.out.1, ?_⟩
            rw [List.take_succ_eq_append_getElem HJ.out.2, List.flatMap_append, ← List.append_assoc, HJE.out]
            simp only [List.flatMap_cons, List.flatMap_nil, List.append_nil]
            refine ⟨Av, dv, nj + 2, rfl, ?_, KV.out.1, KV.out.2.1, KV.out.2.2⟩
            rw [List.length_append, KJ.out.2.1, be_len]
          case measure => simp [intOf]; have := HJ.out.1; omega
        · obtain rfl : j = q := by omega
          have h1 : ¬ (j : Int) < (j : Int) := by omega
          clear hj hjq
          go_wp2_with fail
          go_meet
          have hp := HP9.out
          simp only [if_true] at hp
          rw [hp, HFB.out, ← List.append_assoc]
          have ht : m.nodes.take j = m.nodes := by rw [← HQ.out.1, List.take_length]
          have k1 := KJ.out
          rw [ht] at k1
          exact ⟨Bj, dj, nj, rfl, k1.2.1, k1.1, k1.2.2.1, k1.2.2.2⟩
  case rest =>
  obtain ⟨B_9, e_9, n_9, rfl, hn, ho, hX, hb⟩ := hcut
  have K9 := Lib.hid (And.intro ho (And.intro hn (And.intro hX hb)))
  clear hn ho hX hb K8 HP9
  go_wp2_with fail
  refine (in_any wc m.kind HK.out 10 (by decide) 80 rfl).mono ?_
  rintro e wi ⟨rfl, rfl⟩
  obtain ⟨d_10, hd10⟩ : ∃ d, decide (10 ∈ flds m.kind) = d := ⟨_, rfl⟩
  have HP10 := Lib.hid (show preB m 11 = preB m 10 ++ (if d_10 = true then fb m 10 else []) by rw [preB_next m 10 HK.out (by decide), ← hd10]; simp)
  rw [hd10]
  clear hd10 
  go_upto_if 140 with fail
  go_cut [3] (fun s3 wx => BSt w bx m A c na nc (preB m 11) s3 wx)
  case first =>
    as_aux_lemma =>
    cases d_10
    · go_wp2_with fail
      go_meet
      have hp := HP10.out
      simp only [Bool.false_eq_true, if_false, List.append_nil] at hp
      rw [hp]
      exact ⟨B_9, e_9, n_9, rfl, K9.out.2.1, K9.out.1, K9.out.2.2.1, K9.out.2.2.2⟩
    · skip
      have cc := K9.out.2.2.1.cell 13
      simp [pv, pvk] at cc
      go_wp2_with fail
      refine (rtext4_any wc m.data (by have := HM.out.data; omega)).mono ?_
      rintro e wn ⟨An, dn, rfl, hon, hbn⟩
      obtain ⟨xl, hxl⟩ : ∃ xl, (be 4 m.data.length ++ m.data).length = xl := ⟨_, rfl⟩
      have HXL := Lib.hid (And.intro hxl (show xl ≤ 65540 by rw [← hxl, List.length_append, be_len]; have := HM.out.data; omega))
      rw [hxl]
      clear hxl
      have KN := Lib.hid (And.intro (K9.out.1.keep hbn) (And.intro hon (And.intro (K9.out.2.2.1.keep hbn) (next K9.out.2.2.2 hbn))))
      clear cc hon hbn
      go_wp2_with ((with_reducible show wpList _ _ _ ((⟨some 145, _, _, _, _, _⟩ : Oper) :: _) _ _); refine wpList_appW wn rfl (.tmp 141) (.tmp 144) rfl w.heap.size KN.out.2.2.2.size B_9 n_9 e_9 (preB m 10) rfl K9.out.2.1 KN.out.1 wn.heap.size An xl dn (be 4 m.data.length ++ m.data) rfl HXL.out.1 KN.out.2.1.bytes (by have := HXL.out.2; have := preB_le m 10 HM.out; have := K9.out.2.1; omega) (n_9 + xl) rfl ?_; intro Am dm wm hom hbm hgm; have KM := Lib.hid (And.intro hom (And.intro (KN.out.2.2.1.app KN.out.1 (by decide) hgm) (KN.out.2.2.2.trans hbm))); clear hom hbm hgm)
      go_meet
      have hp := HP10.out
      simp only [if_true] at hp
      rw [hp]
      exact ⟨Am, dm, n_9 + xl, rfl, by rw [List.length_append, K9.out.2.1]; exact congrArg (n_9 + ·) HXL.out.1, KM.out.1, KM.out.2.1, KM.out.2.2⟩
  case rest =>
  obtain ⟨B_10, e_10, n_10, rfl, hn, ho, hX, hb⟩ := hcut
  have K10 := Lib.hid (And.intro ho (And.intro hn (And.intro hX hb)))
  clear hn ho hX hb K9 HP10
  go_wp2_with fail
  go_ret
  rw [← preB_all m HK.out]
  exact ⟨B_10, e_10, by rw [K10.out.2.1]; rfl, K10.out.1, K10.out.2.2.2⟩
end Go.Proofs.YtebdmfmadbikaaaDoor.WiW
