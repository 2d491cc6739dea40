/- The document's Get. Printed by genwdg.py (raw numbers of the seat). -/
import Derived.Test.YtebdmfmadbikaaaDoorWrDS
namespace Go.Proofs.YtebdmfmadbikaaaDoor.WiW
open Go.RowKit Go.Shelf Mem Fds FdW Wi Rng
set_option linter.unusedVariables false
set_option linter.unusedSimpArgs false

theorem dinfo2 : (Tryd.prog.info? 54).map (·.size) = some 2 := by kernel_rfl
theorem there_2 {w : World} {g : Nat} {T : TypeId} {cs : Array Value} {x y : Value} (h : Blk w g T cs) (hs : cs.size = 2 := by rfl) : w.there g 0 (#[x, y] : Array Value).size := fun j hj => by
  have hj : j < 2 := hj
  refine ⟨?_, ?_⟩
  · rw [Nat.zero_add, h.cell j, Array.getElem?_eq_getElem (by omega)]; rfl
  · rw [Nat.zero_add]; exact h.frozen j
theorem set_2 {w : World} {g : Nat} {T : TypeId} {a b : Value} (h : Blk w g T #[a, b]) (x y : Value) : Blk (w.setCells g 0 (#[x, y] : Array Value).toList) g T #[x, y] := by
  have h4 := blk_setCells (#[x, y] : Array Value).toList 0 w _ h
  have e : setAll #[a, b] 0 (#[x, y] : Array Value).toList = #[x, y] := by simp [setAll]
  rw [e] at h4; exact h4
/-- A guarded load that is carried out. -/
theorem wpList_load_on {ops : Array Oper} {rest : List Oper} {op : Oper} {a : Act} {w : World} {Q : Exit → Act → World → Prop} (hw : Region.wanted op (yielded ops a.tmps) = true) (ty : TypeId) (x : Operand) (ho : op.op = .load ty x) (q v : Value) (hx : a.eval x = q) (hl : (Instr.loadAt ty q).run Tryd.prog w = .ok v w)
    (h : wpList Tryd.prog ops Q rest (a.put op.dst v) w) : wpList Tryd.prog ops Q (op :: rest) a w := by
  refine BigFrame.wpList_want hw fun K hK => ?_
  unfold Oper.wp execOp
  simp only [ho, Sem.run_bind, Sem.run_pure, Result.andThen_ok, hx, hl]
  exact hK _ _ h
/-- The results are the box at q and a truth value. -/
theorem ret_box (T : Array Value) (W : World) (q : Nat) (m : Msg) (A : Option Addr) (k c : Nat) (na : Option Addr) (nc : Nat) (fl : Bool) (h2 : T.getD 2 undef = .pointer (some ⟨q, 0, none⟩)) (h3 : T.getD 3 undef = .bool fl) (hB : Blk W q 33 (pvk m A k c na nc)) :
    (results Tryd.f16 T).run Tryd.prog W = .ok (.tuple #[.agg (pvk m A k c na nc), .bool fl]) W := by
  have e0 := hB.cell 0
  have e1 := hB.cell 1
  have e2 := hB.cell 2
  have e3 := hB.cell 3
  have e4 := hB.cell 4
  have e5 := hB.cell 5
  have e6 := hB.cell 6
  have e7 := hB.cell 7
  have e8 := hB.cell 8
  have e9 := hB.cell 9
  have e10 := hB.cell 10
  have e11 := hB.cell 11
  have e12 := hB.cell 12
  have e13 := hB.cell 13
  simp [pvk] at e0 e1 e2 e3 e4 e5 e6 e7 e8 e9 e10 e11 e12 e13
  simp only [results, Tryd.results16]
  simp only [Array.getD_eq_getD_getElem?] at h2 h3
  simp [go_sem, h2, h3, e0, e1, e2, e3, e4, e5, e6, e7, e8, e9, e10, e11, e12, e13]
  rfl
set_option maxRecDepth 100000 in
set_option maxHeartbeats 64000000 in
theorem rget_any (w : World) (A : Option Addr) (b : List UInt8) (n c : Nat) (hn : n = b.length) (hnc : n ≤ c) (hcc : c ≤ 9223372036854775807) (hA : Bytes w w.heap.size A b) (hbl : b.length ≤ 1000000) :
    Calls Tryd.prog 16 #[.slice A n c] w (RGotR w b) := by
  subst hn
  obtain ⟨q, hq⟩ : ∃ q, w.heap.size = q := ⟨_, rfl⟩
  have hbr : ∀ (W : World) (A : Option Addr) (n c : Nat), (Instr.build 80 #[(0, .slice A n c)]).run Tryd.prog W = .ok (.agg #[.slice A n c, .bool false]) W := fun W A n c => by kernel_rfl
  have hbm : ∀ (W : World) (k : Int), (Instr.build 33 #[(0, .int .u8 k)]).run Tryd.prog W = .ok (.agg #[.int .u8 k, .int .i64 0, .int .i64 0, .int .i64 0, .string { data := #[] }, .int .i64 0, .int .i64 0, .int .i64 0, .int .i64 0, .int .i64 0, .bool false, .slice none 0 0, .slice none 0 0, .string { data := #[] }]) W := fun W k => by kernel_rfl
  have hbz : ∀ (W : World), (Instr.build 33 #[]).run Tryd.prog W = .ok (.agg #[.int .u8 0, .int .i64 0, .int .i64 0, .int .i64 0, .string { data := #[] }, .int .i64 0, .int .i64 0, .int .i64 0, .int .i64 0, .int .i64 0, .bool false, .slice none 0 0, .slice none 0 0, .string { data := #[] }]) W := fun W => by kernel_rfl
  obtain ⟨w2, hw2⟩ : ∃ w2 : World, (w.alloc (.cells #[.int .u8 0, .int .i64 0, .int .i64 0, .int .i64 0, .string { data := #[] }, .int .i64 0, .int .i64 0, .int .i64 0, .int .i64 0, .int .i64 0, .bool false, .slice none 0 0, .slice none 0 0, .string { data := #[] }] 33)).alloc (.cells #[.slice A b.length c, .bool false] 80) = w2 := ⟨_, rfl⟩
  have hb2 : Below w.heap.size w w2 := by rw [← hw2]; exact nextA (nextA (Mem.start w) _) _
  have H2 := Lib.hid (show Blk w2 q 33 (pv mz none 0 none 0) ∧ RdD w2 q (q + 1) (some b) ∧ Below q w w2 ∧ w2.heap.size = q + 2 by
    rw [← hq]
    refine ⟨?_, ⟨by omega, A, b.length, c, ?_, fun l e => ?_⟩, hb2, by rw [← hw2]; simp⟩
    · rw [← hw2]; exact (Blk.new w _ _).keep (nextA (Mem.start _) _)
    · rw [← hw2]
      have := Blk.new (w.alloc (.cells #[.int .u8 0, .int .i64 0, .int .i64 0, .int .i64 0, .string { data := #[] }, .int .i64 0, .int .i64 0, .int .i64 0, .int .i64 0, .int .i64 0, .bool false, .slice none 0 0, .slice none 0 0, .string { data := #[] }] 33)) 80 #[.slice A b.length c, .bool false]
      rw [World.size_alloc] at this; exact this
    · injection e with e; subst e; exact ⟨rfl, hA.below hb2, hnc, hcc⟩)
  have HBL := Lib.hid hbl
  have HQ := Lib.hid hq
  clear hb2 hA hnc hcc hbl
  go_enter Tryd.func16, Tryd.ntmps16
  go_wp2_with fail
  try simp only [hq]
  try rw [hw2]
  refine (dnumber_any w2 q (q + 1) 1 _ H2.out.2.1 (by decide)).mono ?_
  rintro e w3 ⟨hf, v1, rfl, hv1, hr⟩
  obtain ⟨k, hk1, hk2, hk3⟩ := getD_small (o := some b) (n := 1) (Nat.le_refl _)
  rw [hk1] at hv1
  subst hv1
  have hwk : IntKind.u8.wrap (k : Int) = (k : Int) := by
    have e : ∀ x : Int, IntKind.u8.wrap x = x % 256 := fun _ => rfl
    rw [e]; omega
  obtain ⟨mb, hmb⟩ : ∃ mb, w3.heap.size = mb := ⟨_, rfl⟩
  obtain ⟨o1, ho1⟩ : ∃ o1, ((some b).bind (rnum 1)).map (·.2) = o1 := ⟨_, rfl⟩
  rw [ho1] at hr
  have hB3 := Blk.new w3 33 #[.int .u8 0, .int .i64 0, .int .i64 0, .int .i64 0, .string { data := #[] }, .int .i64 0, .int .i64 0, .int .i64 0, .int .i64 0, .int .i64 0, .bool false, .slice none 0 0, .slice none 0 0, .string { data := #[] }]
  rw [hmb] at hB3
  obtain ⟨w4, hw4⟩ : ∃ w4 : World, (w3.alloc (.cells #[.int .u8 0, .int .i64 0, .int .i64 0, .int .i64 0, .string { data := #[] }, .int .i64 0, .int .i64 0, .int .i64 0, .int .i64 0, .int .i64 0, .bool false, .slice none 0 0, .slice none 0 0, .string { data := #[] }] 33)).setCells mb 0 (pvk (msg0 k 0 0) none 0 0 none 0).toList = w4 := ⟨_, rfl⟩
  have hf4 : Fr (fun k => k = mb) (w3.alloc (.cells #[.int .u8 0, .int .i64 0, .int .i64 0, .int .i64 0, .string { data := #[] }, .int .i64 0, .int .i64 0, .int .i64 0, .int .i64 0, .int .i64 0, .bool false, .slice none 0 0, .slice none 0 0, .string { data := #[] }] 33)) w4 := by rw [← hw4]; exact fr_setCells (S := fun k => k = mb) rfl _ _ _ (Fr.refl _ _)
  have H4 := Lib.hid (show DS w q mb (msg0 k 0 0) none 0 none 0 o1 w4 by
    have hsz := hf.size
    have hs2 := H2.out.2.2.2
    refine ⟨((H2.out.1.fr hf (by omega)).keep (nextA (Mem.start _) _)).fr hf4 (by omega), ?_, (hr.keep (nextA (Mem.start _) _)).fr hf4 (fun k hk => by omega) (by omega), OwnK.nil, Own.nil, (H2.out.2.2.1.trans ((hf.below (B := q) (by omega) fun k hk => by omega).trans ((nextA (Mem.start w3) _).mono (by omega)))).trans (hf4.below (by simp; omega) fun k hk => by omega), by omega⟩
    rw [← hw4]
    exact set14p hB3 (msg0 k 0 0) none 0 0 none 0)
  have HB3 := Lib.hid hB3
  have HK := Lib.hid (And.intro hk2 hk3)
  have HO1 := Lib.hid ho1
  have HW2 := Lib.hid hw2
  clear hf hr hk1 hk2 hk3 ho1 hw2 hB3 hf4
  go_wp2_with ((with_reducible show wpList _ _ _ ((⟨none, .store _ _ _, _, _, _, _⟩ : Oper) :: _) _ _); refine wpList_store_mid rfl 33 (.tmp 5) (.tmp 20) rfl mb 0 (pvk (msg0 k 0 0) none 0 0 none 0) (by simp [Act.eval, hmb]) rfl (there_p HB3.out) pinfo (pvk_one _ _ _ _ _ _) ?_)
  try simp only [hmb]
  try rw [hw4]
  clear hbr hbm hw4

  refine (dnumber_any w4 q (q + 1) 2 _ H4.out.2.2.1 (by decide)).mono ?_
  rintro e w5 ⟨hf, v2, rfl, hv2, hr⟩
  obtain ⟨o2, ho2⟩ : ∃ o2, (o1.bind (rnum 2)).map (·.2) = o2 := ⟨_, rfl⟩
  rw [ho2] at hr
  have H5 := Lib.hid (H4.out.rd hf hr)
  have c0 := H5.out.2.1.cell 1
  have z0 := H5.out.2.1.frozen 1
  simp [pv, pvk] at c0
  have HV2 := Lib.hid (And.intro hv2 ho2)
  clear hf hr hv2 ho2
  go_wp2_with fail
  have H6 := Lib.hid (H5.out.put (m' := { msg0 k 0 0 with frm := v2 }) 1 (.int .i64 v2) rfl rfl rfl)
  clear c0 z0
  obtain ⟨w6, hw6⟩ : ∃ x, w5.setCell ⟨mb, 1, none⟩ (.int .i64 v2) = x := ⟨_, rfl⟩
  rw [hw6] at H6 ⊢
  clear hw6
  refine (dnumber_any w6 q (q + 1) 2 _ H6.out.2.2.1 (by decide)).mono ?_
  rintro e w7 ⟨hf, v3, rfl, hv3, hr⟩
  obtain ⟨o3, ho3⟩ : ∃ o3, (o2.bind (rnum 2)).map (·.2) = o3 := ⟨_, rfl⟩
  rw [ho3] at hr
  have H7 := Lib.hid (H6.out.rd hf hr)
  have c0 := H7.out.2.1.cell 2
  have z0 := H7.out.2.1.frozen 2
  have c1 := H7.out.2.1.cell 0
  have z1 := H7.out.2.1.frozen 0
  simp [pv, pvk] at c0 c1
  have HV3 := Lib.hid (And.intro hv3 ho3)
  clear hf hr hv3 ho3
  go_wp2_with fail
  refine (has_any _ k HK.out.1).mono ?_
  rintro e w8 ⟨rfl, rfl⟩
  have H8 := Lib.hid (H7.out.put (m' := { msg0 k 0 0 with frm := v2, to_ := v3 }) 2 (.int .i64 v3) rfl rfl rfl)
  clear c0 z0 c1 z1
  obtain ⟨w8, hw8⟩ : ∃ x, w7.setCell ⟨mb, 2, none⟩ (.int .i64 v3) = x := ⟨_, rfl⟩
  rw [hw8] at H8 ⊢
  clear hw8
  obtain ⟨m0, hm0⟩ : ∃ m0, msg0 k v2 v3 = m0 := ⟨_, rfl⟩
  have HM0 := Lib.hid (show k = m0.kind by rw [← hm0]; rfl)
  have HG := Lib.hid (show Wi.get b = (o3.bind (rfs (flds k) m0)).bind fun p => if p.2.length = 0 ∧ may p.1 = true then some p.1 else none by
    have := get_of (rhead_of (b := b) (fun x hx => HK.out.2 x hx) HO1.out.symm HV2.out.1 HV2.out.2.symm HV3.out.1 HV3.out.2.symm)
    rw [hm0] at this
    rw [this, ← hm0]; rfl)
  have HSZ := Lib.hid (get_sz (rhead_of (b := b) (fun x hx => HK.out.2 x hx) HO1.out.symm HV2.out.1 HV2.out.2.symm HV3.out.1 HV3.out.2.symm) rfl HBL.out)
  rw [hm0] at HSZ
  have HJ0 := Lib.hid (show DJ w q mb m0 o3 ((flds k).take (1 - 1)) w8 by
    refine ⟨m0, none, 0, none, 0, ?_, fun x hx => ?_, rfl, fun _ => ⟨by rw [← hm0]; rfl, rfl, rfl⟩, fun _ => ⟨by rw [← hm0]; rfl, rfl, rfl⟩⟩
    · have e : (o3.bind (rfs ((flds k).take (1 - 1)) m0)).map (·.2) = o3 := by cases o3 <;> rfl
      rw [e, ← hm0]; exact H8.out
    · cases o3 with
      | none => cases hx
      | some l => injection hx with hx; rw [← hx])
  obtain ⟨S, hS⟩ : ∃ S, hasS k = S := ⟨_, rfl⟩
  rw [hS]
  have HSS := Lib.hid hS
  clear hS hm0 hwk
  go_wp2_with fail
  obtain ⟨N, hN⟩ : ∃ N, S.length = N := ⟨_, rfl⟩
  have hz : (str S).size = N := by rw [str_size, hN]
  have HN := Lib.hid (show N ≤ 6 by rw [← hN, ← HSS.out]; exact hasS_len k)
  have HNN := Lib.hid hN
  have hN6 : (N : Int) ≤ 6 := by have := HN.out; omega
  clear hN
  go_loopw [7] (fun i wr => ∃ j : Nat, i = .int .i64 (j : Int) ∧ 1 ≤ j ∧ j ≤ 7 ∧ DJ w q mb m0 o3 ((flds k).take (j - 1)) wr) (fun i _ => 7 - (intOf i).toNat)
  case atStart => exact ⟨1, rfl, Nat.le_refl _, by decide, HJ0.out⟩
  case round =>
    obtain ⟨j, rfl, hj1, hj7, hI⟩ := hrel
    by_cases hjn : j < N
    · have h1 : (j : Int) < (N : Int) := by omega
      have h0 : (0 : Int) ≤ (j : Int) := by omega
      have hjs : j < (str S).size := by rw [hz]; exact hjn
      obtain ⟨f, hf, hl, ht, hnf⟩ := hasS_at (k := k) hj1 (by rw [HSS.out, HNN.out]; exact hjn)
      rw [HSS.out] at hl
      have hg := str_at hl hjs
      obtain ⟨m, A1, c1, na, nc, hD, hx, hk, h8, h9⟩ := hI
      obtain ⟨oo, hoo⟩ : ∃ oo, (o3.bind (rfs ((flds k).take (j - 1)) m0)).map (·.2) = oo := ⟨_, rfl⟩
      have HNX := Lib.hid (show ∀ W, FR w q mb m A1 c1 na nc oo f W → DJ w q mb m0 o3 ((flds k).take (j + 1 - 1)) W from fun W h => by
        rw [Nat.add_sub_cancel, ht]
        exact DJ.next hx hk h8 h9 (by rw [hoo]; exact h))
      have H89 := Lib.hid (show (f = 8 → m.ids = [] ∧ A1 = none ∧ c1 = 0) ∧ (f = 9 → m.nodes = [] ∧ na = none ∧ nc = 0) from ⟨fun e => h8 (by rw [← e]; exact hnf), fun e => h9 (by rw [← e]; exact hnf)⟩)
      rw [hoo] at hD
      have HD := Lib.hid hD
      have HJN := Lib.hid (And.intro hjn (And.intro hj1 (show N ≤ 6 from HN.out)))
      clear hl ht hnf hx hk h8 h9 hoo hD hj1 hj7
      have hfc : f = 0 ∨ f = 1 ∨ f = 2 ∨ f = 3 ∨ f = 4 ∨ f = 5 ∨ f = 6 ∨ f = 7 ∨ f = 8 ∨ f = 9 ∨ f = 10 := by omega
      clear hf
      rcases hfc with rfl | rfl | rfl | rfl | rfl | rfl | rfl | rfl | rfl | rfl | rfl

      · as_aux_lemma =>
        have hg2 : (str S)[j] = (82 : UInt8) := hg
        clear hg
        go_wp2_with fail
        refine (dnumber_any wr q (q + 1) 8 _ HD.out.2.2.1 (by decide)).mono ?_
        rintro e w9 ⟨hf, v, rfl, hv, hr⟩
        have H9 := Lib.hid (HD.out.rd hf hr)
        have c9 := H9.out.2.1.cell 3
        have z9 := H9.out.2.1.frozen 3
        simp [pv, pvk] at c9
        have HV := Lib.hid hv
        clear hf hr hv
        have HFIN := Lib.hid (HNX.out _ (FR.num (n := 8) (v := v) (fun x => { m with req := x }) (fun l => rfl) HV.out ⟨rfl, rfl, rfl⟩ (H9.out.put (m' := { m with req := v }) 3 (.int .i64 v) rfl rfl rfl)))
        go_wp2_with fail
        go_roundw
        case rel => exact ⟨j + 1, by go_num, by omega, by have := HJN.out; omega, HFIN.out⟩
        case measure => simp [intOf]; have := HJN.out; omega
      · as_aux_lemma =>
        have hg2 : (str S)[j] = (75 : UInt8) := hg
        clear hg
        go_wp2_with fail
        refine (dtext_any wr q (q + 1) 1 _ HD.out.2.2.1 (by decide)).mono ?_
        rintro e w9 ⟨hf, v, rfl, hv, hr⟩
        have H9 := Lib.hid (HD.out.rd hf hr)
        have c9 := H9.out.2.1.cell 4
        have z9 := H9.out.2.1.frozen 4
        simp [pv, pvk] at c9
        have HV := Lib.hid hv
        clear hf hr hv
        have HFIN := Lib.hid (HNX.out _ (FR.txt (n := 1) (v := v) (fun x => { m with key := x }) (fun l => rfl) HV.out ⟨rfl, rfl, rfl⟩ (H9.out.put (m' := { m with key := v }) 4 (.string (str v)) rfl rfl rfl)))
        go_wp2_with fail
        go_roundw
        case rel => exact ⟨j + 1, by go_num, by omega, by have := HJN.out; omega, HFIN.out⟩
        case measure => simp [intOf]; have := HJN.out; omega
      · as_aux_lemma =>
        have hg2 : (str S)[j] = (86 : UInt8) := hg
        clear hg
        go_wp2_with fail
        refine (dnumber_any wr q (q + 1) 8 _ HD.out.2.2.1 (by decide)).mono ?_
        rintro e w9 ⟨hf, v, rfl, hv, hr⟩
        have H9 := Lib.hid (HD.out.rd hf hr)
        have c9 := H9.out.2.1.cell 5
        have z9 := H9.out.2.1.frozen 5
        simp [pv, pvk] at c9
        have HV := Lib.hid hv
        clear hf hr hv
        have HFIN := Lib.hid (HNX.out _ (FR.num (n := 8) (v := v) (fun x => { m with ver := x }) (fun l => rfl) HV.out ⟨rfl, rfl, rfl⟩ (H9.out.put (m' := { m with ver := v }) 5 (.int .i64 v) rfl rfl rfl)))
        go_wp2_with fail
        go_roundw
        case rel => exact ⟨j + 1, by go_num, by omega, by have := HJN.out; omega, HFIN.out⟩
        case measure => simp [intOf]; have := HJN.out; omega
      · as_aux_lemma =>
        have hg2 : (str S)[j] = (73 : UInt8) := hg
        clear hg
        go_wp2_with fail
        refine (dnumber_any wr q (q + 1) 8 _ HD.out.2.2.1 (by decide)).mono ?_
        rintro e w9 ⟨hf, v, rfl, hv, hr⟩
        have H9 := Lib.hid (HD.out.rd hf hr)
        have c9 := H9.out.2.1.cell 6
        have z9 := H9.out.2.1.frozen 6
        simp [pv, pvk] at c9
        have HV := Lib.hid hv
        clear hf hr hv
        have HFIN := Lib.hid (HNX.out _ (FR.num (n := 8) (v := v) (fun x => { m with inc := x }) (fun l => rfl) HV.out ⟨rfl, rfl, rfl⟩ (H9.out.put (m' := { m with inc := v }) 6 (.int .i64 v) rfl rfl rfl)))
        go_wp2_with fail
        go_roundw
        case rel => exact ⟨j + 1, by go_num, by omega, by have := HJN.out; omega, HFIN.out⟩
        case measure => simp [intOf]; have := HJN.out; omega
      · as_aux_lemma =>
        have hg2 : (str S)[j] = (83 : UInt8) := hg
        clear hg
        go_wp2_with fail
        refine (dnumber_any wr q (q + 1) 4 _ HD.out.2.2.1 (by decide)).mono ?_
        rintro e w9 ⟨hf, v, rfl, hv, hr⟩
        have H9 := Lib.hid (HD.out.rd hf hr)
        have c9 := H9.out.2.1.cell 7
        have z9 := H9.out.2.1.frozen 7
        simp [pv, pvk] at c9
        have HV := Lib.hid hv
        clear hf hr hv
        have HFIN := Lib.hid (HNX.out _ (FR.num (n := 4) (v := v) (fun x => { m with size := x }) (fun l => rf_sgn (n := 4) (by decide) l (fun x : Int => ({ m with size := x } : Msg))) HV.out ⟨rfl, rfl, rfl⟩ (H9.out.put (m' := { m with size := v }) 7 (.int .i64 v) rfl rfl rfl)))
        go_wp2_with fail
        go_roundw
        case rel => exact ⟨j + 1, by go_num, by omega, by have := HJN.out; omega, HFIN.out⟩
        case measure => simp [intOf]; have := HJN.out; omega
      · as_aux_lemma =>
        have hg2 : (str S)[j] = (67 : UInt8) := hg
        clear hg
        go_wp2_with fail
        refine (dnumber_any wr q (q + 1) 2 _ HD.out.2.2.1 (by decide)).mono ?_
        rintro e w9 ⟨hf, v, rfl, hv, hr⟩
        have H9 := Lib.hid (HD.out.rd hf hr)
        have c9 := H9.out.2.1.cell 8
        have z9 := H9.out.2.1.frozen 8
        simp [pv, pvk] at c9
        have HV := Lib.hid hv
        clear hf hr hv
        have HFIN := Lib.hid (HNX.out _ (FR.num (n := 2) (v := v) (fun x => { m with code := x }) (fun l => rf_sgn (n := 2) (by decide) l (fun x : Int => ({ m with code := x } : Msg))) HV.out ⟨rfl, rfl, rfl⟩ (H9.out.put (m' := { m with code := v }) 8 (.int .i64 v) rfl rfl rfl)))
        go_wp2_with fail
        go_roundw
        case rel => exact ⟨j + 1, by go_num, by omega, by have := HJN.out; omega, HFIN.out⟩
        case measure => simp [intOf]; have := HJN.out; omega
      · as_aux_lemma =>
        have hg2 : (str S)[j] = (78 : UInt8) := hg
        clear hg
        go_wp2_with fail
        refine (dnumber_any wr q (q + 1) 2 _ HD.out.2.2.1 (by decide)).mono ?_
        rintro e w9 ⟨hf, v, rfl, hv, hr⟩
        have H9 := Lib.hid (HD.out.rd hf hr)
        have c9 := H9.out.2.1.cell 9
        have z9 := H9.out.2.1.frozen 9
        simp [pv, pvk] at c9
        have HV := Lib.hid hv
        clear hf hr hv
        have HFIN := Lib.hid (HNX.out _ (FR.num (n := 2) (v := v) (fun x => { m with node := x }) (fun l => rf_sgn (n := 2) (by decide) l (fun x : Int => ({ m with node := x } : Msg))) HV.out ⟨rfl, rfl, rfl⟩ (H9.out.put (m' := { m with node := v }) 9 (.int .i64 v) rfl rfl rfl)))
        go_wp2_with fail
        go_roundw
        case rel => exact ⟨j + 1, by go_num, by omega, by have := HJN.out; omega, HFIN.out⟩
        case measure => simp [intOf]; have := HJN.out; omega
      · as_aux_lemma =>
        have hg2 : (str S)[j] = (66 : UInt8) := hg
        clear hg
        go_wp2_with fail
        refine (dnumber_any wr q (q + 1) 1 _ HD.out.2.2.1 (by decide)).mono ?_
        rintro e w9 ⟨hf, v, rfl, hv, hr⟩
        obtain ⟨k1, hk1, hk2, hk3⟩ := getD_small (o := oo) (n := 1) (Nat.le_refl _)
        rw [hk1] at hv
        subst hv
        have H9 := Lib.hid (HD.out.rd hf hr)
        have c9 := H9.out.2.1.cell 10
        have z9 := H9.out.2.1.frozen 10
        simp [pv, pvk] at c9
        have HKK := Lib.hid (And.intro hk1 (And.intro hk2 hk3))
        obtain ⟨o9, ho9⟩ : ∃ o9, (oo.bind (rnum 1)).map (·.2) = o9 := ⟨_, rfl⟩
        rw [ho9] at H9
        have HO9 := Lib.hid ho9
        clear hf hr hk1 hk2 hk3 ho9
        have eb : ((k1 : Int) == 1) = decide (k1 = 1) := by rw [Bool.eq_iff_iff, beq_iff_eq, decide_eq_true_iff]; omega
        have eg : decide ((1 : Int) < (k1 : Int)) = decide (1 < k1) := by rw [Bool.eq_iff_iff, decide_eq_true_iff, decide_eq_true_iff]; omega
        have HA := Lib.hid (H9.out.put (m' := { m with back := decide (k1 = 1) }) 10 (.bool (decide (k1 = 1))) rfl rfl rfl)
        have HB := Lib.hid (HA.out.turn (decide (1 < k1)))
        have HFIN := Lib.hid (HNX.out _ (FR.back HKK.out.2.2 (by rw [HO9.out]; exact HB.out)))
        obtain ⟨dA, hdA⟩ : ∃ d, decide (k1 = 1) = d := ⟨_, rfl⟩
        obtain ⟨dB, hdB⟩ : ∃ d, decide (1 < k1) = d := ⟨_, rfl⟩
        rw [hdA] at eb
        rw [hdB] at eg
        rw [hdA, hdB] at HFIN
        rw [hdA] at HA
        rw [hdB] at HB
        have hR8 := H9.out.2.2.1
        obtain ⟨_, A8, n8, d8, hB8, _⟩ := hR8
        have y8 := hB8.frozen 1
        have hR9 := HA.out.2.2.1
        obtain ⟨_, A9, n9, d9, hB9, _⟩ := hR9
        have b9 := hB9.cell 1
        have y9 := hB9.frozen 1
        simp at b9
        clear hB9 hB8 hdA hdB HB HA HKK HO9
        rcases o9 with _ | l9
        · simp only [Option.isNone_none, Option.isNone_some, Bool.true_or, Bool.false_or] at HFIN b9
          go_wp2_with fail
          go_roundw
          case rel => exact ⟨j + 1, by go_num, by omega, by have := HJN.out; omega, HFIN.out⟩
          case measure => simp [intOf]; have := HJN.out; omega
        · simp only [Option.isNone_none, Option.isNone_some, Bool.true_or, Bool.false_or] at HFIN b9
          go_wp2_with fail
          go_roundw
          case rel => exact ⟨j + 1, by go_num, by omega, by have := HJN.out; omega, HFIN.out⟩
          case measure => simp [intOf]; have := HJN.out; omega
      · as_aux_lemma =>
        have hg2 : (str S)[j] = (68 : UInt8) := hg
        clear hg
        go_wp2_with fail
        refine (dnumber_any wr q (q + 1) 1 _ HD.out.2.2.1 (by decide)).mono ?_
        rintro e w9 ⟨hf, v, rfl, hv, hr⟩
        obtain ⟨k1, hk1, hk2, hk3⟩ := getD_small (o := oo) (n := 1) (Nat.le_refl _)
        rw [hk1] at hv
        subst hv
        have H9 := Lib.hid (HD.out.rd hf hr)
        obtain ⟨o9, ho9⟩ : ∃ o9, (oo.bind (rnum 1)).map (·.2) = o9 := ⟨_, rfl⟩
        rw [ho9] at H9
        have HKK := Lib.hid (And.intro hk2 (And.intro hk3 ho9))
        have hmm : ({ m with ids := [] } : Msg) = m := by have := (H89.out.1 (by simp)).1; cases m; dsimp only at this; subst this; rfl
        have HI0 := Lib.hid (show IJ w q mb m na nc o9 0 w9 from ⟨[], A1, c1, rfl, by rw [hmm, show (o9.bind (rids 0)).map (·.2) = o9 from by cases o9 <;> rfl]; exact H9.out, fun x hx => by cases o9 with | none => cases hx | some l => injection hx with hx; rw [← hx]⟩)
        have h10 : (0 : Int) ≤ (k1 : Int) := by omega
        have h11 : (k1 : Int) ≤ 255 := by omega
        have hbi : ∀ (W : World) (x : ByteArray), (Instr.build 54 #[(0, .string x)]).run Tryd.prog W = .ok (.agg #[.string x, .int .i64 0]) W := fun W x => by kernel_rfl
        clear hf hr hk1 hk2 hk3 ho9 hmm
        go_wp2_with fail
        go_loopw [10] (fun i wr => ∃ j2 : Nat, i = .int .i64 (j2 : Int) ∧ j2 ≤ k1 ∧ IJ w q mb m na nc o9 j2 wr) (fun i _ => k1 - (intOf i).toNat)
        case atStart => exact ⟨0, rfl, Nat.zero_le _, HI0.out⟩
        case round =>
          obtain ⟨j2, rfl, hj2, hNJ⟩ := hrel
          by_cases hjk : j2 < k1
          · have g1 : (j2 : Int) < (k1 : Int) := by omega
            have g0 : (0 : Int) ≤ (j2 : Int) := by omega
            have HNJ := Lib.hid hNJ
            obtain ⟨xs, A2, c2, hxl, hDS, hxs⟩ := hNJ
            obtain ⟨o2, ho2⟩ : ∃ o2, (o9.bind (rids j2)).map (·.2) = o2 := ⟨_, rfl⟩
            rw [ho2] at hDS
            have HDS := Lib.hid hDS
            have HXL := Lib.hid hxl
            have HXS := Lib.hid (And.intro ho2 hxs)
            have HJK := Lib.hid hjk
            obtain ⟨_, A', n', d', hB', _⟩ := hDS.2.2.1
            have b1 := hB'.cell 1
            simp at b1
            clear hB' hxs hDS
            rcases o2 with _ | l
            · have HFIN := Lib.hid (HNX.out _ (IJ.done (A := A1) (na := na) (c := c1) (nc := nc) (H89.out.1 (by simp)).1 HKK.out.2.1 HKK.out.2.2.symm HNJ.out hj2 (.inr (by rw [Option.map_eq_none_iff] at ho2; exact ho2))))
              simp only [Option.isNone_none] at b1
              clear ho2 hxl hbi
              go_wp2_with fail
              go_roundw
              case rel => exact ⟨j + 1, by go_num, by omega, by have := HJN.out; omega, HFIN.out⟩
              case measure => simp [intOf]; have := HJN.out; omega
            · simp only [Option.isNone_some] at b1
              clear ho2 hxl
              go_wp2_with fail
              refine (dtext_any wr q (q + 1) 1 (some l) HDS.out.2.2.1 (by decide)).mono ?_
              rintro e w10 ⟨hf, sx, rfl, hs, hr⟩
              obtain ⟨o10, ho10⟩ : ∃ o10, ((some l).bind (rtx 1)).map (·.2) = o10 := ⟨_, rfl⟩
              rw [ho10] at hr
              have H10 := Lib.hid (HDS.out.rd hf hr)
              have HSX := Lib.hid (And.intro hs ho10)
              obtain ⟨kb, hkb⟩ : ∃ kb, w10.heap.size = kb := ⟨_, rfl⟩
              clear hf hs hr ho10
              go_wp2_with fail
              have hB0 := Blk.new w10 54 #[.string (str sx), .int .i64 0]
              rw [hkb] at hB0
              obtain ⟨w11, hw11⟩ : ∃ x, w10.alloc (.cells #[.string (str sx), .int .i64 0] 54) = x := ⟨_, rfl⟩
              have H11 := Lib.hid (show DS w q mb { m with ids := xs } A2 c2 na nc o10 w11 ∧ Blk w11 kb 54 #[.string (str sx), .int .i64 0] ∧ q + 1 < kb ∧ kb ≠ mb ∧ (∀ g, A2 = some ⟨g, 0, none⟩ → g ≠ kb) ∧ (∀ g, na = some ⟨g, 0, none⟩ → g ≠ kb) from by
                have hlo := H10.out.lo
                have hmbl := H10.out.2.1.lt
                have hmq := H10.out.2.2.2.2.2.2
                rw [hkb] at hlo hmbl
                have hne : q + 1 < kb ∧ kb ≠ mb ∧ (∀ g, A2 = some ⟨g, 0, none⟩ → g ≠ kb) ∧ (∀ g, na = some ⟨g, 0, none⟩ → g ≠ kb) := ⟨by omega, by omega, fun g e => by have := hlo.1 g e; omega, fun g e => by have := hlo.2.1 g e; omega⟩
                exact ⟨by rw [← hw11]; exact H10.out.keep (nextA (Mem.start w10) _), by rw [← hw11]; exact hB0, hne⟩)
              clear hB0
              rw [hw11]
              clear hw11
              refine (dnumber_any w11 q (q + 1) 8 o10 H11.out.1.2.2.1 (by decide)).mono ?_
              rintro e w12 ⟨hf, v, rfl, hv, hr⟩
              have H12 := Lib.hid (And.intro (H11.out.1.rd hf hr) (H11.out.2.1.fr hf (by have := H11.out.2.2.1; omega)))
              have HV := Lib.hid hv
              clear hf hr hv
              have k1c := H12.out.2.cell 1
              have k1z := H12.out.2.frozen 1
              simp at k1c
              obtain ⟨w13, hw13⟩ : ∃ x, w12.setCell ⟨kb, 1, none⟩ (.int .i64 v) = x := ⟨_, rfl⟩
              have hf13 : Fr (fun k => k = kb) w12 w13 := by rw [← hw13]; exact Fr.setCell (S := fun k => k = kb) (w' := w12) (Fr.refl _ w12) (p := ⟨kb, 1, none⟩) (fun _ => rfl) _
              have H13 := Lib.hid (show DS w q mb { m with ids := xs } A2 c2 na nc _ w13 ∧ Blk w13 kb 54 #[.string (str sx), .int .i64 v] from ⟨H12.out.1.frS hf13 (fun k hk => by subst hk; exact H11.out.2.2), by rw [← hw13]; exact H12.out.2.set_ 1 (.int .i64 v)⟩)
              have c11 := H13.out.1.2.1.cell 11
              simp [pv, pvk] at c11
              rw [HXL.out] at c11
              have H14 := Lib.hid (H13.out.1.keep (nextA (Mem.start w13) (.cells (dc (sx, v)).toArray 54)))
              clear hf13
              go_upto_region 35 with fail
              try rw [hw13]
              clear hw13 k1c k1z
              obtain ⟨i0, hi0, hz0, hz1, hz2⟩ := info_parts didinfo
              go_wp2_with (first | ((with_reducible show wpList _ _ _ ((⟨some 116, _, _, _, _, _⟩ : Oper) :: _) _ _); refine wpList_load_mid rfl 54 (.tmp 11) rfl kb 0 rfl (#[.string (str sx), .int .i64 v] : Array Value).toList _ (range_of H13.out.2) Tryd.underlying54 rfl dinfo2 ?_) | ((with_reducible show wpList _ _ _ ((⟨some 118, _, _, _, _, _⟩ : Oper) :: _) _ _); refine wpList_appK (w13.alloc (.cells (dc (sx, v)).toArray 54)) rfl (.tmp 115) (.tmp 117) 31 (by rfl) q 54 i0 _ 2 24 Tryd.underlying31 hi0 hz0 hz1 hz2 (by rfl) (by decide) A2 c2 j2 (xs.flatMap dc) (by rfl) (by have := H14.out.2.2.2.1; dsimp only at this; rw [HXL.out] at this; exact this) (w13.heap.size + 1) (some ⟨w13.heap.size, 0, none⟩) 1 1 (dc (sx, v)) (by rfl) ?cl (by rfl) (dc_one _) (by have := HKK.out.1; have := HJK.out; unfold maxLen; omega) (by have := HKK.out.1; have := HJK.out; omega) (Nat.le_of_lt H14.out.1.lt) (j2 + 1) rfl ?_; (case cl => exact fun _ => ⟨w13.heap.size, 0, rfl, Nat.lt_succ_self _, fun qq v hv => by rw [Nat.zero_add]; exact (new_cell w13 _ _ _ qq).trans (by rw [← hv]; simp [dc])⟩); intro A3 c3 w15 ho3 hb3 hg3 hA3; have HFN := Lib.hid (H14.out.appI (ys := xs ++ [(sx, v)]) (by rw [List.flatMap_append]; simpa using ho3) (show _ = j2 + 1 by rw [List.length_append, HXL.out]; rfl) hg3); have HB5 := Lib.hid (H14.out.blkI hg3); clear ho3 hb3 hg3 hA3; have z0 := HB5.out.frozen 11; have cc0 := HB5.out.cell 11; simp [pv, pvk] at cc0; rw [HXL.out] at cc0))
              clear z0 cc0 c11 hi0 hz0 hz1 hz2
              have HF2 := Lib.hid (IJ.next HXL.out HXS.out.1 HXS.out.2 HSX.out.1 HSX.out.2.symm HV.out HFN.out)
              go_roundw
              case rel => exact ⟨j2 + 1, by go_num, HJK.out, HF2.out⟩
              case measure => simp [intOf]; have := HJK.out; omega
          · obtain rfl : j2 = k1 := by omega
            have HFIN := Lib.hid (HNX.out _ (IJ.done (A := A1) (na := na) (c := c1) (nc := nc) (H89.out.1 (by simp)).1 HKK.out.2.1 HKK.out.2.2.symm hNJ (Nat.le_refl _) (.inl rfl)))
            clear hNJ hjk hbi
            go_wp2_with fail
            go_roundw
            case rel => exact ⟨j + 1, by go_num, by omega, by have := HJN.out; omega, HFIN.out⟩
            case measure => simp [intOf]; have := HJN.out; omega
      · as_aux_lemma =>
        have hg2 : (str S)[j] = (76 : UInt8) := hg
        clear hg
        go_wp2_with fail
        refine (dnumber_any wr q (q + 1) 1 _ HD.out.2.2.1 (by decide)).mono ?_
        rintro e w9 ⟨hf, v, rfl, hv, hr⟩
        obtain ⟨k1, hk1, hk2, hk3⟩ := getD_small (o := oo) (n := 1) (Nat.le_refl _)
        rw [hk1] at hv
        subst hv
        have H9 := Lib.hid (HD.out.rd hf hr)
        obtain ⟨o9, ho9⟩ : ∃ o9, (oo.bind (rnum 1)).map (·.2) = o9 := ⟨_, rfl⟩
        rw [ho9] at H9
        have HKK := Lib.hid (And.intro hk2 (And.intro hk3 ho9))
        have hmm : ({ m with nodes := [] } : Msg) = m := by have := (H89.out.2 (by simp)).1; cases m; dsimp only at this; subst this; rfl
        have HI0 := Lib.hid (show NJ w q mb m A1 c1 o9 0 w9 from ⟨[], na, nc, rfl, by rw [hmm, show (o9.bind (rnodes 0)).map (·.2) = o9 from by cases o9 <;> rfl]; exact H9.out, fun x hx => by cases o9 with | none => cases hx | some l => injection hx with hx; rw [← hx]⟩)
        have h10 : (0 : Int) ≤ (k1 : Int) := by omega
        have h11 : (k1 : Int) ≤ 255 := by omega
        clear hf hr hk1 hk2 hk3 ho9 hmm
        go_wp2_with fail
        go_loopw [13] (fun i wr => ∃ j2 : Nat, i = .int .i64 (j2 : Int) ∧ j2 ≤ k1 ∧ NJ w q mb m A1 c1 o9 j2 wr) (fun i _ => k1 - (intOf i).toNat)
        case atStart => exact ⟨0, rfl, Nat.zero_le _, HI0.out⟩
        case round =>
          obtain ⟨j2, rfl, hj2, hNJ⟩ := hrel
          by_cases hjk : j2 < k1
          · have g1 : (j2 : Int) < (k1 : Int) := by omega
            have g0 : (0 : Int) ≤ (j2 : Int) := by omega
            have HNJ := Lib.hid hNJ
            obtain ⟨xs, na2, nc2, hxl, hDS, hxs⟩ := hNJ
            obtain ⟨o2, ho2⟩ : ∃ o2, (o9.bind (rnodes j2)).map (·.2) = o2 := ⟨_, rfl⟩
            rw [ho2] at hDS
            have HDS := Lib.hid hDS
            have HXL := Lib.hid hxl
            have HXS := Lib.hid (And.intro ho2 hxs)
            have HJK := Lib.hid hjk
            obtain ⟨_, A', n', d', hB', _⟩ := hDS.2.2.1
            have b1 := hB'.cell 1
            simp at b1
            clear hB' hxs hDS
            rcases o2 with _ | l
            · have HFIN := Lib.hid (HNX.out _ (NJ.done (A := A1) (na := na) (c := c1) (nc := nc) (H89.out.2 (by simp)).1 HKK.out.2.1 HKK.out.2.2.symm HNJ.out hj2 (.inr (by rw [Option.map_eq_none_iff] at ho2; exact ho2))))
              simp only [Option.isNone_none] at b1
              clear ho2 hxl
              go_wp2_with fail
              go_roundw
              case rel => exact ⟨j + 1, by go_num, by omega, by have := HJN.out; omega, HFIN.out⟩
              case measure => simp [intOf]; have := HJN.out; omega
            · have HC12 := Lib.hid (show wr.cell? ⟨mb, 12, none⟩ = some (Value.slice na2 j2 nc2) from by have := HDS.out.2.1.cell 12; simp [pv, pvk] at this; rw [HXL.out] at this; exact this)
              simp only [Option.isNone_some] at b1
              clear ho2 hxl
              go_wp2_with fail
              refine wp_region_noPanic ?_
              refine wp_heldG (fun V => V.cell? ⟨mb, 12, none⟩ = some (.slice na2 j2 nc2)) [7] (by kernel_rfl) ?hs0 ?rg0
              case hs0 =>
                exact HC12.out
              case rg0 =>
              intro hHeld
              refine wpAnyG_pure (i := 0) (oi := { dst := some 136, op := Op.fieldAddr 33 (Operand.tmp 5) 12, type := 0, pos := _, after := #[], guard := none }) (v := ?_) rfl (by kernel_rfl) (by kernel_rfl) (by kernel_rfl) (by kernel_rfl) (fun _ _ _ h => h) (Or.inl ⟨by rfl, ?_⟩) (fun _ => by assumption) ?_
              rotate_left
              · intro w hSw
                try dsimp only at hSw
                go_simp
                try with_reducible rfl
              try simp only [Act.put, List.setIfInBounds_toArray, List.set_cons_zero, List.set_cons_succ]
              refine wpAnyG_take (i := 1) (oi := { dst := some 137, op := Op.load 24 (Operand.tmp 136), type := 24, pos := _, after := #[{ on := 0, ground := Ground.data }], guard := none }) (v := ?_) rfl (by kernel_rfl) (by kernel_rfl) (by kernel_rfl) (by kernel_rfl) (fun _ _ _ h => h) (Or.inl ⟨by rfl, ?_⟩) (by assumption) ?_
              rotate_left
              · intro w hSw
                try dsimp only at hSw
                go_simp
                try with_reducible rfl
              try simp only [Act.put, List.setIfInBounds_toArray, List.set_cons_zero, List.set_cons_succ]
              refine wpAnyG_pure (i := 2) (oi := { dst := some 138, op := Op.move (Operand.tmp 4), type := 78, pos := _, after := #[], guard := none }) (v := ?_) rfl (by kernel_rfl) (by kernel_rfl) (by kernel_rfl) (by kernel_rfl) (fun _ _ _ h => h) (Or.inl ⟨by rfl, ?_⟩) (fun _ => by assumption) ?_
              rotate_left
              · intro w hSw
                try dsimp only at hSw
                go_simp
                try with_reducible rfl
              try simp only [Act.put, List.setIfInBounds_toArray, List.set_cons_zero, List.set_cons_succ]
              refine wpAnyG_one (i := 3) (o := { dst := some 139, op := Op.call { callee := Callee.value (Operand.func 38), args := #[Operand.tmp 138, Operand.const (Value.int IntKind.i64 2)], argTypes := #[78, 2] }, type := 2, pos := _, after := #[{ on := 2, ground := Ground.data }], guard := none }) (by kernel_rfl) rfl (fun K hK => ?_)
              go_simp
              refine (dnumber_any _ q (q + 1) 2 (some l) (HDS.out.2.2.1.keep (nextN (Mem.start _) 1)) (by decide)).mono ?_
              rintro e w4 ⟨hf, v, rfl, hv, hr⟩
              have H4n := Lib.hid ((HDS.out.keep (nextN (Mem.start _) 1)).rd hf hr)
              have HV := Lib.hid hv
              clear hv hr hf
              refine hK.out _ _ ?_ (fun hHeld => ?_)
              · intro _
                try dsimp only
                have := H4n.out.2.1.cell 12
                simp [pv, pvk] at this
                rw [HXL.out] at this
                exact this
              clear hK K
              try simp only [Act.put, List.setIfInBounds_toArray, List.set_cons_zero, List.set_cons_succ]
              have hHeld := hHeld (by kernel_rfl)
              refine wpAnyG_one (i := 4) (o := { dst := some 140, op := Op.buildSlice 24 1 #[(0, Operand.tmp 139)], type := 24, pos := _, after := #[{ on := 3, ground := Ground.data }], guard := none }) (by kernel_rfl) rfl (fun K hK => ?_)
              go_simp
              try dsimp only
              refine hK.out _ _ ?_ (fun hHeld => ?_)
              · intro _
                try dsimp only
                exact (Below.cell (nextA (Mem.start w4) _) (World.block_lt_of_cell? _ _ hHeld)).trans hHeld
              clear hK K
              try simp only [Act.put, List.setIfInBounds_toArray, List.set_cons_zero, List.set_cons_succ]
              have hHeld := hHeld (by kernel_rfl)
              refine wpAnyG_one (i := 5) (o := { dst := some 141, op := Op.call { callee := Callee.builtin Builtin.append, args := #[Operand.tmp 137, Operand.tmp 140], argTypes := #[24, 24] }, type := 24, pos := _, after := #[{ on := 1, ground := Ground.data }, { on := 4, ground := Ground.data }, { on := 3, ground := Ground.chain }], guard := none }) (by kernel_rfl) rfl (fun K hK => ?_)
              obtain ⟨i0, hi0, hz0, hz1, hz2⟩ := info_parts iinfo9
              have H4k := Lib.hid (H4n.out.keep (nextA (Mem.start w4) (.cells #[.int .i64 v] 3)))
              refine step_app (w4.alloc (.cells #[.int .i64 v] 3)) rfl (.tmp 137) (.tmp 140) 24 (by rfl) q 3 i0 _ 8 Tryd.underlying24 hi0 hz0 hz1 hz2 rfl na2 nc2 j2 (xs.map iv) (by rfl) (by rw [List.length_map]; exact HXL.out.symm) H4k.out.2.2.2.2.1 (w4.heap.size + 1) (some ⟨w4.heap.size, 0, none⟩) 1 1 [.int .i64 v] (by rfl) (by rfl) (cells_one w4 _ _ _ (Nat.lt_succ_self _)) (fun u hu => by simp at hu; subst hu; rfl) (by rw [List.length_map, HXL.out]; have := HKK.out.1; have := HJK.out; unfold maxLen; simp; omega) (by rw [List.length_map, HXL.out]; have := HKK.out.1; have := HJK.out; simp; omega) (Nat.le_of_lt H4k.out.1.lt) (j2 + 1) rfl ?_
              intro A3 c3 w5 ho3 hb3 hg3 hA3
              have HFN := Lib.hid (H4k.out.appN (ys := xs ++ [v]) (by rw [List.map_append]; exact ho3) (show _ = j2 + 1 by rw [List.length_append, HXL.out]; rfl) hg3)
              have HB5 := Lib.hid (H4k.out.blkN hg3)
              clear ho3 hb3 hg3 hA3 hi0 hz0 hz1 hz2
              try dsimp only
              refine hK.out _ _ ?_ (fun hHeld => ?_)
              · intro _
                try dsimp only
                have := HB5.out.cell 12
                simp [pv, pvk] at this
                rw [HXL.out] at this
                exact this
              clear hK K
              try simp only [Act.put, List.setIfInBounds_toArray, List.set_cons_zero, List.set_cons_succ]
              have hHeld := hHeld (by kernel_rfl)
              refine wpAnyG_pure (i := 6) (oi := { dst := some 142, op := Op.fieldAddr 33 (Operand.tmp 5) 12, type := 0, pos := _, after := #[{ on := 0, ground := Ground.phase }, { on := 1, ground := Ground.phase }, { on := 2, ground := Ground.phase }, { on := 3, ground := Ground.phase }, { on := 4, ground := Ground.phase }, { on := 5, ground := Ground.phase }], guard := none }) (v := ?_) rfl (by kernel_rfl) (by kernel_rfl) (by kernel_rfl) (by kernel_rfl) (fun _ _ _ h => h) (Or.inl ⟨by rfl, ?_⟩) (fun _ => by assumption) ?_
              rotate_left
              · intro w hSw
                try dsimp only at hSw
                go_simp
                try with_reducible rfl
              try simp only [Act.put, List.setIfInBounds_toArray, List.set_cons_zero, List.set_cons_succ]
              refine wpAnyG_one (i := 7) (o := { dst := none, op := Op.store 24 (Operand.tmp 142) (Operand.tmp 141), type := 0, pos := _, after := #[{ on := 6, ground := Ground.data }, { on := 5, ground := Ground.data }, { on := 5, ground := Ground.chain }, { on := 0, ground := Ground.phase }, { on := 1, ground := Ground.phase }, { on := 2, ground := Ground.phase }, { on := 3, ground := Ground.phase }, { on := 4, ground := Ground.phase }, { on := 5, ground := Ground.phase }], guard := none }) (by kernel_rfl) rfl (fun K hK => ?_)
              have z0 := HB5.out.frozen 12
              have cc0 := HB5.out.cell 12
              simp [pv, pvk] at cc0
              rw [HXL.out] at cc0
              go_simp
              try dsimp only
              clear z0 cc0
              refine hK.out _ _ ?_ (fun hHeld => ?_)
              · exact fun h => (st_no (by kernel_rfl) h).elim
              clear hK K
              try simp only [Act.put, List.setIfInBounds_toArray, List.set_cons_zero, List.set_cons_succ]
              clear hHeld
              refine wpAnyG_done (by kernel_rfl) ?_ _
              refine NoPanic.normal ?_
              have HF2 := Lib.hid (NJ.next HXL.out HXS.out.1 HXS.out.2 HV.out HFN.out)
              go_wp2_with fail
              go_roundw
              case rel => exact ⟨j2 + 1, by go_num, HJK.out, HF2.out⟩
              case measure => simp [intOf]; have := HJK.out; omega
          · obtain rfl : j2 = k1 := by omega
            have HFIN := Lib.hid (HNX.out _ (NJ.done (A := A1) (na := na) (c := c1) (nc := nc) (H89.out.2 (by simp)).1 HKK.out.2.1 HKK.out.2.2.symm hNJ (Nat.le_refl _) (.inl rfl)))
            clear hNJ hjk
            go_wp2_with fail
            go_roundw
            case rel => exact ⟨j + 1, by go_num, by omega, by have := HJN.out; omega, HFIN.out⟩
            case measure => simp [intOf]; have := HJN.out; omega
      · as_aux_lemma =>
        have hg2 : (str S)[j] = (80 : UInt8) := hg
        clear hg
        go_wp2_with fail
        refine (dtext_any wr q (q + 1) 4 _ HD.out.2.2.1 (by decide)).mono ?_
        rintro e w9 ⟨hf, v, rfl, hv, hr⟩
        have H9 := Lib.hid (HD.out.rd hf hr)
        have c9 := H9.out.2.1.cell 13
        have z9 := H9.out.2.1.frozen 13
        simp [pv, pvk] at c9
        have HV := Lib.hid hv
        clear hf hr hv
        have HFIN := Lib.hid (HNX.out _ (FR.txt (n := 4) (v := v) (fun x => { m with data := x }) (fun l => rf10 m l) HV.out ⟨rfl, rfl, rfl⟩ (H9.out.put (m' := { m with data := v }) 13 (.string (str v)) rfl rfl rfl)))
        go_wp2_with fail
        go_roundw
        case rel => exact ⟨j + 1, by go_num, by omega, by have := HJN.out; omega, HFIN.out⟩
        case measure => simp [intOf]; have := HJN.out; omega
    · have hend := hasS_end (k := k) hj1 (by rw [HSS.out, HNN.out]; exact hjn)
      rw [hend] at hI
      obtain ⟨m, A1, c1, na, nc, hD, hx, hk, _, _⟩ := hI
      obtain ⟨R, hR⟩ : ∃ R, o3.bind (rfs (flds k) m0) = R := ⟨_, rfl⟩
      have hg := HG.out
      have hsz := HSZ.out
      rw [hR] at hg hD hx hsz
      have HD := Lib.hid hD
      have HGG := Lib.hid hg
      have HKM := Lib.hid (show m.kind < 256 by rw [hk, ← HM0.out]; exact HK.out.1)
      obtain ⟨_, A', n', c', hB', hl'⟩ := hD.2.2.1
      have b0 := hB'.cell 0
      have b1 := hB'.cell 1
      simp at b0 b1
      clear hR hg hend hD hB' hk
      rcases R with _ | ⟨m', l⟩
      · as_aux_lemma =>
        simp only [Option.map_none, Option.isNone_none] at b1
        clear hl' hx hsz
        go_wp2_with ((with_reducible show wpList _ _ _ ((⟨none, .store _ _ _, _, _, _, _⟩ : Oper) :: _) _ _); refine wpList_store_mid rfl 33 (.tmp 2) (.tmp 165) rfl q 0 (pvk mz none 0 0 none 0) rfl rfl (there_p HD.out.1) pinfo (pvk_one _ _ _ _ _ _) ?_)
        have hF : Fr (fun k => k = q) wr (wr.setCells q 0 (pvk mz none 0 0 none 0).toList) := fr_setCells (S := fun k => k = q) rfl _ _ _ (Fr.refl _ wr)
        have hB := set14p HD.out.1 mz none 0 0 none 0
        obtain ⟨w5, hw5⟩ : ∃ x, wr.setCells q 0 (pvk mz none 0 0 none 0).toList = x := ⟨_, rfl⟩
        rw [hw5] at hF hB ⊢
        have HB := Lib.hid (And.intro hB hF)
        clear hF hB hw5
        refine bodyPost_ret (ret_box _ w5 q mz none 0 0 none 0 false rfl rfl HB.out.1) rfl ?_
        have hbw : Below w.heap.size w w5 := by rw [HQ.out]; exact HD.out.2.2.2.2.2.1.trans (HB.out.2.below (Nat.le_of_lt HD.out.1.lt) fun k hk => by omega)
        refine ⟨hbw, ?_⟩
        rw [HGG.out]
        rfl
      · obtain rfl := hx _ rfl
        obtain ⟨rfl, _, _, _⟩ := hl' l rfl
        simp only [Option.map_some, Option.isNone_some] at b1
        have HS := Lib.hid (hsz _ rfl)
        clear hl' hx hsz
        by_cases hl : l.length = 0
        · have hl0 : ((0 : Nat) : Int) = 0 := rfl
          rw [hl] at b0
          have HL := Lib.hid hl
          clear hl
          have HP := Lib.hid (show PIn wr wr.heap.size m A1 na by
            obtain ⟨z1, z2, z3, z4⟩ := HS.out
            dsimp only at z1 z2 z3 z4
            exact ⟨HD.out.2.2.2.1.cells, HD.out.2.2.2.2.1.cells, HKM.out, by omega, by omega, by omega, by omega, fun x hx => by have := z4 x hx; omega⟩)
          cases hm : may m with
          | false =>
            as_aux_lemma =>
            have HGG := Lib.hid (show Wi.get b = none by rw [HGG.out, Option.bind_some, hm, if_neg (by simp)])
            have HMM := Lib.hid hm
            clear hm
            go_wp2_with ((with_reducible show wpList _ _ _ ((⟨some 161, _, _, _, _, _⟩ : Oper) :: _) _ _); refine wpList_load_on (by rfl) 33 (.tmp 5) rfl (.pointer (some ⟨mb, 0, none⟩)) (.agg (pv m A1 c1 na nc)) (by rfl) (load_pv HD.out.2.1) ?_)
            refine (rmay_any wr m A1 c1 na nc HP.out).mono ?_
            rintro e w3 ⟨rfl, hb3⟩
            rw [HMM.out]
            have HD3 := Lib.hid (HD.out.keep hb3)
            clear hb3 b0 b1
            go_wp2_with ((with_reducible show wpList _ _ _ ((⟨none, .store _ _ _, _, _, _, _⟩ : Oper) :: _) _ _); refine wpList_store_mid rfl 33 (.tmp 2) (.tmp 165) rfl q 0 (pvk mz none 0 0 none 0) rfl rfl (there_p HD3.out.1) pinfo (pvk_one _ _ _ _ _ _) ?_)
            have hF : Fr (fun k => k = q) w3 (w3.setCells q 0 (pvk mz none 0 0 none 0).toList) := fr_setCells (S := fun k => k = q) rfl _ _ _ (Fr.refl _ w3)
            have hB := set14p HD3.out.1 mz none 0 0 none 0
            obtain ⟨w5, hw5⟩ : ∃ x, w3.setCells q 0 (pvk mz none 0 0 none 0).toList = x := ⟨_, rfl⟩
            rw [hw5] at hF hB ⊢
            have HB := Lib.hid (And.intro hB hF)
            clear hF hB hw5
            refine bodyPost_ret (ret_box _ w5 q mz none 0 0 none 0 false rfl rfl HB.out.1) rfl ?_
            have hbw : Below w.heap.size w w5 := by rw [HQ.out]; exact HD3.out.2.2.2.2.2.1.trans (HB.out.2.below (Nat.le_of_lt HD3.out.1.lt) fun k hk => by omega)
            refine ⟨hbw, ?_⟩
            rw [HGG.out]
            rfl
          | true =>
            as_aux_lemma =>
            have HGG := Lib.hid (show Wi.get b = some m by rw [HGG.out, Option.bind_some, if_pos ⟨HL.out, hm⟩])
            have HMM := Lib.hid hm
            clear hm
            go_wp2_with ((with_reducible show wpList _ _ _ ((⟨some 161, _, _, _, _, _⟩ : Oper) :: _) _ _); refine wpList_load_on (by rfl) 33 (.tmp 5) rfl (.pointer (some ⟨mb, 0, none⟩)) (.agg (pv m A1 c1 na nc)) (by rfl) (load_pv HD.out.2.1) ?_)
            refine (rmay_any wr m A1 c1 na nc HP.out).mono ?_
            rintro e w3 ⟨rfl, hb3⟩
            rw [HMM.out]
            have HD3 := Lib.hid (HD.out.keep hb3)
            clear hb3 b0 b1
            go_wp2_with ((with_reducible show wpList _ _ _ ((⟨some 166, _, _, _, _, _⟩ : Oper) :: _) _ _); refine wpList_load_mid rfl 33 (.tmp 5) rfl mb 0 rfl (pvk m A1 m.ids.length c1 na nc).toList _ (range_of HD3.out.2.1) Tryd.underlying33 rfl pinfo ?_; refine wpList_store_mid rfl 33 (.tmp 2) (.tmp 166) rfl q 0 (pvk m A1 m.ids.length c1 na nc) rfl rfl (there_p HD3.out.1) pinfo (pvk_one _ _ _ _ _ _) ?_)
            have hF : Fr (fun k => k = q) w3 (w3.setCells q 0 (pvk m A1 m.ids.length c1 na nc).toList) := fr_setCells (S := fun k => k = q) rfl _ _ _ (Fr.refl _ w3)
            have hB := set14p HD3.out.1 m A1 m.ids.length c1 na nc
            obtain ⟨w5, hw5⟩ : ∃ x, w3.setCells q 0 (pvk m A1 m.ids.length c1 na nc).toList = x := ⟨_, rfl⟩
            rw [hw5] at hF hB ⊢
            have HB := Lib.hid (And.intro hB hF)
            clear hF hB hw5
            refine bodyPost_ret (ret_box _ w5 q m A1 m.ids.length c1 na nc true rfl rfl HB.out.1) rfl ?_
            have hbw : Below w.heap.size w w5 := by rw [HQ.out]; exact HD3.out.2.2.2.2.2.1.trans (HB.out.2.below (Nat.le_of_lt HD3.out.1.lt) fun k hk => by omega)
            refine ⟨hbw, ?_⟩
            have hne1 : ∀ g, A1 = some ⟨g, 0, none⟩ → g ≠ q := fun g e h => by subst e; exact blk_ne_ownK HD3.out.1 HD3.out.2.2.2.1 (by decide) (by rw [h])
            have hne2 : ∀ g, na = some ⟨g, 0, none⟩ → g ≠ q := fun g e h => HD3.out.1.ne_own HD3.out.2.2.2.2.1 (by decide) g e h
            rw [HGG.out]
            refine ⟨A1, c1, na, nc, rfl, (HD3.out.2.2.2.1.fr HB.out.2 hne1).cells, (HD3.out.2.2.2.2.1.fr HB.out.2 hne2).cells, HP.out.kind, HP.out.lk, HP.out.li, HP.out.ln, HP.out.ld, HP.out.lik⟩
        · as_aux_lemma =>
          have HGG := Lib.hid (show Wi.get b = none by rw [HGG.out, Option.bind_some, if_neg (fun h => hl h.1)])
          have hl0 : 0 < l.length := by omega
          have hl1 : (0 : Int) < (l.length : Int) := by omega
          clear hl
          go_wp2_with ((with_reducible show wpList _ _ _ ((⟨none, .store _ _ _, _, _, _, _⟩ : Oper) :: _) _ _); refine wpList_store_mid rfl 33 (.tmp 2) (.tmp 165) rfl q 0 (pvk mz none 0 0 none 0) rfl rfl (there_p HD.out.1) pinfo (pvk_one _ _ _ _ _ _) ?_)
          have hF : Fr (fun k => k = q) wr (wr.setCells q 0 (pvk mz none 0 0 none 0).toList) := fr_setCells (S := fun k => k = q) rfl _ _ _ (Fr.refl _ wr)
          have hB := set14p HD.out.1 mz none 0 0 none 0
          obtain ⟨w5, hw5⟩ : ∃ x, wr.setCells q 0 (pvk mz none 0 0 none 0).toList = x := ⟨_, rfl⟩
          rw [hw5] at hF hB ⊢
          have HB := Lib.hid (And.intro hB hF)
          clear hF hB hw5
          refine bodyPost_ret (ret_box _ w5 q mz none 0 0 none 0 false rfl rfl HB.out.1) rfl ?_
          have hbw : Below w.heap.size w w5 := by rw [HQ.out]; exact HD.out.2.2.2.2.2.1.trans (HB.out.2.below (Nat.le_of_lt HD.out.1.lt) fun k hk => by omega)
          refine ⟨hbw, ?_⟩
          rw [HGG.out]
          rfl
end Go.Proofs.YtebdmfmadbikaaaDoor.WiW
