/- Inverse. -/
import Derived.Test.YthdapoipfnnaeaaMxSolve
namespace Go.Proofs.Ythdapoipfnnaeaa.MxW
open Go.RowKit Go.Shelf Mem Gf FdW Mx Rng
open PlW (In)
set_option linter.unusedVariables false

set_option maxRecDepth 100000 in
set_option maxHeartbeats 1000000 in
theorem inv_bad (w : World) (F : Value) (R C : Int) (A : Option Addr) (n cap : Nat) (h : (rightB R C n && R == C) = false) : Calls Try.prog 15 #[F, .agg #[.int .i64 R, .int .i64 C, .slice A n cap]] w (ErrM w 50) := by
  obtain ⟨wa, ga, ha, hwa, hga⟩ := boxed w #[.int .i64 R, .int .i64 C, .slice A n cap]
  obtain ⟨w1, g0, h1, hw1, hg0⟩ := boxed wa zmx
  have HWA := Lib.hid hwa
  have HW1 := Lib.hid (show wa.alloc (.cells #[.int .i64 0, .int .i64 0, .slice none 0 0] 27) = w1 from hw1)
  have hg1 : g0 = ga + 1 := by have := ha.2.2; omega
  have H1 := Lib.hid (show Below w.heap.size w w1 ∧ Blk w1 ga 27 #[.int .i64 R, .int .i64 C, .slice A n cap] ∧ Blk w1 g0 27 zmx ∧ w.heap.size ≤ g0 from ⟨next ha.1 h1.1, ha.2.1.keep h1.1, h1.2.1, by omega⟩)
  have HG := Lib.hid (And.intro hga hg1.symm)
  have fin : ∀ (W : World), Below w.heap.size w W → Blk W g0 27 zmx → w.heap.size ≤ g0 → Blk (((W.setCell ⟨g0, 0, none⟩ (.int .i64 0)).setCell ⟨g0, 1, none⟩ (.int .i64 0)).setCell ⟨g0, 2, none⟩ (.slice none 0 0)) g0 27 zmx ∧ Below w.heap.size w (((W.setCell ⟨g0, 0, none⟩ (.int .i64 0)).setCell ⟨g0, 1, none⟩ (.int .i64 0)).setCell ⟨g0, 2, none⟩ (.slice none 0 0)) := fun W hb hB hl => by
    have h3 := set3 hB (.int .i64 0) (.int .i64 0) (.slice none 0 0)
    exact ⟨h3.1, hb.trans (h3.2.below hb.size fun k e => by rw [e]; exact hl)⟩
  have FIN := Lib.hid fin
  clear ha hwa hga h1 hw1 hg0 hg1 fin
  cases hrt : rightB R C n with
  | false =>
    have HRT := Lib.hid hrt
    clear h hrt
    go_enter Try.func15, Try.ntmps15
    go_wp2_with fail
    rw [HWA.out, HW1.out, HG.out.1, HG.out.2]
    refine (right_any w1 _ _ A n cap).mono ?_
    rintro e w2 ⟨rfl, hb⟩
    rw [HRT.out]
    have H2 := Lib.hid (And.intro (next H1.out.1 hb) (H1.out.2.2.1.keep hb))
    obtain ⟨⟨d0, d1, d2⟩, f0, f1, f2⟩ := cells3 H2.out.2
    clear hb
    go_wp2_with fail
    have h3 := FIN.out w2 H2.out.1 H2.out.2 H1.out.2.2.2
    obtain ⟨w3, hw3⟩ : ∃ x : World, ((w2.setCell ⟨g0, 0, none⟩ (.int .i64 0)).setCell ⟨g0, 1, none⟩ (.int .i64 0)).setCell ⟨g0, 2, none⟩ (.slice none 0 0) = x := ⟨_, rfl⟩
    rw [hw3] at h3 ⊢
    obtain ⟨⟨e0, e1, e2⟩, _⟩ := cells3 h3.1
    exact bodyPost_ret (v := .tuple #[.agg #[.int .i64 0, .int .i64 0, .slice none 0 0], .int .i64 50]) (by simp [results, Try.results15, go_sem, e0, e1, e2]) rfl ⟨rfl, h3.2⟩
  | true =>
    have HRT := Lib.hid hrt
    have hne : (R != C) = true := by rw [hrt] at h; simpa using h
    clear h hrt
    go_enter Try.func15, Try.ntmps15
    go_wp2_with fail
    rw [HWA.out, HW1.out, HG.out.1, HG.out.2]
    refine (right_any w1 _ _ A n cap).mono ?_
    rintro e w2 ⟨rfl, hb⟩
    rw [HRT.out]
    have H2 := Lib.hid (And.intro (next H1.out.1 hb) (H1.out.2.2.1.keep hb))
    obtain ⟨⟨d0, d1, d2⟩, f0, f1, f2⟩ := cells3 H2.out.2
    obtain ⟨⟨a0, a1, a2⟩, _⟩ := cells3 (H1.out.2.1.keep hb)
    clear hb
    go_wp2_with fail
    have h3 := FIN.out w2 H2.out.1 H2.out.2 H1.out.2.2.2
    obtain ⟨w3, hw3⟩ : ∃ x : World, ((w2.setCell ⟨g0, 0, none⟩ (.int .i64 0)).setCell ⟨g0, 1, none⟩ (.int .i64 0)).setCell ⟨g0, 2, none⟩ (.slice none 0 0) = x := ⟨_, rfl⟩
    rw [hw3] at h3 ⊢
    obtain ⟨⟨e0, e1, e2⟩, _⟩ := cells3 h3.1
    exact bodyPost_ret (v := .tuple #[.agg #[.int .i64 0, .int .i64 0, .slice none 0 0], .int .i64 50]) (by simp [results, Try.results15, go_sem, e0, e1, e2]) rfl ⟨rfl, h3.2⟩
/-- Square ones. -/
theorem in_nw {B p : Nat} {w : World} {A : Option Addr} {l : List UInt8} (h : Nw B w A l) (hp : p < B) : In w p A l := ⟨h.1, fun b o e hl => by have := h.2 b o e hl; omega⟩
theorem right_sq {r : Nat} (h : r ≤ 100) : rightB r r (r * r) = true := by
  unfold rightB
  rw [decide_eq_true_iff]
  exact ⟨by omega, by omega, by omega, by omega, by simp⟩
theorem nw_fr {B g : Nat} {w w' : World} {A : Option Addr} {l : List UInt8} (h : Nw B w A l) (hf : Fr (fun k => k = g) w w') (hg : g < B) : Nw B w' A l := ⟨fun hl => by
  obtain ⟨b, off, e, hb, hc⟩ := h.1 hl
  have h1 := h.2 b off e (by rwa [List.length_map] at hl)
  exact ⟨b, off, e, Nat.lt_of_lt_of_le hb hf.size, fun j v hv => (World.cell?_of_block (hf.block b hb (by omega))).trans (hc j v hv)⟩, h.2⟩
set_option maxRecDepth 100000 in
set_option maxHeartbeats 2000000 in
theorem inv_ok (w : World) (p : Nat) (hp : Fld w p) (r : Nat) (A : Option Addr) (n cap : Nat) (a : M) (hrt : rightB r r n = true) (hr : r ≤ 100) (hA : In w p A (flat r r a)) (hz : solves r r r a idm = true) :
    Calls Try.prog 15 #[fptr (some p), .agg #[.int .i64 (r : Int), .int .i64 (r : Int), .slice A n cap]] w (NewF w p r r (redTo r a idm r).B) := by
  obtain ⟨wa, ga, ha, hwa, hga⟩ := boxed w (mcells r r A n cap)
  obtain ⟨w1, g0, h1, hw1, hg0⟩ := boxed wa zmx
  have HWA := Lib.hid (show w.alloc (.cells #[.int .i64 (r : Int), .int .i64 (r : Int), .slice A n cap] 27) = wa from hwa)
  have HW1 := Lib.hid (show wa.alloc (.cells #[.int .i64 0, .int .i64 0, .slice none 0 0] 27) = w1 from hw1)
  have hg1 : g0 = ga + 1 := by have := ha.2.2; omega
  have H1 := Lib.hid (show Below w.heap.size w w1 ∧ Blk w1 ga 27 (mcells r r A n cap) ∧ Blk w1 g0 27 zmx ∧ w.heap.size = ga ∧ g0 = ga + 1 from ⟨next ha.1 h1.1, ha.2.1.keep h1.1, h1.2.1, hga, hg1⟩)
  have HG := Lib.hid (And.intro hga hg1.symm)
  have HRT := Lib.hid hrt
  have HP := Lib.hid hp
  have HR := Lib.hid hr
  have HI := Lib.hid hA
  have HZ := Lib.hid hz
  have hr4 : ¬ (4096 : Int) < (r : Int) := by omega
  clear ha hwa hga h1 hw1 hg0 hg1 hrt hp hr hA hz
  go_enter Try.func15, Try.ntmps15
  go_wp2_with fail
  rw [HWA.out, HW1.out, HG.out.1, HG.out.2]
  refine (right_any w1 _ _ A n cap).mono ?_
  rintro e w2 ⟨rfl, hb⟩
  rw [HRT.out]
  have H2 := Lib.hid (And.intro (next H1.out.1 hb) (And.intro (H1.out.2.1.keep hb) (H1.out.2.2.1.keep hb)))
  obtain ⟨⟨a0, a1, a2⟩, _⟩ := cells3 H2.out.2.1
  clear hb
  go_wp2_with fail
  clear a0 a1 a2
  --HELD inv_ok3
  refine wp_region_noPanic ?_
  refine wp_heldG (fun w' => Blk w' ga 27 (mcells r r A n cap)) [8] (by kernel_rfl) ?hs0 ?rg0
  case hs0 =>
    exact H2.out.2.1
  case rg0 =>
  intro hHeld
  refine wpAnyG_pure (i := 0) (oi := { dst := some 22, op := Op.move (Operand.tmp 0), type := 24, pos := _, after := #[], guard := none }) (v := ?_) rfl (by kernel_rfl) (by kernel_rfl) (by kernel_rfl) (by kernel_rfl) (fun _ _ _ h => h) (Or.inl ⟨by rfl, ?_⟩) (fun _ => by assumption) ?_
  rotate_left
  · intro w hSw
    try dsimp only at hSw
    go_simp
    try with_reducible rfl
  try simp only [Act.put, List.setIfInBounds_toArray, List.set_cons_zero, List.set_cons_succ]
  refine wpAnyG_take (i := 1) (oi := { dst := some 23, op := Op.load 27 (Operand.tmp 3), type := 27, pos := _, after := #[], guard := none }) (v := ?_) rfl (by kernel_rfl) (by kernel_rfl) (by kernel_rfl) (by kernel_rfl) (fun _ _ _ h => h) (Or.inl ⟨by rfl, ?_⟩) (by assumption) ?_
  rotate_left
  · intro w hSw
    try dsimp only at hSw
    obtain ⟨⟨c0, c1, c2⟩, _⟩ := cells3 hSw
    go_simp
    try with_reducible rfl
  try simp only [Act.put, List.setIfInBounds_toArray, List.set_cons_zero, List.set_cons_succ]
  refine wpAnyG_pure (i := 2) (oi := { dst := some 24, op := Op.fieldAddr 27 (Operand.tmp 3) 0, type := 0, pos := _, after := #[], guard := none }) (v := ?_) rfl (by kernel_rfl) (by kernel_rfl) (by kernel_rfl) (by kernel_rfl) (fun _ _ _ h => h) (Or.inl ⟨by rfl, ?_⟩) (fun _ => by assumption) ?_
  rotate_left
  · intro w hSw
    try dsimp only at hSw
    go_simp
    try with_reducible rfl
  try simp only [Act.put, List.setIfInBounds_toArray, List.set_cons_zero, List.set_cons_succ]
  refine wpAnyG_take (i := 3) (oi := { dst := some 25, op := Op.load 3 (Operand.tmp 24), type := 3, pos := _, after := #[{ on := 2, ground := Ground.data }], guard := none }) (v := ?_) rfl (by kernel_rfl) (by kernel_rfl) (by kernel_rfl) (by kernel_rfl) (fun _ _ _ h => h) (Or.inl ⟨by rfl, ?_⟩) (by assumption) ?_
  rotate_left
  · intro w hSw
    try dsimp only at hSw
    obtain ⟨⟨c0, c1, c2⟩, _⟩ := cells3 hSw
    go_simp
    try with_reducible rfl
  try simp only [Act.put, List.setIfInBounds_toArray, List.set_cons_zero, List.set_cons_succ]
  refine wpAnyG_one (i := 4) (o := { dst := some 26, op := Op.call { callee := Callee.value (Operand.func 27), args := #[Operand.tmp 25], argTypes := #[3] }, type := 27, pos := _, after := #[{ on := 3, ground := Ground.data }], guard := none }) (by kernel_rfl) rfl (fun K hK => ?_)
  go_simp
  refine (one_in _ r (by have := HR.out; omega)).mono ?_
  rintro e w3 ⟨X, cx, rfl, hle, hnw, hb⟩
  have hb3 := next H2.out.1 (next (nextN (Mem.start w2) 1) hb)
  have H3 := Lib.hid (And.intro hb3 hnw)
  have H3S := Lib.hid (show w.heap.size + 2 ≤ w3.heap.size from by have h1 := hb.size; have h2 := H2.out.2.2.lt; have h3 := H1.out.2.2.2; have h4 : w2.heap.size ≤ w3.heap.size := h1; omega)
  have H3G := Lib.hid (H2.out.2.2.keep (next (nextN (Mem.start w2) 1) hb))
  have HLE := Lib.hid (show w2.heap.size ≤ w3.heap.size from hb.size)
  clear hnw hle hb3
  try dsimp only
  refine hK.out _ _ ?_ (fun hHeld => ?_)
  · intro _
    try dsimp only
    exact hHeld.keep hb
  clear hK K
  try simp only [Act.put, List.setIfInBounds_toArray, List.set_cons_zero, List.set_cons_succ]
  have hHeld := hHeld (by kernel_rfl)
  refine wpAnyG_one (i := 5) (o := { dst := some 27, op := Op.call { callee := Callee.value (Operand.func 21), args := #[Operand.tmp 22, Operand.tmp 23, Operand.tmp 26], argTypes := #[24, 27, 27] }, type := 32, pos := _, after := #[{ on := 0, ground := Ground.data }, { on := 1, ground := Ground.data }, { on := 4, ground := Ground.data }, { on := 4, ground := Ground.chain }], guard := none }) (by kernel_rfl) rfl (fun K hK => ?_)
  clear hb
  go_simp
  have hin := in_nw (p := p) H3.out.2 (show p < w2.heap.size from by have := HP.out.lt; have := H2.out.1.size; omega)
  refine (solve_ok w3 p (HP.out.keep H3.out.1) r r r A X n cap (r * r) cx a idm HRT.out (right_sq HR.out) ⟨HR.out, HR.out, HR.out⟩ (HI.out.keep H3.out.1) hin HZ.out).mono ?_
  rintro e w4 ⟨Y, cy, rfl, hle, hnw, hF, hf⟩
  have H4L := Lib.hid (And.intro hle hnw)
  clear hle hnw
  have H4 := Lib.hid (And.intro hF (And.intro ((Fr.quiet (S := fun k => k = p) H3.out.1).trans hf fun _ _ h => h) (H3G.out.fr hf (by have := HP.out.lt; have := H1.out.2.2.2; omega))))
  clear hin hF
  try dsimp only
  refine hK.out _ _ ?_ (fun hHeld => ?_)
  · intro _
    try dsimp only
    exact hHeld.fr hf (by have := HP.out.lt; have := H1.out.2.2.2; omega)
  clear hK K
  try simp only [Act.put, List.setIfInBounds_toArray, List.set_cons_zero, List.set_cons_succ]
  have hHeld := hHeld (by kernel_rfl)
  refine wpAnyG_pure (i := 6) (oi := { dst := some 28, op := Op.extract (Operand.tmp 27) 0, type := 27, pos := _, after := #[{ on := 5, ground := Ground.data }], guard := none }) (v := ?_) rfl (by kernel_rfl) (by kernel_rfl) (by kernel_rfl) (by kernel_rfl) (fun _ _ _ h => h) (Or.inl ⟨by rfl, ?_⟩) (fun _ => by assumption) ?_
  rotate_left
  · intro w hSw
    try dsimp only at hSw
    go_simp
    try with_reducible rfl
  try simp only [Act.put, List.setIfInBounds_toArray, List.set_cons_zero, List.set_cons_succ]
  refine wpAnyG_pure (i := 7) (oi := { dst := some 29, op := Op.extract (Operand.tmp 27) 1, type := 29, pos := _, after := #[{ on := 5, ground := Ground.data }], guard := none }) (v := ?_) rfl (by kernel_rfl) (by kernel_rfl) (by kernel_rfl) (by kernel_rfl) (fun _ _ _ h => h) (Or.inl ⟨by rfl, ?_⟩) (fun _ => by assumption) ?_
  rotate_left
  · intro w hSw
    try dsimp only at hSw
    go_simp
    try with_reducible rfl
  try simp only [Act.put, List.setIfInBounds_toArray, List.set_cons_zero, List.set_cons_succ]
  refine wpAnyG_one (i := 8) (o := { dst := none, op := Op.store 27 (Operand.tmp 4) (Operand.tmp 28), type := 0, pos := _, after := #[{ on := 6, ground := Ground.data }, { on := 5, ground := Ground.chain }, { on := 0, ground := Ground.phase }, { on := 1, ground := Ground.phase }, { on := 2, ground := Ground.phase }, { on := 3, ground := Ground.phase }, { on := 4, ground := Ground.phase }, { on := 5, ground := Ground.phase }, { on := 6, ground := Ground.phase }, { on := 7, ground := Ground.phase }], guard := none }) (by kernel_rfl) rfl (fun K hK => ?_)
  obtain ⟨⟨d0, d1, d2⟩, f0, f1, f2⟩ := cells3 H4.out.2.2
  go_simp
  try dsimp only
  refine hK.out _ _ ?_ (fun hHeld => ?_)
  · exact fun h => (st_no (by kernel_rfl) h).elim
  clear hK K
  try simp only [Act.put, List.setIfInBounds_toArray, List.set_cons_zero, List.set_cons_succ]
  clear hHeld
  refine wpAnyG_pure (i := 9) (oi := { dst := some 5, op := Op.assign (Operand.tmp 29), type := 29, pos := _, after := #[{ on := 7, ground := Ground.data }, { on := 8, ground := Ground.chain }, { on := 0, ground := Ground.phase }, { on := 1, ground := Ground.phase }, { on := 2, ground := Ground.phase }, { on := 3, ground := Ground.phase }, { on := 4, ground := Ground.phase }, { on := 5, ground := Ground.phase }, { on := 6, ground := Ground.phase }, { on := 7, ground := Ground.phase }, { on := 8, ground := Ground.phase }], guard := none }) (v := ?_) rfl (by kernel_rfl) (by kernel_rfl) (by kernel_rfl) (by kernel_rfl) (fun _ _ _ h => h) (Or.inl ⟨by rfl, ?_⟩) (fun h => (st_no (by kernel_rfl) h).elim) ?_
  rotate_left
  · intro w hSw
    try dsimp only at hSw
    go_simp
    try with_reducible rfl
  try simp only [Act.put, List.setIfInBounds_toArray, List.set_cons_zero, List.set_cons_succ]
  refine wpAnyG_done (by kernel_rfl) ?_ _
  refine NoPanic.normal ?_
  --END inv_ok3
  have h5 := set3 H4.out.2.2 (.int .i64 (r : Int)) (.int .i64 (r : Int)) (.slice Y (r * r) cy)
  obtain ⟨w5, hw5⟩ : ∃ x : World, ((w4.setCell ⟨g0, 0, none⟩ (.int .i64 (r : Int))).setCell ⟨g0, 1, none⟩ (.int .i64 (r : Int))).setCell ⟨g0, 2, none⟩ (.slice Y (r * r) cy) = x := ⟨_, rfl⟩
  rw [hw5] at h5 ⊢
  obtain ⟨⟨e0, e1, e2⟩, _⟩ := cells3 h5.1
  have H5 := Lib.hid h5.2
  clear h5 hw5
  go_wp2_with fail
  refine bodyPost_ret (v := .tuple #[.agg #[.int .i64 (r : Int), .int .i64 (r : Int), .slice Y (r * r) cy], .int .i64 0]) (by simp [results, Try.results15, go_sem, e0, e1, e2]) rfl ?_
  have hg := H1.out.2.2.2
  have hpl := HP.out.lt
  refine ⟨Y, cy, rfl, H4L.out.1, ⟨?_, fun b o e hl => ?_⟩, H4.out.1.fr H5.out (by omega), H4.out.2.1.trans H5.out fun k hk e => by omega⟩
  · exact (nw_fr H4L.out.2 H5.out (by have := H2.out.1.size; have := H3S.out; omega)).1
  · have h1 := H4L.out.2.2 b o e hl
    have h2 := H3S.out
    omega
set_option maxRecDepth 100000 in
set_option maxHeartbeats 2000000 in
theorem inv_no (w : World) (p : Nat) (hp : Fld w p) (r : Nat) (A : Option Addr) (n cap : Nat) (a : M) (hrt : rightB r r n = true) (hr : r ≤ 100) (hA : In w p A (flat r r a)) (hz : solves r r r a idm = false) :
    Calls Try.prog 15 #[fptr (some p), .agg #[.int .i64 (r : Int), .int .i64 (r : Int), .slice A n cap]] w (ErrF w p 51) := by
  obtain ⟨wa, ga, ha, hwa, hga⟩ := boxed w (mcells r r A n cap)
  obtain ⟨w1, g0, h1, hw1, hg0⟩ := boxed wa zmx
  have HWA := Lib.hid (show w.alloc (.cells #[.int .i64 (r : Int), .int .i64 (r : Int), .slice A n cap] 27) = wa from hwa)
  have HW1 := Lib.hid (show wa.alloc (.cells #[.int .i64 0, .int .i64 0, .slice none 0 0] 27) = w1 from hw1)
  have hg1 : g0 = ga + 1 := by have := ha.2.2; omega
  have H1 := Lib.hid (show Below w.heap.size w w1 ∧ Blk w1 ga 27 (mcells r r A n cap) ∧ Blk w1 g0 27 zmx ∧ w.heap.size = ga ∧ g0 = ga + 1 from ⟨next ha.1 h1.1, ha.2.1.keep h1.1, h1.2.1, hga, hg1⟩)
  have HG := Lib.hid (And.intro hga hg1.symm)
  have HRT := Lib.hid hrt
  have HP := Lib.hid hp
  have HR := Lib.hid hr
  have HI := Lib.hid hA
  have HZ := Lib.hid hz
  have hr4 : ¬ (4096 : Int) < (r : Int) := by omega
  clear ha hwa hga h1 hw1 hg0 hg1 hrt hp hr hA hz
  go_enter Try.func15, Try.ntmps15
  go_wp2_with fail
  rw [HWA.out, HW1.out, HG.out.1, HG.out.2]
  refine (right_any w1 _ _ A n cap).mono ?_
  rintro e w2 ⟨rfl, hb⟩
  rw [HRT.out]
  have H2 := Lib.hid (And.intro (next H1.out.1 hb) (And.intro (H1.out.2.1.keep hb) (H1.out.2.2.1.keep hb)))
  obtain ⟨⟨a0, a1, a2⟩, _⟩ := cells3 H2.out.2.1
  clear hb
  go_wp2_with fail
  clear a0 a1 a2
  --HELD inv_no3
  refine wp_region_noPanic ?_
  refine wp_heldG (fun w' => Blk w' ga 27 (mcells r r A n cap)) [8] (by kernel_rfl) ?hs0 ?rg0
  case hs0 =>
    exact H2.out.2.1
  case rg0 =>
  intro hHeld
  refine wpAnyG_pure (i := 0) (oi := { dst := some 22, op := Op.move (Operand.tmp 0), type := 24, pos := _, after := #[], guard := none }) (v := ?_) rfl (by kernel_rfl) (by kernel_rfl) (by kernel_rfl) (by kernel_rfl) (fun _ _ _ h => h) (Or.inl ⟨by rfl, ?_⟩) (fun _ => by assumption) ?_
  rotate_left
  · intro w hSw
    try dsimp only at hSw
    go_simp
    try with_reducible rfl
  try simp only [Act.put, List.setIfInBounds_toArray, List.set_cons_zero, List.set_cons_succ]
  refine wpAnyG_take (i := 1) (oi := { dst := some 23, op := Op.load 27 (Operand.tmp 3), type := 27, pos := _, after := #[], guard := none }) (v := ?_) rfl (by kernel_rfl) (by kernel_rfl) (by kernel_rfl) (by kernel_rfl) (fun _ _ _ h => h) (Or.inl ⟨by rfl, ?_⟩) (by assumption) ?_
  rotate_left
  · intro w hSw
    try dsimp only at hSw
    obtain ⟨⟨c0, c1, c2⟩, _⟩ := cells3 hSw
    go_simp
    try with_reducible rfl
  try simp only [Act.put, List.setIfInBounds_toArray, List.set_cons_zero, List.set_cons_succ]
  refine wpAnyG_pure (i := 2) (oi := { dst := some 24, op := Op.fieldAddr 27 (Operand.tmp 3) 0, type := 0, pos := _, after := #[], guard := none }) (v := ?_) rfl (by kernel_rfl) (by kernel_rfl) (by kernel_rfl) (by kernel_rfl) (fun _ _ _ h => h) (Or.inl ⟨by rfl, ?_⟩) (fun _ => by assumption) ?_
  rotate_left
  · intro w hSw
    try dsimp only at hSw
    go_simp
    try with_reducible rfl
  try simp only [Act.put, List.setIfInBounds_toArray, List.set_cons_zero, List.set_cons_succ]
  refine wpAnyG_take (i := 3) (oi := { dst := some 25, op := Op.load 3 (Operand.tmp 24), type := 3, pos := _, after := #[{ on := 2, ground := Ground.data }], guard := none }) (v := ?_) rfl (by kernel_rfl) (by kernel_rfl) (by kernel_rfl) (by kernel_rfl) (fun _ _ _ h => h) (Or.inl ⟨by rfl, ?_⟩) (by assumption) ?_
  rotate_left
  · intro w hSw
    try dsimp only at hSw
    obtain ⟨⟨c0, c1, c2⟩, _⟩ := cells3 hSw
    go_simp
    try with_reducible rfl
  try simp only [Act.put, List.setIfInBounds_toArray, List.set_cons_zero, List.set_cons_succ]
  refine wpAnyG_one (i := 4) (o := { dst := some 26, op := Op.call { callee := Callee.value (Operand.func 27), args := #[Operand.tmp 25], argTypes := #[3] }, type := 27, pos := _, after := #[{ on := 3, ground := Ground.data }], guard := none }) (by kernel_rfl) rfl (fun K hK => ?_)
  go_simp
  refine (one_in _ r (by have := HR.out; omega)).mono ?_
  rintro e w3 ⟨X, cx, rfl, hle, hnw, hb⟩
  have hb3 := next H2.out.1 (next (nextN (Mem.start w2) 1) hb)
  have H3 := Lib.hid (And.intro hb3 hnw)
  have H3S := Lib.hid (show w.heap.size + 2 ≤ w3.heap.size from by have h1 := hb.size; have h2 := H2.out.2.2.lt; have h3 := H1.out.2.2.2; have h4 : w2.heap.size ≤ w3.heap.size := h1; omega)
  have H3G := Lib.hid (H2.out.2.2.keep (next (nextN (Mem.start w2) 1) hb))
  have HLE := Lib.hid (show w2.heap.size ≤ w3.heap.size from hb.size)
  clear hnw hle hb3
  try dsimp only
  refine hK.out _ _ ?_ (fun hHeld => ?_)
  · intro _
    try dsimp only
    exact hHeld.keep hb
  clear hK K
  try simp only [Act.put, List.setIfInBounds_toArray, List.set_cons_zero, List.set_cons_succ]
  have hHeld := hHeld (by kernel_rfl)
  refine wpAnyG_one (i := 5) (o := { dst := some 27, op := Op.call { callee := Callee.value (Operand.func 21), args := #[Operand.tmp 22, Operand.tmp 23, Operand.tmp 26], argTypes := #[24, 27, 27] }, type := 32, pos := _, after := #[{ on := 0, ground := Ground.data }, { on := 1, ground := Ground.data }, { on := 4, ground := Ground.data }, { on := 4, ground := Ground.chain }], guard := none }) (by kernel_rfl) rfl (fun K hK => ?_)
  clear hb
  go_simp
  have hin := in_nw (p := p) H3.out.2 (show p < w2.heap.size from by have := HP.out.lt; have := H2.out.1.size; omega)
  refine (solve_no w3 p (HP.out.keep H3.out.1) r r r A X n cap (r * r) cx a idm HRT.out (right_sq HR.out) ⟨HR.out, HR.out, HR.out⟩ (HI.out.keep H3.out.1) hin HZ.out).mono ?_
  rintro e w4 ⟨rfl, hF, hf⟩
  have H4 := Lib.hid (And.intro hF (And.intro ((Fr.quiet (S := fun k => k = p) H3.out.1).trans hf fun _ _ h => h) (H3G.out.fr hf (by have := HP.out.lt; have := H1.out.2.2.2; omega))))
  clear hin hF
  try dsimp only
  refine hK.out _ _ ?_ (fun hHeld => ?_)
  · intro _
    try dsimp only
    exact hHeld.fr hf (by have := HP.out.lt; have := H1.out.2.2.2; omega)
  clear hK K
  try simp only [Act.put, List.setIfInBounds_toArray, List.set_cons_zero, List.set_cons_succ]
  have hHeld := hHeld (by kernel_rfl)
  refine wpAnyG_pure (i := 6) (oi := { dst := some 28, op := Op.extract (Operand.tmp 27) 0, type := 27, pos := _, after := #[{ on := 5, ground := Ground.data }], guard := none }) (v := ?_) rfl (by kernel_rfl) (by kernel_rfl) (by kernel_rfl) (by kernel_rfl) (fun _ _ _ h => h) (Or.inl ⟨by rfl, ?_⟩) (fun _ => by assumption) ?_
  rotate_left
  · intro w hSw
    try dsimp only at hSw
    go_simp
    try with_reducible rfl
  try simp only [Act.put, List.setIfInBounds_toArray, List.set_cons_zero, List.set_cons_succ]
  refine wpAnyG_pure (i := 7) (oi := { dst := some 29, op := Op.extract (Operand.tmp 27) 1, type := 29, pos := _, after := #[{ on := 5, ground := Ground.data }], guard := none }) (v := ?_) rfl (by kernel_rfl) (by kernel_rfl) (by kernel_rfl) (by kernel_rfl) (fun _ _ _ h => h) (Or.inl ⟨by rfl, ?_⟩) (fun _ => by assumption) ?_
  rotate_left
  · intro w hSw
    try dsimp only at hSw
    go_simp
    try with_reducible rfl
  try simp only [Act.put, List.setIfInBounds_toArray, List.set_cons_zero, List.set_cons_succ]
  refine wpAnyG_one (i := 8) (o := { dst := none, op := Op.store 27 (Operand.tmp 4) (Operand.tmp 28), type := 0, pos := _, after := #[{ on := 6, ground := Ground.data }, { on := 5, ground := Ground.chain }, { on := 0, ground := Ground.phase }, { on := 1, ground := Ground.phase }, { on := 2, ground := Ground.phase }, { on := 3, ground := Ground.phase }, { on := 4, ground := Ground.phase }, { on := 5, ground := Ground.phase }, { on := 6, ground := Ground.phase }, { on := 7, ground := Ground.phase }], guard := none }) (by kernel_rfl) rfl (fun K hK => ?_)
  obtain ⟨⟨d0, d1, d2⟩, f0, f1, f2⟩ := cells3 H4.out.2.2
  go_simp
  try dsimp only
  refine hK.out _ _ ?_ (fun hHeld => ?_)
  · exact fun h => (st_no (by kernel_rfl) h).elim
  clear hK K
  try simp only [Act.put, List.setIfInBounds_toArray, List.set_cons_zero, List.set_cons_succ]
  clear hHeld
  refine wpAnyG_pure (i := 9) (oi := { dst := some 5, op := Op.assign (Operand.tmp 29), type := 29, pos := _, after := #[{ on := 7, ground := Ground.data }, { on := 8, ground := Ground.chain }, { on := 0, ground := Ground.phase }, { on := 1, ground := Ground.phase }, { on := 2, ground := Ground.phase }, { on := 3, ground := Ground.phase }, { on := 4, ground := Ground.phase }, { on := 5, ground := Ground.phase }, { on := 6, ground := Ground.phase }, { on := 7, ground := Ground.phase }, { on := 8, ground := Ground.phase }], guard := none }) (v := ?_) rfl (by kernel_rfl) (by kernel_rfl) (by kernel_rfl) (by kernel_rfl) (fun _ _ _ h => h) (Or.inl ⟨by rfl, ?_⟩) (fun h => (st_no (by kernel_rfl) h).elim) ?_
  rotate_left
  · intro w hSw
    try dsimp only at hSw
    go_simp
    try with_reducible rfl
  try simp only [Act.put, List.setIfInBounds_toArray, List.set_cons_zero, List.set_cons_succ]
  refine wpAnyG_done (by kernel_rfl) ?_ _
  refine NoPanic.normal ?_
  --END inv_no3
  have h5 := set3 H4.out.2.2 (.int .i64 0) (.int .i64 0) (.slice none 0 0)
  obtain ⟨w5, hw5⟩ : ∃ x : World, ((w4.setCell ⟨g0, 0, none⟩ (.int .i64 0)).setCell ⟨g0, 1, none⟩ (.int .i64 0)).setCell ⟨g0, 2, none⟩ (.slice none 0 0) = x := ⟨_, rfl⟩
  rw [hw5] at h5 ⊢
  obtain ⟨⟨e0, e1, e2⟩, _⟩ := cells3 h5.1
  have H5 := Lib.hid h5.2
  clear h5 hw5
  go_wp2_with fail
  refine bodyPost_ret (v := .tuple #[.agg #[.int .i64 0, .int .i64 0, .slice none 0 0], .int .i64 51]) (by simp [results, Try.results15, go_sem, e0, e1, e2]) rfl ?_
  have hg := H1.out.2.2.2
  have hpl := HP.out.lt
  exact ⟨rfl, H4.out.1.fr H5.out (by omega), H4.out.2.1.trans H5.out fun k hk e => by omega⟩
end Go.Proofs.Ythdapoipfnnaeaa.MxW
