/- Texts of a claim, one behind another. -/
import Derived.Test.YthdapoipfnnaeaaQLawMatrixMakes3
import Derived.Test.YthdapoipfnnaeaaAppz
/- Solve. -/
namespace Go.Proofs.Ythdapoipfnnaeaa.MxW
open Go.RowKit Go.Shelf Mem Gf FdW Mx Rng
open PlW (In)
set_option linter.unusedVariables false

/-- Behind the parameters. -/
structure SolP (w W : World) (ga gb g0 : Nat) (ca cb : Array Value) : Prop where
  below : Below w.heap.size w W
  a : Blk W ga 27 ca
  b : Blk W gb 27 cb
  res : Blk W g0 27 zmx
  nums : w.heap.size = ga ∧ gb = ga + 1 ∧ g0 = ga + 2 ∧ ga + 3 ≤ W.heap.size
theorem SolP.keep {w W W' : World} {ga gb g0 : Nat} {ca cb : Array Value} (h : SolP w W ga gb g0 ca cb) (hb : Below W.heap.size W W') : SolP w W' ga gb g0 ca cb :=
  ⟨next h.below hb, h.a.keep hb, h.b.keep hb, h.res.keep hb, by have := h.nums; have := hb.size; omega⟩
theorem solP_start (w : World) (ca cb : Array Value) : ∃ w1, SolP w w1 w.heap.size (w.heap.size + 1) (w.heap.size + 1 + 1) ca cb ∧
    ((w.alloc (.cells ca 27)).alloc (.cells cb 27)).alloc (.cells zmx 27) = w1 := by
  obtain ⟨x2, g2, h2, e2, n2⟩ := boxed w ca
  obtain ⟨x3, g3, h3, e3, n3⟩ := boxed x2 cb
  obtain ⟨x4, g4, h4, e4, n4⟩ := boxed x3 zmx
  refine ⟨x4, ?_, by rw [e2, e3, e4]⟩
  have k2 := h2.2.2; have k3 := h3.2.2; have k4 := h4.2.2
  rw [n2]
  obtain rfl : g3 = g2 + 1 := by omega
  obtain rfl : g4 = g2 + 1 + 1 := by omega
  exact ⟨next (next h2.1 h3.1) h4.1, (h2.2.1.keep h3.1).keep h4.1, h3.2.1.keep h4.1, h4.2.1, by omega⟩
/-- Refused, when the field may have been made. -/
def ErrF (w : World) (p : Nat) (code : Int) (e : Ending) (w' : World) : Prop := e = .returned (.tuple #[.agg #[.int .i64 0, .int .i64 0, .slice none 0 0], .int .i64 code]) ∧ Fld w' p ∧ Fr (fun k => k = p) w w'
theorem solve_apart {w : World} {p B gx : Nat} {XA X : Option Addr} (hp : p < w.heap.size) (hB : w.heap.size ≤ B) (hX : ∀ k, Bk X k → B ≤ k ∧ k < gx) (hA : ∀ k, Bk XA k → gx < k) (hBx : B ≤ gx) :
    (∀ k, Bk XA k → k ≠ p ∧ ¬ Bk X k) ∧ (∀ k, Bk X k → k ≠ p) ∧ ∀ k, RS' XA X p k → k = p ∨ (B ≤ k ∧ k ≠ gx) := by
  refine ⟨fun k h => ⟨by have := hA k h; omega, fun h2 => by have := hA k h; have := hX k h2; omega⟩, fun k h => by have := hX k h; omega, fun k hs => ?_⟩
  rcases hs with h | h | h
  · have := hA k h; omega
  · have := hX k h; omega
  · exact .inl h
set_option maxRecDepth 100000 in
set_option maxHeartbeats 8000000 in
theorem solve_bad1 (w : World) (F : Value) (R C R' C' : Int) (A A' : Option Addr) (n cap n' cap' : Nat) (hrt : rightB R C n = false) :
    Calls Try.prog 21 #[F, .agg #[.int .i64 R, .int .i64 C, .slice A n cap], .agg #[.int .i64 R', .int .i64 C', .slice A' n' cap']] w (ErrM w 50) := by
  obtain ⟨w1, h1, hw1⟩ := solP_start w #[.int .i64 R, .int .i64 C, .slice A n cap] #[.int .i64 R', .int .i64 C', .slice A' n' cap']
  obtain ⟨ga, hga⟩ : ∃ x, w.heap.size = x := ⟨_, rfl⟩
  rw [hga] at h1
  have HW1 := Lib.hid (show ((w.alloc (.cells #[.int .i64 R, .int .i64 C, .slice A n cap] 27)).alloc (.cells #[.int .i64 R', .int .i64 C', .slice A' n' cap'] 27)).alloc (.cells #[.int .i64 0, .int .i64 0, .slice none 0 0] 27) = w1 from hw1)
  have H1 := Lib.hid h1
  have HG := Lib.hid hga
  have HRT := Lib.hid hrt
  clear h1 hw1 hga hrt
  go_enter Try.func21, Try.ntmps21
  go_wp2_with fail
  rw [HW1.out, HG.out]
  refine (right_any w1 _ _ A n cap).mono ?_
  rintro e wA ⟨rfl, hb⟩
  rw [HRT.out]
  have HA := Lib.hid hb
  clear hb
  have hres := (show SolP w wA ga (ga + 1) (ga + 1 + 1) _ _ from H1.out.keep HA.out).res
  obtain ⟨⟨d0, d1, d2⟩, f0, f1, f2⟩ := cells3 hres
  go_wp2_with fail
  have h3 := set3 hres (.int .i64 0) (.int .i64 0) (.slice none 0 0)
  obtain ⟨w30, hw30⟩ : ∃ x : World, ((wA.setCell ⟨ga + 1 + 1, 0, none⟩ (.int .i64 0)).setCell ⟨ga + 1 + 1, 1, none⟩ (.int .i64 0)).setCell ⟨ga + 1 + 1, 2, none⟩ (.slice none 0 0) = x := ⟨_, rfl⟩
  rw [hw30] at h3 ⊢
  obtain ⟨⟨e0, e1, e2⟩, _⟩ := cells3 h3.1
  refine bodyPost_ret (v := .tuple #[.agg #[.int .i64 0, .int .i64 0, .slice none 0 0], .int .i64 50]) (by simp [results, Try.results21, go_sem, e0, e1, e2]) rfl ?_
  have hb := (H1.out.keep HA.out).below
  have hn := H1.out.nums
  exact ⟨rfl, hb.trans (h3.2.below hb.size fun k e => by rw [e]; omega)⟩
set_option maxRecDepth 100000 in
set_option maxHeartbeats 8000000 in
theorem solve_bad2 (w : World) (F : Value) (R C R' C' : Int) (A A' : Option Addr) (n cap n' cap' : Nat) (hrt : rightB R C n = true) (hrt2 : rightB R' C' n' = false) :
    Calls Try.prog 21 #[F, .agg #[.int .i64 R, .int .i64 C, .slice A n cap], .agg #[.int .i64 R', .int .i64 C', .slice A' n' cap']] w (ErrM w 50) := by
  obtain ⟨w1, h1, hw1⟩ := solP_start w #[.int .i64 R, .int .i64 C, .slice A n cap] #[.int .i64 R', .int .i64 C', .slice A' n' cap']
  obtain ⟨ga, hga⟩ : ∃ x, w.heap.size = x := ⟨_, rfl⟩
  rw [hga] at h1
  have HW1 := Lib.hid (show ((w.alloc (.cells #[.int .i64 R, .int .i64 C, .slice A n cap] 27)).alloc (.cells #[.int .i64 R', .int .i64 C', .slice A' n' cap'] 27)).alloc (.cells #[.int .i64 0, .int .i64 0, .slice none 0 0] 27) = w1 from hw1)
  have H1 := Lib.hid h1
  have HG := Lib.hid hga
  have HRT := Lib.hid hrt
  have HRT2 := Lib.hid hrt2
  clear h1 hw1 hga hrt hrt2
  go_enter Try.func21, Try.ntmps21
  go_wp2_with fail
  rw [HW1.out, HG.out]
  refine (right_any w1 _ _ A n cap).mono ?_
  rintro e wA ⟨rfl, hb⟩
  rw [HRT.out]
  have HA := Lib.hid hb
  have hpa := H1.out.keep hb
  obtain ⟨⟨a0, a1, a2⟩, _⟩ := cells3 hpa.a
  obtain ⟨⟨b0, b1, b2⟩, _⟩ := cells3 hpa.b
  clear hb hpa
  go_wp2_with fail
  refine (right_any wA _ _ A' n' cap').mono ?_
  rintro e wB ⟨rfl, hb⟩
  rw [HRT2.out]
  have HB := Lib.hid (next HA.out hb)
  have hpa := H1.out.keep HB.out
  clear a0 a1 a2 b0 b1 b2
  obtain ⟨⟨a0, a1, a2⟩, _⟩ := cells3 hpa.a
  obtain ⟨⟨b0, b1, b2⟩, _⟩ := cells3 hpa.b
  clear hb hpa
  have hres := (show SolP w wB ga (ga + 1) (ga + 1 + 1) _ _ from H1.out.keep HB.out).res
  obtain ⟨⟨d0, d1, d2⟩, f0, f1, f2⟩ := cells3 hres
  go_wp2_with fail
  have h3 := set3 hres (.int .i64 0) (.int .i64 0) (.slice none 0 0)
  obtain ⟨w30, hw30⟩ : ∃ x : World, ((wB.setCell ⟨ga + 1 + 1, 0, none⟩ (.int .i64 0)).setCell ⟨ga + 1 + 1, 1, none⟩ (.int .i64 0)).setCell ⟨ga + 1 + 1, 2, none⟩ (.slice none 0 0) = x := ⟨_, rfl⟩
  rw [hw30] at h3 ⊢
  obtain ⟨⟨e0, e1, e2⟩, _⟩ := cells3 h3.1
  refine bodyPost_ret (v := .tuple #[.agg #[.int .i64 0, .int .i64 0, .slice none 0 0], .int .i64 50]) (by simp [results, Try.results21, go_sem, e0, e1, e2]) rfl ?_
  have hb := (H1.out.keep HB.out).below
  have hn := H1.out.nums
  exact ⟨rfl, hb.trans (h3.2.below hb.size fun k e => by rw [e]; omega)⟩
set_option maxRecDepth 100000 in
set_option maxHeartbeats 8000000 in
theorem solve_bad3 (w : World) (F : Value) (R C R' C' : Int) (A A' : Option Addr) (n cap n' cap' : Nat) (hrt : rightB R C n = true) (hrt2 : rightB R' C' n' = true) (hne : (R != R') = true) :
    Calls Try.prog 21 #[F, .agg #[.int .i64 R, .int .i64 C, .slice A n cap], .agg #[.int .i64 R', .int .i64 C', .slice A' n' cap']] w (ErrM w 50) := by
  obtain ⟨w1, h1, hw1⟩ := solP_start w #[.int .i64 R, .int .i64 C, .slice A n cap] #[.int .i64 R', .int .i64 C', .slice A' n' cap']
  obtain ⟨ga, hga⟩ : ∃ x, w.heap.size = x := ⟨_, rfl⟩
  rw [hga] at h1
  have HW1 := Lib.hid (show ((w.alloc (.cells #[.int .i64 R, .int .i64 C, .slice A n cap] 27)).alloc (.cells #[.int .i64 R', .int .i64 C', .slice A' n' cap'] 27)).alloc (.cells #[.int .i64 0, .int .i64 0, .slice none 0 0] 27) = w1 from hw1)
  have H1 := Lib.hid h1
  have HG := Lib.hid hga
  have HRT := Lib.hid hrt
  have HRT2 := Lib.hid hrt2
  have HNE := Lib.hid hne
  clear h1 hw1 hga hrt hrt2 hne
  go_enter Try.func21, Try.ntmps21
  go_wp2_with fail
  rw [HW1.out, HG.out]
  refine (right_any w1 _ _ A n cap).mono ?_
  rintro e wA ⟨rfl, hb⟩
  rw [HRT.out]
  have HA := Lib.hid hb
  have hpa := H1.out.keep hb
  obtain ⟨⟨a0, a1, a2⟩, _⟩ := cells3 hpa.a
  obtain ⟨⟨b0, b1, b2⟩, _⟩ := cells3 hpa.b
  clear hb hpa
  go_wp2_with fail
  refine (right_any wA _ _ A' n' cap').mono ?_
  rintro e wB ⟨rfl, hb⟩
  rw [HRT2.out]
  have HB := Lib.hid (next HA.out hb)
  have hpa := H1.out.keep HB.out
  clear a0 a1 a2 b0 b1 b2
  obtain ⟨⟨a0, a1, a2⟩, _⟩ := cells3 hpa.a
  obtain ⟨⟨b0, b1, b2⟩, _⟩ := cells3 hpa.b
  clear hb hpa
  have hne := HNE.out
  have hres := (show SolP w wB ga (ga + 1) (ga + 1 + 1) _ _ from H1.out.keep HB.out).res
  obtain ⟨⟨d0, d1, d2⟩, f0, f1, f2⟩ := cells3 hres
  go_wp2_with fail
  have h3 := set3 hres (.int .i64 0) (.int .i64 0) (.slice none 0 0)
  obtain ⟨w30, hw30⟩ : ∃ x : World, ((wB.setCell ⟨ga + 1 + 1, 0, none⟩ (.int .i64 0)).setCell ⟨ga + 1 + 1, 1, none⟩ (.int .i64 0)).setCell ⟨ga + 1 + 1, 2, none⟩ (.slice none 0 0) = x := ⟨_, rfl⟩
  rw [hw30] at h3 ⊢
  obtain ⟨⟨e0, e1, e2⟩, _⟩ := cells3 h3.1
  refine bodyPost_ret (v := .tuple #[.agg #[.int .i64 0, .int .i64 0, .slice none 0 0], .int .i64 50]) (by simp [results, Try.results21, go_sem, e0, e1, e2]) rfl ?_
  have hb := (H1.out.keep HB.out).below
  have hn := H1.out.nums
  exact ⟨rfl, hb.trans (h3.2.below hb.size fun k e => by rw [e]; omega)⟩
set_option maxRecDepth 100000 in
set_option maxHeartbeats 8000000 in
theorem solve_no1 (w : World) (p : Nat) (hp : Fld w p) (r c d : Nat) (A A' : Option Addr) (n cap n' cap' : Nat) (a b : M) (hrt : rightB r c n = true) (hrt2 : rightB r d n' = true) (hrd : r ≤ 100 ∧ c ≤ 100 ∧ d ≤ 100) (hA : In w p A (flat r c a)) (hB : In w p A' (flat r d b)) (hk : (redTo r a b c).at_ < c) :
    Calls Try.prog 21 #[fptr (some p), .agg #[.int .i64 (r : Int), .int .i64 (c : Int), .slice A n cap], .agg #[.int .i64 (r : Int), .int .i64 (d : Int), .slice A' n' cap']] w (ErrF w p 51) := by
  have hn : n = r * c := by obtain ⟨r', c', e1, e2, _, _, e⟩ := right_nat hrt; rw [e, Int.ofNat.inj e1, Int.ofNat.inj e2]
  have hn' : n' = r * d := by obtain ⟨r', c', e1, e2, _, _, e⟩ := right_nat hrt2; rw [e, Int.ofNat.inj e1, Int.ofNat.inj e2]
  have hl : r * c ≤ 10000 ∧ r * d ≤ 10000 ∧ c * d ≤ 10000 := ⟨Nat.mul_le_mul hrd.1 hrd.2.1, Nat.mul_le_mul hrd.1 hrd.2.2, Nat.mul_le_mul hrd.2.1 hrd.2.2⟩
  obtain ⟨w1, h1, hw1⟩ := solP_start w #[.int .i64 (r : Int), .int .i64 (c : Int), .slice A n cap] #[.int .i64 (r : Int), .int .i64 (d : Int), .slice A' n' cap']
  obtain ⟨ga, hga⟩ : ∃ x, w.heap.size = x := ⟨_, rfl⟩
  rw [hga] at h1
  have HW1 := Lib.hid (show ((w.alloc (.cells #[.int .i64 (r : Int), .int .i64 (c : Int), .slice A n cap] 27)).alloc (.cells #[.int .i64 (r : Int), .int .i64 (d : Int), .slice A' n' cap'] 27)).alloc (.cells #[.int .i64 0, .int .i64 0, .slice none 0 0] 27) = w1 from hw1)
  have H1 := Lib.hid h1
  have HG := Lib.hid hga
  have HP := Lib.hid hp
  have HRT := Lib.hid hrt
  have HRT2 := Lib.hid hrt2
  have HRD := Lib.hid hrd
  have HAA := Lib.hid hA
  have HBB := Lib.hid hB
  have HN := Lib.hid hn
  have HN2 := Lib.hid hn'
  have HL := Lib.hid hl
  have HK := Lib.hid hk
  clear h1 hw1 hga hp hrt hrt2 hrd hA hB hn hn' hl hk
  go_enter Try.func21, Try.ntmps21
  go_wp2_with fail
  rw [HW1.out, HG.out]
  refine (right_any w1 _ _ A n cap).mono ?_
  rintro e wA ⟨rfl, hb⟩
  rw [HRT.out]
  have HA := Lib.hid hb
  have hpa := H1.out.keep hb
  obtain ⟨⟨a0, a1, a2⟩, _⟩ := cells3 hpa.a
  obtain ⟨⟨b0, b1, b2⟩, _⟩ := cells3 hpa.b
  clear hb hpa
  go_wp2_with fail
  refine (right_any wA _ _ A' n' cap').mono ?_
  rintro e wB ⟨rfl, hb⟩
  rw [HRT2.out]
  have HB := Lib.hid (next HA.out hb)
  have hpa := H1.out.keep HB.out
  clear a0 a1 a2 b0 b1 b2
  obtain ⟨⟨a0, a1, a2⟩, _⟩ := cells3 hpa.a
  obtain ⟨⟨b0, b1, b2⟩, _⟩ := cells3 hpa.b
  clear hb hpa
  have H2 := Lib.hid (H1.out.keep HB.out)
  go_wp2_with fail
  refine (own_any wB _ _ A' (flat r d b) n' cap' (by rw [flat_len]; exact HN2.out.symm) (by have := HN2.out; have := HL.out; omega) ((HBB.out.1.below H2.out.below).up H2.out.below.size)).mono ?_
  rintro e w3 ⟨X, cx, rfl, ho, hb⟩
  rw [flat_len]
  have H3 := Lib.hid (And.intro (H2.out.keep hb) (show Mem.Own w3 wB.heap.size 5 X cx ((flat r d b).map u8v) from ho))
  obtain ⟨w4, gx, h4, hw4, hgx⟩ := boxed w3 (mcells r d X (r * d) cx)
  have HW4 := Lib.hid (show w3.alloc (.cells #[.int .i64 (r : Int), .int .i64 (d : Int), .slice X (r * d) cx] 27) = w4 from hw4)
  have H4 := Lib.hid (And.intro (H3.out.1.keep h4.1) (And.intro (H3.out.2.keep h4.1) h4.2))
  have HSX := Lib.hid (show wB.heap.size ≤ gx from by rw [← hgx]; exact hb.size)
  have HGX := Lib.hid hgx
  clear ho hb h4 hw4 hgx a0 a1 a2 b0 b1 b2
  go_wp2_with fail
  rw [HW4.out, HGX.out]
  --HELD solve_no1r
  refine wp_region_noPanic ?_
  refine wp_heldG (fun w' => Blk w' ga 27 (mcells r c A n cap) ∧ Blk w' gx 27 (mcells r d X (r * d) cx)) [] (by kernel_rfl) ?hs0 ?rg0
  case hs0 =>
    exact ⟨H4.out.1.a, H4.out.2.2.1⟩
  case rg0 =>
  intro hHeld
  refine wpAnyG_pure (i := 0) (oi := { dst := some 28, op := Op.move (Operand.tmp 0), type := 24, pos := _, after := #[], guard := none }) (v := ?_) rfl (by kernel_rfl) (by kernel_rfl) (by kernel_rfl) (by kernel_rfl) (fun _ _ _ h => h) (Or.inl ⟨by rfl, ?_⟩) (fun _ => by assumption) ?_
  rotate_left
  · intro w hSw
    try dsimp only at hSw
    go_simp
    try with_reducible rfl
  try simp only [Act.put, List.setIfInBounds_toArray, List.set_cons_zero, List.set_cons_succ]
  refine wpAnyG_take (i := 1) (oi := { dst := some 29, op := Op.load 27 (Operand.tmp 4), type := 27, pos := _, after := #[], guard := none }) (v := ?_) rfl (by kernel_rfl) (by kernel_rfl) (by kernel_rfl) (by kernel_rfl) (fun _ _ _ h => h) (Or.inl ⟨by rfl, ?_⟩) (by assumption) ?_
  rotate_left
  · intro w hSw
    try dsimp only at hSw
    obtain ⟨⟨c0, c1, c2⟩, _⟩ := cells3 hSw.1
    go_simp
    try with_reducible rfl
  try simp only [Act.put, List.setIfInBounds_toArray, List.set_cons_zero, List.set_cons_succ]
  refine wpAnyG_take (i := 3) (oi := { dst := some 31, op := Op.load 27 (Operand.tmp 8), type := 27, pos := _, after := #[], guard := none }) (v := ?_) rfl (by kernel_rfl) (by kernel_rfl) (by kernel_rfl) (by kernel_rfl) (fun _ _ _ h => h) (Or.inl ⟨by rfl, ?_⟩) (by assumption) ?_
  rotate_left
  · intro w hSw
    try dsimp only at hSw
    obtain ⟨⟨c0, c1, c2⟩, _⟩ := cells3 hSw.2
    go_simp
    try with_reducible rfl
  try simp only [Act.put, List.setIfInBounds_toArray, List.set_cons_zero, List.set_cons_succ]
  refine wpAnyG_pure (i := 5) (oi := { dst := some 33, op := Op.fieldAddr 27 (Operand.tmp 4) 1, type := 0, pos := _, after := #[], guard := none }) (v := ?_) rfl (by kernel_rfl) (by kernel_rfl) (by kernel_rfl) (by kernel_rfl) (fun _ _ _ h => h) (Or.inl ⟨by rfl, ?_⟩) (fun _ => by assumption) ?_
  rotate_left
  · intro w hSw
    try dsimp only at hSw
    go_simp
    try with_reducible rfl
  try simp only [Act.put, List.setIfInBounds_toArray, List.set_cons_zero, List.set_cons_succ]
  refine wpAnyG_take (i := 6) (oi := { dst := some 34, op := Op.load 3 (Operand.tmp 33), type := 3, pos := _, after := #[{ on := 5, ground := Ground.data }], guard := none }) (v := ?_) rfl (by kernel_rfl) (by kernel_rfl) (by kernel_rfl) (by kernel_rfl) (fun _ _ _ h => h) (Or.inl ⟨by rfl, ?_⟩) (by assumption) ?_
  rotate_left
  · intro w hSw
    try dsimp only at hSw
    obtain ⟨⟨c0, c1, c2⟩, _⟩ := cells3 hSw.1
    go_simp
    try with_reducible rfl
  try simp only [Act.put, List.setIfInBounds_toArray, List.set_cons_zero, List.set_cons_succ]
  refine wpAnyG_one (i := 2) (o := { dst := some 30, op := Op.call { callee := Callee.value (Operand.func 47), args := #[Operand.tmp 29], argTypes := #[27] }, type := 27, pos := _, after := #[{ on := 1, ground := Ground.data }], guard := none }) (by kernel_rfl) rfl (fun K hK => ?_)
  go_simp
  have hb4 := next H4.out.1.below (nextN (Mem.start w4) 1)
  refine (own_any _ _ _ A (flat r c a) n cap (by rw [flat_len]; exact HN.out.symm) (by have := HN.out; have := HL.out; omega) ((HAA.out.1.below hb4).up hb4.size)).mono ?_
  rintro e w5 ⟨XA, ca, rfl, ho, hb⟩
  rw [flat_len]
  have H5 := Lib.hid (And.intro (show Mem.Own w5 w4.heap.size 5 XA ca ((flat r c a).map u8v) from ho) (And.intro (H4.out.1.keep (next (nextN (Mem.start w4) 1) hb)) (And.intro (H4.out.2.1.keep (next (nextN (Mem.start w4) 1) hb)) (H4.out.2.2.1.keep (next (nextN (Mem.start w4) 1) hb)))))
  clear ho hb4
  try dsimp only
  refine hK.out _ _ ?_ (fun hHeld => ?_)
  · intro _
    try dsimp only
    exact ⟨hHeld.1.keep hb, hHeld.2.keep hb⟩
  clear hK K
  try simp only [Act.put, List.setIfInBounds_toArray, List.set_cons_zero, List.set_cons_succ]
  have hHeld := hHeld (by kernel_rfl)
  refine wpAnyG_one (i := 4) (o := { dst := some 32, op := Op.call { callee := Callee.value (Operand.func 46), args := #[Operand.tmp 28, Operand.tmp 30, Operand.tmp 31], argTypes := #[24, 27, 27] }, type := 3, pos := _, after := #[{ on := 0, ground := Ground.data }, { on := 2, ground := Ground.data }, { on := 3, ground := Ground.data }, { on := 2, ground := Ground.chain }], guard := none }) (by kernel_rfl) rfl (fun K hK => ?_)
  clear hb
  go_simp
  have hap := solve_apart (X := X) (XA := XA) HP.out.lt (show w.heap.size ≤ wB.heap.size from H2.out.below.size) (fun k h => ⟨(own_bk H3.out.2 h).1, by have := (own_bk H3.out.2 h).2; have := HGX.out; omega⟩) (fun k h => by have := (own_bk H5.out.1 h).1; have := H4.out.2.2.2; omega) HSX.out
  refine (reduce_any w5 p (HP.out.keep H5.out.2.1.below) r c d (by have := HRD.out; omega) XA X (r * c) (r * d) ca cx rfl rfl a b (Own.down H5.out.1 (Nat.zero_le _)) (Own.down H5.out.2.2.1 (Nat.zero_le _)) ⟨hap.1, hap.2.1⟩).mono ?_
  rintro e w6 ⟨rfl, _, hx6, hF6, hf6⟩
  have H6 := Lib.hid (And.intro hx6 (And.intro hF6 hf6))
  have HAP := Lib.hid hap.2.2
  clear hap hx6 hF6
  try dsimp only
  refine hK.out _ _ ?_ (fun hHeld => ?_)
  · intro _
    try dsimp only
    have hn := H2.out.nums
    have hpl := HP.out.lt
    have hxl := HGX.out
    have hsx := H3.out.1.nums
    have hszx : wB.heap.size ≤ gx := HSX.out
    exact ⟨hHeld.1.fr hf6 (fun hs => by have := HAP.out _ hs; omega), hHeld.2.fr hf6 (fun hs => by have := HAP.out _ hs; omega)⟩
  clear hK K
  try simp only [Act.put, List.setIfInBounds_toArray, List.set_cons_zero, List.set_cons_succ]
  have hHeld := hHeld (by kernel_rfl)
  refine wpAnyG_pure (i := 7) (oi := { dst := some 35, op := Op.binOp BinOp.lss 3 (Operand.tmp 32) (Operand.tmp 34) 3, type := 4, pos := _, after := #[{ on := 4, ground := Ground.data }, { on := 6, ground := Ground.data }], guard := none }) (v := ?_) rfl (by kernel_rfl) (by kernel_rfl) (by kernel_rfl) (by kernel_rfl) (fun _ _ _ h => h) (Or.inl ⟨by rfl, ?_⟩) (fun _ => by assumption) ?_
  rotate_left
  · intro w hSw
    try dsimp only at hSw
    go_simp
    try with_reducible rfl
  try simp only [Act.put, List.setIfInBounds_toArray, List.set_cons_zero, List.set_cons_succ]
  refine wpAnyG_done (by kernel_rfl) ?_ _
  refine NoPanic.normal ?_
  --END solve_no1r
  have hf7 : Fr (fun k => k = p) w w6 := (Fr.quiet (S := fun k => k = p) H5.out.2.1.below).trans H6.out.2.2 fun k hk hs => by
    have h1 := HAP.out k hs
    have h2 := H2.out.below.size
    omega
  have hn := H2.out.nums
  have hpl := HP.out.lt
  have hgr := HG.out
  have hsx := HSX.out
  have hne : ∀ k, k ≠ p → (k < wB.heap.size ∨ k = gx) → ¬ RS' XA X p k := fun k h1 h2 hs => by have := HAP.out k hs; omega
  have H7 := Lib.hid (show Blk w6 ga 27 (mcells r c A n cap) ∧ Blk w6 (ga + 1) 27 (mcells r d A' n' cap') ∧ Blk w6 (ga + 1 + 1) 27 zmx ∧ Blk w6 gx 27 (mcells r d X (r * d) cx) ∧ Fr (fun k => k = p) w w6 from
    ⟨H5.out.2.1.a.fr H6.out.2.2 (hne _ (by omega) (by omega)), H5.out.2.1.b.fr H6.out.2.2 (hne _ (by omega) (by omega)), H5.out.2.1.res.fr H6.out.2.2 (hne _ (by omega) (by omega)), H5.out.2.2.2.fr H6.out.2.2 (hne _ (by omega) (by omega)), hf7⟩)
  clear hf7 hn hpl hgr hsx hne hf6
  have hkk := HK.out
  have hres := H7.out.2.2.1
  obtain ⟨⟨d0, d1, d2⟩, f0, f1, f2⟩ := cells3 hres
  go_wp2_with fail
  have h3 := set3 hres (.int .i64 0) (.int .i64 0) (.slice none 0 0)
  obtain ⟨w30, hw30⟩ : ∃ x : World, ((w6.setCell ⟨ga + 1 + 1, 0, none⟩ (.int .i64 0)).setCell ⟨ga + 1 + 1, 1, none⟩ (.int .i64 0)).setCell ⟨ga + 1 + 1, 2, none⟩ (.slice none 0 0) = x := ⟨_, rfl⟩
  rw [hw30] at h3 ⊢
  obtain ⟨⟨e0, e1, e2⟩, _⟩ := cells3 h3.1
  refine bodyPost_ret (v := .tuple #[.agg #[.int .i64 0, .int .i64 0, .slice none 0 0], .int .i64 51]) (by simp [results, Try.results21, go_sem, e0, e1, e2]) rfl ?_
  exact ⟨rfl, H6.out.2.1.fr h3.2 (by have := HG.out; have := HP.out.lt; omega), H7.out.2.2.2.2.trans h3.2 fun k hk e => by have := HG.out; omega⟩
theorem rest_bytes {w : World} {X : Option Addr} {cap r c q : Nat} {m : M} (h : Wo w X cap r c m) (hq : q < cap) : Bytes w w.heap.size (X.map (·.add q)) ((flat r c m).drop q) := by
  have hb : Bytes w w.heap.size X (flat r c m) := Own.bytes h
  have hle : (flat r c m).length ≤ cap := by rw [flat_len]; exact h.le
  rcases Own.form h with ⟨_, e, _⟩ | ⟨g, rfl, _⟩
  · omega
  · have := hb.cut (g := g) (fun a e => by injection e with e; exact e.symm) q (cap - q)
    rw [if_neg (by omega), List.take_of_length_le (by rw [List.length_drop]; omega)] at this
    exact this
theorem head_bytes {w : World} {X : Option Addr} {cap r c : Nat} {m : M} (h : Wo w X cap r c m) (q : Nat) : Bytes w w.heap.size X ((flat r c m).take q) := Bytes.take (Own.bytes h) q
set_option maxRecDepth 100000 in
set_option maxHeartbeats 8000000 in
theorem solve_no2 (w : World) (p : Nat) (hp : Fld w p) (r c d : Nat) (A A' : Option Addr) (n cap n' cap' : Nat) (a b : M) (hrt : rightB r c n = true) (hrt2 : rightB r d n' = true) (hrd : r ≤ 100 ∧ c ≤ 100 ∧ d ≤ 100) (hA : In w p A (flat r c a)) (hB : In w p A' (flat r d b)) (hk : (redTo r a b c).at_ = c) (hz : anyNz ((flat r d (redTo r a b c).B).drop (c * d)) = true) :
    Calls Try.prog 21 #[fptr (some p), .agg #[.int .i64 (r : Int), .int .i64 (c : Int), .slice A n cap], .agg #[.int .i64 (r : Int), .int .i64 (d : Int), .slice A' n' cap']] w (ErrF w p 51) := by
  have hn : n = r * c := by obtain ⟨r', c', e1, e2, _, _, e⟩ := right_nat hrt; rw [e, Int.ofNat.inj e1, Int.ofNat.inj e2]
  have hn' : n' = r * d := by obtain ⟨r', c', e1, e2, _, _, e⟩ := right_nat hrt2; rw [e, Int.ofNat.inj e1, Int.ofNat.inj e2]
  have hl : r * c ≤ 10000 ∧ r * d ≤ 10000 ∧ c * d ≤ 10000 := ⟨Nat.mul_le_mul hrd.1 hrd.2.1, Nat.mul_le_mul hrd.1 hrd.2.2, Nat.mul_le_mul hrd.2.1 hrd.2.2⟩
  obtain ⟨w1, h1, hw1⟩ := solP_start w #[.int .i64 (r : Int), .int .i64 (c : Int), .slice A n cap] #[.int .i64 (r : Int), .int .i64 (d : Int), .slice A' n' cap']
  obtain ⟨ga, hga⟩ : ∃ x, w.heap.size = x := ⟨_, rfl⟩
  rw [hga] at h1
  have HW1 := Lib.hid (show ((w.alloc (.cells #[.int .i64 (r : Int), .int .i64 (c : Int), .slice A n cap] 27)).alloc (.cells #[.int .i64 (r : Int), .int .i64 (d : Int), .slice A' n' cap'] 27)).alloc (.cells #[.int .i64 0, .int .i64 0, .slice none 0 0] 27) = w1 from hw1)
  have H1 := Lib.hid h1
  have HG := Lib.hid hga
  have HP := Lib.hid hp
  have HRT := Lib.hid hrt
  have HRT2 := Lib.hid hrt2
  have HRD := Lib.hid hrd
  have HAA := Lib.hid hA
  have HBB := Lib.hid hB
  have HN := Lib.hid hn
  have HN2 := Lib.hid hn'
  have HL := Lib.hid hl
  have HK := Lib.hid hk
  have HZ := Lib.hid hz
  clear h1 hw1 hga hp hrt hrt2 hrd hA hB hn hn' hl hk hz
  go_enter Try.func21, Try.ntmps21
  go_wp2_with fail
  rw [HW1.out, HG.out]
  refine (right_any w1 _ _ A n cap).mono ?_
  rintro e wA ⟨rfl, hb⟩
  rw [HRT.out]
  have HA := Lib.hid hb
  have hpa := H1.out.keep hb
  obtain ⟨⟨a0, a1, a2⟩, _⟩ := cells3 hpa.a
  obtain ⟨⟨b0, b1, b2⟩, _⟩ := cells3 hpa.b
  clear hb hpa
  go_wp2_with fail
  refine (right_any wA _ _ A' n' cap').mono ?_
  rintro e wB ⟨rfl, hb⟩
  rw [HRT2.out]
  have HB := Lib.hid (next HA.out hb)
  have hpa := H1.out.keep HB.out
  clear a0 a1 a2 b0 b1 b2
  obtain ⟨⟨a0, a1, a2⟩, _⟩ := cells3 hpa.a
  obtain ⟨⟨b0, b1, b2⟩, _⟩ := cells3 hpa.b
  clear hb hpa
  have H2 := Lib.hid (H1.out.keep HB.out)
  go_wp2_with fail
  refine (own_any wB _ _ A' (flat r d b) n' cap' (by rw [flat_len]; exact HN2.out.symm) (by have := HN2.out; have := HL.out; omega) ((HBB.out.1.below H2.out.below).up H2.out.below.size)).mono ?_
  rintro e w3 ⟨X, cx, rfl, ho, hb⟩
  rw [flat_len]
  have H3 := Lib.hid (And.intro (H2.out.keep hb) (show Mem.Own w3 wB.heap.size 5 X cx ((flat r d b).map u8v) from ho))
  obtain ⟨w4, gx, h4, hw4, hgx⟩ := boxed w3 (mcells r d X (r * d) cx)
  have HW4 := Lib.hid (show w3.alloc (.cells #[.int .i64 (r : Int), .int .i64 (d : Int), .slice X (r * d) cx] 27) = w4 from hw4)
  have H4 := Lib.hid (And.intro (H3.out.1.keep h4.1) (And.intro (H3.out.2.keep h4.1) h4.2))
  have HSX := Lib.hid (show wB.heap.size ≤ gx from by rw [← hgx]; exact hb.size)
  have HGX := Lib.hid hgx
  clear ho hb h4 hw4 hgx a0 a1 a2 b0 b1 b2
  go_wp2_with fail
  rw [HW4.out, HGX.out]
  --HELD solve_no2r
  refine wp_region_noPanic ?_
  refine wp_heldG (fun w' => Blk w' ga 27 (mcells r c A n cap) ∧ Blk w' gx 27 (mcells r d X (r * d) cx)) [] (by kernel_rfl) ?hs0 ?rg0
  case hs0 =>
    exact ⟨H4.out.1.a, H4.out.2.2.1⟩
  case rg0 =>
  intro hHeld
  refine wpAnyG_pure (i := 0) (oi := { dst := some 28, op := Op.move (Operand.tmp 0), type := 24, pos := _, after := #[], guard := none }) (v := ?_) rfl (by kernel_rfl) (by kernel_rfl) (by kernel_rfl) (by kernel_rfl) (fun _ _ _ h => h) (Or.inl ⟨by rfl, ?_⟩) (fun _ => by assumption) ?_
  rotate_left
  · intro w hSw
    try dsimp only at hSw
    go_simp
    try with_reducible rfl
  try simp only [Act.put, List.setIfInBounds_toArray, List.set_cons_zero, List.set_cons_succ]
  refine wpAnyG_take (i := 1) (oi := { dst := some 29, op := Op.load 27 (Operand.tmp 4), type := 27, pos := _, after := #[], guard := none }) (v := ?_) rfl (by kernel_rfl) (by kernel_rfl) (by kernel_rfl) (by kernel_rfl) (fun _ _ _ h => h) (Or.inl ⟨by rfl, ?_⟩) (by assumption) ?_
  rotate_left
  · intro w hSw
    try dsimp only at hSw
    obtain ⟨⟨c0, c1, c2⟩, _⟩ := cells3 hSw.1
    go_simp
    try with_reducible rfl
  try simp only [Act.put, List.setIfInBounds_toArray, List.set_cons_zero, List.set_cons_succ]
  refine wpAnyG_take (i := 3) (oi := { dst := some 31, op := Op.load 27 (Operand.tmp 8), type := 27, pos := _, after := #[], guard := none }) (v := ?_) rfl (by kernel_rfl) (by kernel_rfl) (by kernel_rfl) (by kernel_rfl) (fun _ _ _ h => h) (Or.inl ⟨by rfl, ?_⟩) (by assumption) ?_
  rotate_left
  · intro w hSw
    try dsimp only at hSw
    obtain ⟨⟨c0, c1, c2⟩, _⟩ := cells3 hSw.2
    go_simp
    try with_reducible rfl
  try simp only [Act.put, List.setIfInBounds_toArray, List.set_cons_zero, List.set_cons_succ]
  refine wpAnyG_pure (i := 5) (oi := { dst := some 33, op := Op.fieldAddr 27 (Operand.tmp 4) 1, type := 0, pos := _, after := #[], guard := none }) (v := ?_) rfl (by kernel_rfl) (by kernel_rfl) (by kernel_rfl) (by kernel_rfl) (fun _ _ _ h => h) (Or.inl ⟨by rfl, ?_⟩) (fun _ => by assumption) ?_
  rotate_left
  · intro w hSw
    try dsimp only at hSw
    go_simp
    try with_reducible rfl
  try simp only [Act.put, List.setIfInBounds_toArray, List.set_cons_zero, List.set_cons_succ]
  refine wpAnyG_take (i := 6) (oi := { dst := some 34, op := Op.load 3 (Operand.tmp 33), type := 3, pos := _, after := #[{ on := 5, ground := Ground.data }], guard := none }) (v := ?_) rfl (by kernel_rfl) (by kernel_rfl) (by kernel_rfl) (by kernel_rfl) (fun _ _ _ h => h) (Or.inl ⟨by rfl, ?_⟩) (by assumption) ?_
  rotate_left
  · intro w hSw
    try dsimp only at hSw
    obtain ⟨⟨c0, c1, c2⟩, _⟩ := cells3 hSw.1
    go_simp
    try with_reducible rfl
  try simp only [Act.put, List.setIfInBounds_toArray, List.set_cons_zero, List.set_cons_succ]
  refine wpAnyG_one (i := 2) (o := { dst := some 30, op := Op.call { callee := Callee.value (Operand.func 47), args := #[Operand.tmp 29], argTypes := #[27] }, type := 27, pos := _, after := #[{ on := 1, ground := Ground.data }], guard := none }) (by kernel_rfl) rfl (fun K hK => ?_)
  go_simp
  have hb4 := next H4.out.1.below (nextN (Mem.start w4) 1)
  refine (own_any _ _ _ A (flat r c a) n cap (by rw [flat_len]; exact HN.out.symm) (by have := HN.out; have := HL.out; omega) ((HAA.out.1.below hb4).up hb4.size)).mono ?_
  rintro e w5 ⟨XA, ca, rfl, ho, hb⟩
  rw [flat_len]
  have H5 := Lib.hid (And.intro (show Mem.Own w5 w4.heap.size 5 XA ca ((flat r c a).map u8v) from ho) (And.intro (H4.out.1.keep (next (nextN (Mem.start w4) 1) hb)) (And.intro (H4.out.2.1.keep (next (nextN (Mem.start w4) 1) hb)) (H4.out.2.2.1.keep (next (nextN (Mem.start w4) 1) hb)))))
  clear ho hb4
  try dsimp only
  refine hK.out _ _ ?_ (fun hHeld => ?_)
  · intro _
    try dsimp only
    exact ⟨hHeld.1.keep hb, hHeld.2.keep hb⟩
  clear hK K
  try simp only [Act.put, List.setIfInBounds_toArray, List.set_cons_zero, List.set_cons_succ]
  have hHeld := hHeld (by kernel_rfl)
  refine wpAnyG_one (i := 4) (o := { dst := some 32, op := Op.call { callee := Callee.value (Operand.func 46), args := #[Operand.tmp 28, Operand.tmp 30, Operand.tmp 31], argTypes := #[24, 27, 27] }, type := 3, pos := _, after := #[{ on := 0, ground := Ground.data }, { on := 2, ground := Ground.data }, { on := 3, ground := Ground.data }, { on := 2, ground := Ground.chain }], guard := none }) (by kernel_rfl) rfl (fun K hK => ?_)
  clear hb
  go_simp
  have hap := solve_apart (X := X) (XA := XA) HP.out.lt (show w.heap.size ≤ wB.heap.size from H2.out.below.size) (fun k h => ⟨(own_bk H3.out.2 h).1, by have := (own_bk H3.out.2 h).2; have := HGX.out; omega⟩) (fun k h => by have := (own_bk H5.out.1 h).1; have := H4.out.2.2.2; omega) HSX.out
  refine (reduce_any w5 p (HP.out.keep H5.out.2.1.below) r c d (by have := HRD.out; omega) XA X (r * c) (r * d) ca cx rfl rfl a b (Own.down H5.out.1 (Nat.zero_le _)) (Own.down H5.out.2.2.1 (Nat.zero_le _)) ⟨hap.1, hap.2.1⟩).mono ?_
  rintro e w6 ⟨rfl, _, hx6, hF6, hf6⟩
  have H6 := Lib.hid (And.intro hx6 (And.intro hF6 hf6))
  have HAP := Lib.hid hap.2.2
  clear hap hx6 hF6
  try dsimp only
  refine hK.out _ _ ?_ (fun hHeld => ?_)
  · intro _
    try dsimp only
    have hn := H2.out.nums
    have hpl := HP.out.lt
    have hxl := HGX.out
    have hsx := H3.out.1.nums
    have hszx : wB.heap.size ≤ gx := HSX.out
    exact ⟨hHeld.1.fr hf6 (fun hs => by have := HAP.out _ hs; omega), hHeld.2.fr hf6 (fun hs => by have := HAP.out _ hs; omega)⟩
  clear hK K
  try simp only [Act.put, List.setIfInBounds_toArray, List.set_cons_zero, List.set_cons_succ]
  have hHeld := hHeld (by kernel_rfl)
  refine wpAnyG_pure (i := 7) (oi := { dst := some 35, op := Op.binOp BinOp.lss 3 (Operand.tmp 32) (Operand.tmp 34) 3, type := 4, pos := _, after := #[{ on := 4, ground := Ground.data }, { on := 6, ground := Ground.data }], guard := none }) (v := ?_) rfl (by kernel_rfl) (by kernel_rfl) (by kernel_rfl) (by kernel_rfl) (fun _ _ _ h => h) (Or.inl ⟨by rfl, ?_⟩) (fun _ => by assumption) ?_
  rotate_left
  · intro w hSw
    try dsimp only at hSw
    go_simp
    try with_reducible rfl
  try simp only [Act.put, List.setIfInBounds_toArray, List.set_cons_zero, List.set_cons_succ]
  refine wpAnyG_done (by kernel_rfl) ?_ _
  refine NoPanic.normal ?_
  --END solve_no2r
  have hf7 : Fr (fun k => k = p) w w6 := (Fr.quiet (S := fun k => k = p) H5.out.2.1.below).trans H6.out.2.2 fun k hk hs => by
    have h1 := HAP.out k hs
    have h2 := H2.out.below.size
    omega
  have hn := H2.out.nums
  have hpl := HP.out.lt
  have hgr := HG.out
  have hsx := HSX.out
  have hne : ∀ k, k ≠ p → (k < wB.heap.size ∨ k = gx) → ¬ RS' XA X p k := fun k h1 h2 hs => by have := HAP.out k hs; omega
  have H7 := Lib.hid (show Blk w6 ga 27 (mcells r c A n cap) ∧ Blk w6 (ga + 1) 27 (mcells r d A' n' cap') ∧ Blk w6 (ga + 1 + 1) 27 zmx ∧ Blk w6 gx 27 (mcells r d X (r * d) cx) ∧ Fr (fun k => k = p) w w6 from
    ⟨H5.out.2.1.a.fr H6.out.2.2 (hne _ (by omega) (by omega)), H5.out.2.1.b.fr H6.out.2.2 (hne _ (by omega) (by omega)), H5.out.2.1.res.fr H6.out.2.2 (hne _ (by omega) (by omega)), H5.out.2.2.2.fr H6.out.2.2 (hne _ (by omega) (by omega)), hf7⟩)
  clear hf7 hn hpl hgr hsx hne hf6
  obtain ⟨L, hL⟩ : ∃ L, r * d = L := ⟨_, rfl⟩
  obtain ⟨q, hq⟩ : ∃ q, c * d = q := ⟨_, rfl⟩
  have hqi : (c : Int) * (d : Int) = (q : Int) := by rw [← hq]; simp
  have hqL : q ≤ L := by
    have h1 := redTo_at (A := a) (B := b) (r := r) c
    rw [HK.out] at h1
    rw [← hq, ← hL]
    exact Nat.mul_le_mul_right d h1.1
  have hLc : L ≤ cx := by rw [← hL]; exact H6.out.1.le
  have hL9 : L ≤ 10000 := by rw [← hL]; exact HL.out.2.1
  have hh7 := H7.out
  rw [hL] at hh7 ⊢
  have H7L := Lib.hid hh7
  have H6L := Lib.hid (show Bytes w6 w6.heap.size X (flat r d (redTo r a b c).B) ∧ (flat r d (redTo r a b c).B).length = L ∧ (flat c d (redTo r a b c).B) = (flat r d (redTo r a b c).B).take q from
    ⟨Own.bytes H6.out.1, by rw [flat_len, hL], by rw [← hq]; exact flat_take (by have h1 := redTo_at (A := a) (B := b) (r := r) c; rw [HK.out] at h1; exact h1.1)⟩)
  have hq0 : (0 : Int) ≤ (q : Int) := by omega
  have hqLi : (q : Int) ≤ (L : Int) := by omega
  have hLci : (L : Int) ≤ (cx : Int) := by omega
  have hqc : (q : Int) ≤ (cx : Int) := by omega
  have hq9 : (q : Int) ≤ 10000 := by omega
  have hw1 : wrap64 (q : Int) = (q : Int) := by unfold wrap64; omega
  have HQ := Lib.hid (And.intro hq (And.intro hqL (And.intro hLc hL9)))
  have hkk : ¬ (redTo r a b c).at_ < c := by rw [HK.out]; exact Nat.lt_irrefl _
  obtain ⟨⟨a0, a1, a2⟩, _⟩ := cells3 H7L.out.1
  obtain ⟨⟨b0, b1, b2⟩, _⟩ := cells3 H7L.out.2.1
  obtain ⟨⟨x0, x1, x2⟩, _⟩ := cells3 H7L.out.2.2.2.1
  clear hL hq hqL hLc hL9 hh7 H7
  have hcx : q < cx := by
    rcases Nat.lt_or_ge q cx with h | h
    · exact h
    · have h1 := HZ.out
      rw [HQ.out.1, List.drop_of_length_le (by rw [H6L.out.2.1]; have := HQ.out; omega)] at h1
      cases h1
  have HCX := Lib.hid hcx
  have hcn : ¬ cx = q := by omega
  clear hcx
  go_wp2_with fail
  refine (contains_any w6 _ ((flat r d (redTo r a b c).B).drop q) (L - q) (cx - q) (by rw [List.length_drop, H6L.out.2.1]) (by have := HQ.out; omega) (rest_bytes H6.out.1 HCX.out)).mono ?_
  rintro e w' ⟨rfl, rfl⟩
  rw [show anyNz ((flat r d (redTo r a b c).B).drop q) = true from by rw [← HQ.out.1]; exact HZ.out]
  have hres := H7L.out.2.2.1
  obtain ⟨⟨d0, d1, d2⟩, f0, f1, f2⟩ := cells3 hres
  go_wp2_with fail
  have h3 := set3 hres (.int .i64 0) (.int .i64 0) (.slice none 0 0)
  obtain ⟨w30, hw30⟩ : ∃ x : World, ((w6.setCell ⟨ga + 1 + 1, 0, none⟩ (.int .i64 0)).setCell ⟨ga + 1 + 1, 1, none⟩ (.int .i64 0)).setCell ⟨ga + 1 + 1, 2, none⟩ (.slice none 0 0) = x := ⟨_, rfl⟩
  rw [hw30] at h3 ⊢
  obtain ⟨⟨e0, e1, e2⟩, _⟩ := cells3 h3.1
  refine bodyPost_ret (v := .tuple #[.agg #[.int .i64 0, .int .i64 0, .slice none 0 0], .int .i64 51]) (by simp [results, Try.results21, go_sem, e0, e1, e2]) rfl ?_
  exact ⟨rfl, H6.out.2.1.fr h3.2 (by have := HG.out; have := HP.out.lt; omega), H7L.out.2.2.2.2.trans h3.2 fun k hk e => by have := HG.out; omega⟩
set_option maxRecDepth 100000 in
set_option maxHeartbeats 8000000 in
theorem solve_yes (w : World) (p : Nat) (hp : Fld w p) (r c d : Nat) (A A' : Option Addr) (n cap n' cap' : Nat) (a b : M) (hrt : rightB r c n = true) (hrt2 : rightB r d n' = true) (hrd : r ≤ 100 ∧ c ≤ 100 ∧ d ≤ 100) (hA : In w p A (flat r c a)) (hB : In w p A' (flat r d b)) (hk : (redTo r a b c).at_ = c) (hz : anyNz ((flat r d (redTo r a b c).B).drop (c * d)) = false) :
    Calls Try.prog 21 #[fptr (some p), .agg #[.int .i64 (r : Int), .int .i64 (c : Int), .slice A n cap], .agg #[.int .i64 (r : Int), .int .i64 (d : Int), .slice A' n' cap']] w (NewF w p c d (redTo r a b c).B) := by
  have hn : n = r * c := by obtain ⟨r', c', e1, e2, _, _, e⟩ := right_nat hrt; rw [e, Int.ofNat.inj e1, Int.ofNat.inj e2]
  have hn' : n' = r * d := by obtain ⟨r', c', e1, e2, _, _, e⟩ := right_nat hrt2; rw [e, Int.ofNat.inj e1, Int.ofNat.inj e2]
  have hl : r * c ≤ 10000 ∧ r * d ≤ 10000 ∧ c * d ≤ 10000 := ⟨Nat.mul_le_mul hrd.1 hrd.2.1, Nat.mul_le_mul hrd.1 hrd.2.2, Nat.mul_le_mul hrd.2.1 hrd.2.2⟩
  obtain ⟨w1, h1, hw1⟩ := solP_start w #[.int .i64 (r : Int), .int .i64 (c : Int), .slice A n cap] #[.int .i64 (r : Int), .int .i64 (d : Int), .slice A' n' cap']
  obtain ⟨ga, hga⟩ : ∃ x, w.heap.size = x := ⟨_, rfl⟩
  rw [hga] at h1
  have HW1 := Lib.hid (show ((w.alloc (.cells #[.int .i64 (r : Int), .int .i64 (c : Int), .slice A n cap] 27)).alloc (.cells #[.int .i64 (r : Int), .int .i64 (d : Int), .slice A' n' cap'] 27)).alloc (.cells #[.int .i64 0, .int .i64 0, .slice none 0 0] 27) = w1 from hw1)
  have H1 := Lib.hid h1
  have HG := Lib.hid hga
  have HP := Lib.hid hp
  have HRT := Lib.hid hrt
  have HRT2 := Lib.hid hrt2
  have HRD := Lib.hid hrd
  have HAA := Lib.hid hA
  have HBB := Lib.hid hB
  have HN := Lib.hid hn
  have HN2 := Lib.hid hn'
  have HL := Lib.hid hl
  have HK := Lib.hid hk
  have HZ := Lib.hid hz
  clear h1 hw1 hga hp hrt hrt2 hrd hA hB hn hn' hl hk hz
  go_enter Try.func21, Try.ntmps21
  go_wp2_with fail
  rw [HW1.out, HG.out]
  refine (right_any w1 _ _ A n cap).mono ?_
  rintro e wA ⟨rfl, hb⟩
  rw [HRT.out]
  have HA := Lib.hid hb
  have hpa := H1.out.keep hb
  obtain ⟨⟨a0, a1, a2⟩, _⟩ := cells3 hpa.a
  obtain ⟨⟨b0, b1, b2⟩, _⟩ := cells3 hpa.b
  clear hb hpa
  go_wp2_with fail
  refine (right_any wA _ _ A' n' cap').mono ?_
  rintro e wB ⟨rfl, hb⟩
  rw [HRT2.out]
  have HB := Lib.hid (next HA.out hb)
  have hpa := H1.out.keep HB.out
  clear a0 a1 a2 b0 b1 b2
  obtain ⟨⟨a0, a1, a2⟩, _⟩ := cells3 hpa.a
  obtain ⟨⟨b0, b1, b2⟩, _⟩ := cells3 hpa.b
  clear hb hpa
  have H2 := Lib.hid (H1.out.keep HB.out)
  go_wp2_with fail
  refine (own_any wB _ _ A' (flat r d b) n' cap' (by rw [flat_len]; exact HN2.out.symm) (by have := HN2.out; have := HL.out; omega) ((HBB.out.1.below H2.out.below).up H2.out.below.size)).mono ?_
  rintro e w3 ⟨X, cx, rfl, ho, hb⟩
  rw [flat_len]
  have H3 := Lib.hid (And.intro (H2.out.keep hb) (show Mem.Own w3 wB.heap.size 5 X cx ((flat r d b).map u8v) from ho))
  obtain ⟨w4, gx, h4, hw4, hgx⟩ := boxed w3 (mcells r d X (r * d) cx)
  have HW4 := Lib.hid (show w3.alloc (.cells #[.int .i64 (r : Int), .int .i64 (d : Int), .slice X (r * d) cx] 27) = w4 from hw4)
  have H4 := Lib.hid (And.intro (H3.out.1.keep h4.1) (And.intro (H3.out.2.keep h4.1) h4.2))
  have HSX := Lib.hid (show wB.heap.size ≤ gx from by rw [← hgx]; exact hb.size)
  have HGX := Lib.hid hgx
  clear ho hb h4 hw4 hgx a0 a1 a2 b0 b1 b2
  go_wp2_with fail
  rw [HW4.out, HGX.out]
  --HELD solve_yesr
  refine wp_region_noPanic ?_
  refine wp_heldG (fun w' => Blk w' ga 27 (mcells r c A n cap) ∧ Blk w' gx 27 (mcells r d X (r * d) cx)) [] (by kernel_rfl) ?hs0 ?rg0
  case hs0 =>
    exact ⟨H4.out.1.a, H4.out.2.2.1⟩
  case rg0 =>
  intro hHeld
  refine wpAnyG_pure (i := 0) (oi := { dst := some 28, op := Op.move (Operand.tmp 0), type := 24, pos := _, after := #[], guard := none }) (v := ?_) rfl (by kernel_rfl) (by kernel_rfl) (by kernel_rfl) (by kernel_rfl) (fun _ _ _ h => h) (Or.inl ⟨by rfl, ?_⟩) (fun _ => by assumption) ?_
  rotate_left
  · intro w hSw
    try dsimp only at hSw
    go_simp
    try with_reducible rfl
  try simp only [Act.put, List.setIfInBounds_toArray, List.set_cons_zero, List.set_cons_succ]
  refine wpAnyG_take (i := 1) (oi := { dst := some 29, op := Op.load 27 (Operand.tmp 4), type := 27, pos := _, after := #[], guard := none }) (v := ?_) rfl (by kernel_rfl) (by kernel_rfl) (by kernel_rfl) (by kernel_rfl) (fun _ _ _ h => h) (Or.inl ⟨by rfl, ?_⟩) (by assumption) ?_
  rotate_left
  · intro w hSw
    try dsimp only at hSw
    obtain ⟨⟨c0, c1, c2⟩, _⟩ := cells3 hSw.1
    go_simp
    try with_reducible rfl
  try simp only [Act.put, List.setIfInBounds_toArray, List.set_cons_zero, List.set_cons_succ]
  refine wpAnyG_take (i := 3) (oi := { dst := some 31, op := Op.load 27 (Operand.tmp 8), type := 27, pos := _, after := #[], guard := none }) (v := ?_) rfl (by kernel_rfl) (by kernel_rfl) (by kernel_rfl) (by kernel_rfl) (fun _ _ _ h => h) (Or.inl ⟨by rfl, ?_⟩) (by assumption) ?_
  rotate_left
  · intro w hSw
    try dsimp only at hSw
    obtain ⟨⟨c0, c1, c2⟩, _⟩ := cells3 hSw.2
    go_simp
    try with_reducible rfl
  try simp only [Act.put, List.setIfInBounds_toArray, List.set_cons_zero, List.set_cons_succ]
  refine wpAnyG_pure (i := 5) (oi := { dst := some 33, op := Op.fieldAddr 27 (Operand.tmp 4) 1, type := 0, pos := _, after := #[], guard := none }) (v := ?_) rfl (by kernel_rfl) (by kernel_rfl) (by kernel_rfl) (by kernel_rfl) (fun _ _ _ h => h) (Or.inl ⟨by rfl, ?_⟩) (fun _ => by assumption) ?_
  rotate_left
  · intro w hSw
    try dsimp only at hSw
    go_simp
    try with_reducible rfl
  try simp only [Act.put, List.setIfInBounds_toArray, List.set_cons_zero, List.set_cons_succ]
  refine wpAnyG_take (i := 6) (oi := { dst := some 34, op := Op.load 3 (Operand.tmp 33), type := 3, pos := _, after := #[{ on := 5, ground := Ground.data }], guard := none }) (v := ?_) rfl (by kernel_rfl) (by kernel_rfl) (by kernel_rfl) (by kernel_rfl) (fun _ _ _ h => h) (Or.inl ⟨by rfl, ?_⟩) (by assumption) ?_
  rotate_left
  · intro w hSw
    try dsimp only at hSw
    obtain ⟨⟨c0, c1, c2⟩, _⟩ := cells3 hSw.1
    go_simp
    try with_reducible rfl
  try simp only [Act.put, List.setIfInBounds_toArray, List.set_cons_zero, List.set_cons_succ]
  refine wpAnyG_one (i := 2) (o := { dst := some 30, op := Op.call { callee := Callee.value (Operand.func 47), args := #[Operand.tmp 29], argTypes := #[27] }, type := 27, pos := _, after := #[{ on := 1, ground := Ground.data }], guard := none }) (by kernel_rfl) rfl (fun K hK => ?_)
  go_simp
  have hb4 := next H4.out.1.below (nextN (Mem.start w4) 1)
  refine (own_any _ _ _ A (flat r c a) n cap (by rw [flat_len]; exact HN.out.symm) (by have := HN.out; have := HL.out; omega) ((HAA.out.1.below hb4).up hb4.size)).mono ?_
  rintro e w5 ⟨XA, ca, rfl, ho, hb⟩
  rw [flat_len]
  have H5 := Lib.hid (And.intro (show Mem.Own w5 w4.heap.size 5 XA ca ((flat r c a).map u8v) from ho) (And.intro (H4.out.1.keep (next (nextN (Mem.start w4) 1) hb)) (And.intro (H4.out.2.1.keep (next (nextN (Mem.start w4) 1) hb)) (H4.out.2.2.1.keep (next (nextN (Mem.start w4) 1) hb)))))
  clear ho hb4
  try dsimp only
  refine hK.out _ _ ?_ (fun hHeld => ?_)
  · intro _
    try dsimp only
    exact ⟨hHeld.1.keep hb, hHeld.2.keep hb⟩
  clear hK K
  try simp only [Act.put, List.setIfInBounds_toArray, List.set_cons_zero, List.set_cons_succ]
  have hHeld := hHeld (by kernel_rfl)
  refine wpAnyG_one (i := 4) (o := { dst := some 32, op := Op.call { callee := Callee.value (Operand.func 46), args := #[Operand.tmp 28, Operand.tmp 30, Operand.tmp 31], argTypes := #[24, 27, 27] }, type := 3, pos := _, after := #[{ on := 0, ground := Ground.data }, { on := 2, ground := Ground.data }, { on := 3, ground := Ground.data }, { on := 2, ground := Ground.chain }], guard := none }) (by kernel_rfl) rfl (fun K hK => ?_)
  clear hb
  go_simp
  have hap := solve_apart (X := X) (XA := XA) HP.out.lt (show w.heap.size ≤ wB.heap.size from H2.out.below.size) (fun k h => ⟨(own_bk H3.out.2 h).1, by have := (own_bk H3.out.2 h).2; have := HGX.out; omega⟩) (fun k h => by have := (own_bk H5.out.1 h).1; have := H4.out.2.2.2; omega) HSX.out
  refine (reduce_any w5 p (HP.out.keep H5.out.2.1.below) r c d (by have := HRD.out; omega) XA X (r * c) (r * d) ca cx rfl rfl a b (Own.down H5.out.1 (Nat.zero_le _)) (Own.down H5.out.2.2.1 (Nat.zero_le _)) ⟨hap.1, hap.2.1⟩).mono ?_
  rintro e w6 ⟨rfl, _, hx6, hF6, hf6⟩
  have H6 := Lib.hid (And.intro hx6 (And.intro hF6 hf6))
  have HAP := Lib.hid hap.2.2
  clear hap hx6 hF6
  try dsimp only
  refine hK.out _ _ ?_ (fun hHeld => ?_)
  · intro _
    try dsimp only
    have hn := H2.out.nums
    have hpl := HP.out.lt
    have hxl := HGX.out
    have hsx := H3.out.1.nums
    have hszx : wB.heap.size ≤ gx := HSX.out
    exact ⟨hHeld.1.fr hf6 (fun hs => by have := HAP.out _ hs; omega), hHeld.2.fr hf6 (fun hs => by have := HAP.out _ hs; omega)⟩
  clear hK K
  try simp only [Act.put, List.setIfInBounds_toArray, List.set_cons_zero, List.set_cons_succ]
  have hHeld := hHeld (by kernel_rfl)
  refine wpAnyG_pure (i := 7) (oi := { dst := some 35, op := Op.binOp BinOp.lss 3 (Operand.tmp 32) (Operand.tmp 34) 3, type := 4, pos := _, after := #[{ on := 4, ground := Ground.data }, { on := 6, ground := Ground.data }], guard := none }) (v := ?_) rfl (by kernel_rfl) (by kernel_rfl) (by kernel_rfl) (by kernel_rfl) (fun _ _ _ h => h) (Or.inl ⟨by rfl, ?_⟩) (fun _ => by assumption) ?_
  rotate_left
  · intro w hSw
    try dsimp only at hSw
    go_simp
    try with_reducible rfl
  try simp only [Act.put, List.setIfInBounds_toArray, List.set_cons_zero, List.set_cons_succ]
  refine wpAnyG_done (by kernel_rfl) ?_ _
  refine NoPanic.normal ?_
  --END solve_yesr
  have hf7 : Fr (fun k => k = p) w w6 := (Fr.quiet (S := fun k => k = p) H5.out.2.1.below).trans H6.out.2.2 fun k hk hs => by
    have h1 := HAP.out k hs
    have h2 := H2.out.below.size
    omega
  have hn := H2.out.nums
  have hpl := HP.out.lt
  have hgr := HG.out
  have hsx := HSX.out
  have hne : ∀ k, k ≠ p → (k < wB.heap.size ∨ k = gx) → ¬ RS' XA X p k := fun k h1 h2 hs => by have := HAP.out k hs; omega
  have H7 := Lib.hid (show Blk w6 ga 27 (mcells r c A n cap) ∧ Blk w6 (ga + 1) 27 (mcells r d A' n' cap') ∧ Blk w6 (ga + 1 + 1) 27 zmx ∧ Blk w6 gx 27 (mcells r d X (r * d) cx) ∧ Fr (fun k => k = p) w w6 from
    ⟨H5.out.2.1.a.fr H6.out.2.2 (hne _ (by omega) (by omega)), H5.out.2.1.b.fr H6.out.2.2 (hne _ (by omega) (by omega)), H5.out.2.1.res.fr H6.out.2.2 (hne _ (by omega) (by omega)), H5.out.2.2.2.fr H6.out.2.2 (hne _ (by omega) (by omega)), hf7⟩)
  clear hf7 hn hpl hgr hsx hne hf6
  obtain ⟨L, hL⟩ : ∃ L, r * d = L := ⟨_, rfl⟩
  obtain ⟨q, hq⟩ : ∃ q, c * d = q := ⟨_, rfl⟩
  have hqi : (c : Int) * (d : Int) = (q : Int) := by rw [← hq]; simp
  have hqL : q ≤ L := by
    have h1 := redTo_at (A := a) (B := b) (r := r) c
    rw [HK.out] at h1
    rw [← hq, ← hL]
    exact Nat.mul_le_mul_right d h1.1
  have hLc : L ≤ cx := by rw [← hL]; exact H6.out.1.le
  have hL9 : L ≤ 10000 := by rw [← hL]; exact HL.out.2.1
  have hh7 := H7.out
  rw [hL] at hh7 ⊢
  have H7L := Lib.hid hh7
  have H6L := Lib.hid (show Bytes w6 w6.heap.size X (flat r d (redTo r a b c).B) ∧ (flat r d (redTo r a b c).B).length = L ∧ (flat c d (redTo r a b c).B) = (flat r d (redTo r a b c).B).take q from
    ⟨Own.bytes H6.out.1, by rw [flat_len, hL], by rw [← hq]; exact flat_take (by have h1 := redTo_at (A := a) (B := b) (r := r) c; rw [HK.out] at h1; exact h1.1)⟩)
  have hq0 : (0 : Int) ≤ (q : Int) := by omega
  have hqLi : (q : Int) ≤ (L : Int) := by omega
  have hLci : (L : Int) ≤ (cx : Int) := by omega
  have hqc : (q : Int) ≤ (cx : Int) := by omega
  have hq9 : (q : Int) ≤ 10000 := by omega
  have hw1 : wrap64 (q : Int) = (q : Int) := by unfold wrap64; omega
  have HQ := Lib.hid (And.intro hq (And.intro hqL (And.intro hLc hL9)))
  have hkk : ¬ (redTo r a b c).at_ < c := by rw [HK.out]; exact Nat.lt_irrefl _
  obtain ⟨⟨a0, a1, a2⟩, _⟩ := cells3 H7L.out.1
  obtain ⟨⟨b0, b1, b2⟩, _⟩ := cells3 H7L.out.2.1
  obtain ⟨⟨x0, x1, x2⟩, _⟩ := cells3 H7L.out.2.2.2.1
  clear hL hq hqL hLc hL9 hh7 H7
  by_cases hcx : q < cx
  · have HCX := Lib.hid hcx
    have hcn : ¬ cx = q := by omega
    clear hcx
    go_wp2_with fail
    refine (contains_any w6 _ ((flat r d (redTo r a b c).B).drop q) (L - q) (cx - q) (by rw [List.length_drop, H6L.out.2.1]) (by have := HQ.out; omega) (rest_bytes H6.out.1 HCX.out)).mono ?_
    rintro e w' ⟨rfl, rfl⟩
    rw [show anyNz ((flat r d (redTo r a b c).B).drop q) = false from by rw [← HQ.out.1]; exact HZ.out]
    go_wp2_with fail
    --HELD solve_yes19
    refine wp_region_noPanic ?_
    refine wp_heldG (fun w' => Blk w' ga 27 (mcells r c A n cap) ∧ Blk w' (ga + 1) 27 (mcells r d A' n' cap') ∧ Blk w' gx 27 (mcells r d X L cx)) [10] (by kernel_rfl) ?hs0 ?rg0
    case hs0 =>
      exact ⟨H7L.out.1, H7L.out.2.1, H7L.out.2.2.2.1⟩
    case rg0 =>
    intro hHeld
    refine wpAnyG_pure (i := 0) (oi := { dst := some 48, op := Op.fieldAddr 27 (Operand.tmp 4) 1, type := 0, pos := _, after := #[], guard := none }) (v := ?_) rfl (by kernel_rfl) (by kernel_rfl) (by kernel_rfl) (by kernel_rfl) (fun _ _ _ h => h) (Or.inl ⟨by rfl, ?_⟩) (fun _ => by assumption) ?_
    rotate_left
    · intro w hSw
      try dsimp only at hSw
      go_simp
      try with_reducible rfl
    try simp only [Act.put, List.setIfInBounds_toArray, List.set_cons_zero, List.set_cons_succ]
    refine wpAnyG_take (i := 1) (oi := { dst := some 49, op := Op.load 3 (Operand.tmp 48), type := 3, pos := _, after := #[{ on := 0, ground := Ground.data }], guard := none }) (v := ?_) rfl (by kernel_rfl) (by kernel_rfl) (by kernel_rfl) (by kernel_rfl) (fun _ _ _ h => h) (Or.inl ⟨by rfl, ?_⟩) (by assumption) ?_
    rotate_left
    · intro w hSw
      try dsimp only at hSw
      obtain ⟨⟨c0, c1, c2⟩, _⟩ := cells3 hSw.1
      go_simp
      try with_reducible rfl
    try simp only [Act.put, List.setIfInBounds_toArray, List.set_cons_zero, List.set_cons_succ]
    refine wpAnyG_pure (i := 2) (oi := { dst := some 50, op := Op.fieldAddr 27 (Operand.tmp 5) 1, type := 0, pos := _, after := #[], guard := none }) (v := ?_) rfl (by kernel_rfl) (by kernel_rfl) (by kernel_rfl) (by kernel_rfl) (fun _ _ _ h => h) (Or.inl ⟨by rfl, ?_⟩) (fun _ => by assumption) ?_
    rotate_left
    · intro w hSw
      try dsimp only at hSw
      go_simp
      try with_reducible rfl
    try simp only [Act.put, List.setIfInBounds_toArray, List.set_cons_zero, List.set_cons_succ]
    refine wpAnyG_take (i := 3) (oi := { dst := some 51, op := Op.load 3 (Operand.tmp 50), type := 3, pos := _, after := #[{ on := 2, ground := Ground.data }], guard := none }) (v := ?_) rfl (by kernel_rfl) (by kernel_rfl) (by kernel_rfl) (by kernel_rfl) (fun _ _ _ h => h) (Or.inl ⟨by rfl, ?_⟩) (by assumption) ?_
    rotate_left
    · intro w hSw
      try dsimp only at hSw
      obtain ⟨⟨c0, c1, c2⟩, _⟩ := cells3 hSw.2.1
      go_simp
      try with_reducible rfl
    try simp only [Act.put, List.setIfInBounds_toArray, List.set_cons_zero, List.set_cons_succ]
    refine wpAnyG_pure (i := 4) (oi := { dst := some 52, op := Op.fieldAddr 27 (Operand.tmp 8) 2, type := 0, pos := _, after := #[], guard := none }) (v := ?_) rfl (by kernel_rfl) (by kernel_rfl) (by kernel_rfl) (by kernel_rfl) (fun _ _ _ h => h) (Or.inl ⟨by rfl, ?_⟩) (fun _ => by assumption) ?_
    rotate_left
    · intro w hSw
      try dsimp only at hSw
      go_simp
      try with_reducible rfl
    try simp only [Act.put, List.setIfInBounds_toArray, List.set_cons_zero, List.set_cons_succ]
    refine wpAnyG_take (i := 5) (oi := { dst := some 53, op := Op.load 22 (Operand.tmp 52), type := 22, pos := _, after := #[{ on := 4, ground := Ground.data }], guard := none }) (v := ?_) rfl (by kernel_rfl) (by kernel_rfl) (by kernel_rfl) (by kernel_rfl) (fun _ _ _ h => h) (Or.inl ⟨by rfl, ?_⟩) (by assumption) ?_
    rotate_left
    · intro w hSw
      try dsimp only at hSw
      obtain ⟨⟨c0, c1, c2⟩, _⟩ := cells3 hSw.2.2
      go_simp
      try with_reducible rfl
    try simp only [Act.put, List.setIfInBounds_toArray, List.set_cons_zero, List.set_cons_succ]
    refine wpAnyG_pure (i := 6) (oi := { dst := some 54, op := Op.move (Operand.tmp 9), type := 3, pos := _, after := #[], guard := none }) (v := ?_) rfl (by kernel_rfl) (by kernel_rfl) (by kernel_rfl) (by kernel_rfl) (fun _ _ _ h => h) (Or.inl ⟨by rfl, ?_⟩) (fun _ => by assumption) ?_
    rotate_left
    · intro w hSw
      try dsimp only at hSw
      go_simp
      try with_reducible rfl
    try simp only [Act.put, List.setIfInBounds_toArray, List.set_cons_zero, List.set_cons_succ]
    refine wpAnyG_pure (i := 7) (oi := { dst := some 55, op := Op.move (Operand.tmp 9), type := 3, pos := _, after := #[], guard := none }) (v := ?_) rfl (by kernel_rfl) (by kernel_rfl) (by kernel_rfl) (by kernel_rfl) (fun _ _ _ h => h) (Or.inl ⟨by rfl, ?_⟩) (fun _ => by assumption) ?_
    rotate_left
    · intro w hSw
      try dsimp only at hSw
      go_simp
      try with_reducible rfl
    try simp only [Act.put, List.setIfInBounds_toArray, List.set_cons_zero, List.set_cons_succ]
    refine wpAnyG_pure (i := 8) (oi := { dst := some 56, op := Op.slice 22 (Operand.tmp 53) none (some (Operand.tmp 54)) (some (Operand.tmp 55)), type := 22, pos := _, after := #[{ on := 5, ground := Ground.data }, { on := 6, ground := Ground.data }, { on := 7, ground := Ground.data }], guard := none }) (v := ?_) rfl (by kernel_rfl) (by kernel_rfl) (by kernel_rfl) (by kernel_rfl) (fun _ _ _ h => h) (Or.inl ⟨by rfl, ?_⟩) (fun _ => by assumption) ?_
    rotate_left
    · intro w hSw
      try dsimp only at hSw
      go_simp
      try with_reducible rfl
    try simp only [Act.put, List.setIfInBounds_toArray, List.set_cons_zero, List.set_cons_succ]
    refine wpAnyG_pure (i := 9) (oi := { dst := some 57, op := Op.build 27 #[(0, Operand.tmp 49), (1, Operand.tmp 51), (2, Operand.tmp 56)], type := 27, pos := _, after := #[{ on := 1, ground := Ground.data }, { on := 3, ground := Ground.data }, { on := 8, ground := Ground.data }], guard := none }) (v := ?_) rfl (by kernel_rfl) (by kernel_rfl) (by kernel_rfl) (by kernel_rfl) (fun _ _ _ h => h) (Or.inl ⟨by rfl, ?_⟩) (fun _ => by assumption) ?_
    rotate_left
    · intro w hSw
      try dsimp only at hSw
      go_simp
      try with_reducible rfl
    try simp only [Act.put, List.setIfInBounds_toArray, List.set_cons_zero, List.set_cons_succ]
    refine wpAnyG_one (i := 10) (o := { dst := none, op := Op.store 27 (Operand.tmp 6) (Operand.tmp 57), type := 0, pos := _, after := #[{ on := 9, ground := Ground.data }, { on := 0, ground := Ground.phase }, { on := 1, ground := Ground.phase }, { on := 2, ground := Ground.phase }, { on := 3, ground := Ground.phase }, { on := 4, ground := Ground.phase }, { on := 5, ground := Ground.phase }, { on := 6, ground := Ground.phase }, { on := 7, ground := Ground.phase }, { on := 8, ground := Ground.phase }, { on := 9, ground := Ground.phase }], guard := none }) (by kernel_rfl) rfl (fun K hK => ?_)
    obtain ⟨⟨d0, d1, d2⟩, f0, f1, f2⟩ := cells3 H7L.out.2.2.1
    go_simp
    try dsimp only
    refine hK.out _ _ ?_ (fun hHeld => ?_)
    · exact fun h => (st_no (by kernel_rfl) h).elim
    clear hK K
    try simp only [Act.put, List.setIfInBounds_toArray, List.set_cons_zero, List.set_cons_succ]
    clear hHeld
    refine wpAnyG_pure (i := 11) (oi := { dst := some 7, op := Op.assign (Operand.const (Value.int IntKind.i64 0)), type := 29, pos := _, after := #[{ on := 10, ground := Ground.chain }, { on := 0, ground := Ground.phase }, { on := 1, ground := Ground.phase }, { on := 2, ground := Ground.phase }, { on := 3, ground := Ground.phase }, { on := 4, ground := Ground.phase }, { on := 5, ground := Ground.phase }, { on := 6, ground := Ground.phase }, { on := 7, ground := Ground.phase }, { on := 8, ground := Ground.phase }, { on := 9, ground := Ground.phase }, { on := 10, ground := Ground.phase }], guard := none }) (v := ?_) rfl (by kernel_rfl) (by kernel_rfl) (by kernel_rfl) (by kernel_rfl) (fun _ _ _ h => h) (Or.inl ⟨by rfl, ?_⟩) (fun h => (st_no (by kernel_rfl) h).elim) ?_
    rotate_left
    · intro w hSw
      try dsimp only at hSw
      go_simp
      try with_reducible rfl
    try simp only [Act.put, List.setIfInBounds_toArray, List.set_cons_zero, List.set_cons_succ]
    refine wpAnyG_done (by kernel_rfl) ?_ _
    refine NoPanic.normal ?_
    --END solve_yes19
    have h3 := set3 H7L.out.2.2.1 (.int .i64 (c : Int)) (.int .i64 (d : Int)) (.slice X q q)
    obtain ⟨w29, hw29⟩ : ∃ x : World, ((w6.setCell ⟨ga + 1 + 1, 0, none⟩ (.int .i64 (c : Int))).setCell ⟨ga + 1 + 1, 1, none⟩ (.int .i64 (d : Int))).setCell ⟨ga + 1 + 1, 2, none⟩ (.slice X q q) = x := ⟨_, rfl⟩
    rw [hw29] at h3 ⊢
    obtain ⟨⟨e0, e1, e2⟩, _⟩ := cells3 h3.1
    have H3R := Lib.hid h3
    clear h3 hw29
    go_wp2_with fail
    refine bodyPost_ret (v := .tuple #[.agg #[.int .i64 (c : Int), .int .i64 (d : Int), .slice X q q], .int .i64 0]) (by simp [results, Try.results21, go_sem, e0, e1, e2]) rfl ?_
    have hxo := fun k (h : Bk X k) => (own_bk H3.out.2 h).1
    have hn := H2.out.nums
    have hsz := H2.out.below.size
    have hbd := nextN (Mem.start w29) 1
    have hwo := (H6.out.1.fr H3R.out.2 (fun g e1 e2 => by have := hxo g e1; omega)).keep hbd
    refine ⟨X, q, by rw [HQ.out.1], by rw [HQ.out.1]; exact Nat.le_refl _, ⟨?_, fun b o e hl => ?_⟩, (H6.out.2.1.fr H3R.out.2 (by have := HG.out; have := HP.out.lt; omega)).keep hbd, (H7L.out.2.2.2.2.trans H3R.out.2 fun k hk e => by have := HG.out; omega).trans (Fr.quiet (S := fun _ => False) hbd) fun _ _ h => h.elim⟩
    · rw [H6L.out.2.2]; exact head_bytes hwo q
    · rcases Own.form H3.out.2 with ⟨e3, _⟩ | ⟨g', e3, hb, _⟩
      · rw [e] at e3; cases e3
      · rw [e] at e3; injection e3 with e3; have := congrArg Addr.block e3; dsimp only at this; omega
  · replace hcx : q = cx := by omega
    subst hcx
    have hLq : L = q := by have := HQ.out; omega
    subst hLq
    clear hqLi hLci hqc hw1
    go_wp2_with fail
    refine (contains_any w6 _ [] 0 0 rfl (by decide) Bytes.nil).mono ?_
    rintro e w' ⟨rfl, rfl⟩
    rw [show anyNz [] = false from rfl]
    go_wp2_with fail
    --HELD solve_yes09
    refine wp_region_noPanic ?_
    refine wp_heldG (fun w' => Blk w' ga 27 (mcells r c A n cap) ∧ Blk w' (ga + 1) 27 (mcells r d A' n' cap') ∧ Blk w' gx 27 (mcells r d X L L)) [10] (by kernel_rfl) ?hs0 ?rg0
    case hs0 =>
      exact ⟨H7L.out.1, H7L.out.2.1, H7L.out.2.2.2.1⟩
    case rg0 =>
    intro hHeld
    refine wpAnyG_pure (i := 0) (oi := { dst := some 48, op := Op.fieldAddr 27 (Operand.tmp 4) 1, type := 0, pos := _, after := #[], guard := none }) (v := ?_) rfl (by kernel_rfl) (by kernel_rfl) (by kernel_rfl) (by kernel_rfl) (fun _ _ _ h => h) (Or.inl ⟨by rfl, ?_⟩) (fun _ => by assumption) ?_
    rotate_left
    · intro w hSw
      try dsimp only at hSw
      go_simp
      try with_reducible rfl
    try simp only [Act.put, List.setIfInBounds_toArray, List.set_cons_zero, List.set_cons_succ]
    refine wpAnyG_take (i := 1) (oi := { dst := some 49, op := Op.load 3 (Operand.tmp 48), type := 3, pos := _, after := #[{ on := 0, ground := Ground.data }], guard := none }) (v := ?_) rfl (by kernel_rfl) (by kernel_rfl) (by kernel_rfl) (by kernel_rfl) (fun _ _ _ h => h) (Or.inl ⟨by rfl, ?_⟩) (by assumption) ?_
    rotate_left
    · intro w hSw
      try dsimp only at hSw
      obtain ⟨⟨c0, c1, c2⟩, _⟩ := cells3 hSw.1
      go_simp
      try with_reducible rfl
    try simp only [Act.put, List.setIfInBounds_toArray, List.set_cons_zero, List.set_cons_succ]
    refine wpAnyG_pure (i := 2) (oi := { dst := some 50, op := Op.fieldAddr 27 (Operand.tmp 5) 1, type := 0, pos := _, after := #[], guard := none }) (v := ?_) rfl (by kernel_rfl) (by kernel_rfl) (by kernel_rfl) (by kernel_rfl) (fun _ _ _ h => h) (Or.inl ⟨by rfl, ?_⟩) (fun _ => by assumption) ?_
    rotate_left
    · intro w hSw
      try dsimp only at hSw
      go_simp
      try with_reducible rfl
    try simp only [Act.put, List.setIfInBounds_toArray, List.set_cons_zero, List.set_cons_succ]
    refine wpAnyG_take (i := 3) (oi := { dst := some 51, op := Op.load 3 (Operand.tmp 50), type := 3, pos := _, after := #[{ on := 2, ground := Ground.data }], guard := none }) (v := ?_) rfl (by kernel_rfl) (by kernel_rfl) (by kernel_rfl) (by kernel_rfl) (fun _ _ _ h => h) (Or.inl ⟨by rfl, ?_⟩) (by assumption) ?_
    rotate_left
    · intro w hSw
      try dsimp only at hSw
      obtain ⟨⟨c0, c1, c2⟩, _⟩ := cells3 hSw.2.1
      go_simp
      try with_reducible rfl
    try simp only [Act.put, List.setIfInBounds_toArray, List.set_cons_zero, List.set_cons_succ]
    refine wpAnyG_pure (i := 4) (oi := { dst := some 52, op := Op.fieldAddr 27 (Operand.tmp 8) 2, type := 0, pos := _, after := #[], guard := none }) (v := ?_) rfl (by kernel_rfl) (by kernel_rfl) (by kernel_rfl) (by kernel_rfl) (fun _ _ _ h => h) (Or.inl ⟨by rfl, ?_⟩) (fun _ => by assumption) ?_
    rotate_left
    · intro w hSw
      try dsimp only at hSw
      go_simp
      try with_reducible rfl
    try simp only [Act.put, List.setIfInBounds_toArray, List.set_cons_zero, List.set_cons_succ]
    refine wpAnyG_take (i := 5) (oi := { dst := some 53, op := Op.load 22 (Operand.tmp 52), type := 22, pos := _, after := #[{ on := 4, ground := Ground.data }], guard := none }) (v := ?_) rfl (by kernel_rfl) (by kernel_rfl) (by kernel_rfl) (by kernel_rfl) (fun _ _ _ h => h) (Or.inl ⟨by rfl, ?_⟩) (by assumption) ?_
    rotate_left
    · intro w hSw
      try dsimp only at hSw
      obtain ⟨⟨c0, c1, c2⟩, _⟩ := cells3 hSw.2.2
      go_simp
      try with_reducible rfl
    try simp only [Act.put, List.setIfInBounds_toArray, List.set_cons_zero, List.set_cons_succ]
    refine wpAnyG_pure (i := 6) (oi := { dst := some 54, op := Op.move (Operand.tmp 9), type := 3, pos := _, after := #[], guard := none }) (v := ?_) rfl (by kernel_rfl) (by kernel_rfl) (by kernel_rfl) (by kernel_rfl) (fun _ _ _ h => h) (Or.inl ⟨by rfl, ?_⟩) (fun _ => by assumption) ?_
    rotate_left
    · intro w hSw
      try dsimp only at hSw
      go_simp
      try with_reducible rfl
    try simp only [Act.put, List.setIfInBounds_toArray, List.set_cons_zero, List.set_cons_succ]
    refine wpAnyG_pure (i := 7) (oi := { dst := some 55, op := Op.move (Operand.tmp 9), type := 3, pos := _, after := #[], guard := none }) (v := ?_) rfl (by kernel_rfl) (by kernel_rfl) (by kernel_rfl) (by kernel_rfl) (fun _ _ _ h => h) (Or.inl ⟨by rfl, ?_⟩) (fun _ => by assumption) ?_
    rotate_left
    · intro w hSw
      try dsimp only at hSw
      go_simp
      try with_reducible rfl
    try simp only [Act.put, List.setIfInBounds_toArray, List.set_cons_zero, List.set_cons_succ]
    refine wpAnyG_pure (i := 8) (oi := { dst := some 56, op := Op.slice 22 (Operand.tmp 53) none (some (Operand.tmp 54)) (some (Operand.tmp 55)), type := 22, pos := _, after := #[{ on := 5, ground := Ground.data }, { on := 6, ground := Ground.data }, { on := 7, ground := Ground.data }], guard := none }) (v := ?_) rfl (by kernel_rfl) (by kernel_rfl) (by kernel_rfl) (by kernel_rfl) (fun _ _ _ h => h) (Or.inl ⟨by rfl, ?_⟩) (fun _ => by assumption) ?_
    rotate_left
    · intro w hSw
      try dsimp only at hSw
      go_simp
      try with_reducible rfl
    try simp only [Act.put, List.setIfInBounds_toArray, List.set_cons_zero, List.set_cons_succ]
    refine wpAnyG_pure (i := 9) (oi := { dst := some 57, op := Op.build 27 #[(0, Operand.tmp 49), (1, Operand.tmp 51), (2, Operand.tmp 56)], type := 27, pos := _, after := #[{ on := 1, ground := Ground.data }, { on := 3, ground := Ground.data }, { on := 8, ground := Ground.data }], guard := none }) (v := ?_) rfl (by kernel_rfl) (by kernel_rfl) (by kernel_rfl) (by kernel_rfl) (fun _ _ _ h => h) (Or.inl ⟨by rfl, ?_⟩) (fun _ => by assumption) ?_
    rotate_left
    · intro w hSw
      try dsimp only at hSw
      go_simp
      try with_reducible rfl
    try simp only [Act.put, List.setIfInBounds_toArray, List.set_cons_zero, List.set_cons_succ]
    refine wpAnyG_one (i := 10) (o := { dst := none, op := Op.store 27 (Operand.tmp 6) (Operand.tmp 57), type := 0, pos := _, after := #[{ on := 9, ground := Ground.data }, { on := 0, ground := Ground.phase }, { on := 1, ground := Ground.phase }, { on := 2, ground := Ground.phase }, { on := 3, ground := Ground.phase }, { on := 4, ground := Ground.phase }, { on := 5, ground := Ground.phase }, { on := 6, ground := Ground.phase }, { on := 7, ground := Ground.phase }, { on := 8, ground := Ground.phase }, { on := 9, ground := Ground.phase }], guard := none }) (by kernel_rfl) rfl (fun K hK => ?_)
    obtain ⟨⟨d0, d1, d2⟩, f0, f1, f2⟩ := cells3 H7L.out.2.2.1
    go_simp
    try dsimp only
    refine hK.out _ _ ?_ (fun hHeld => ?_)
    · exact fun h => (st_no (by kernel_rfl) h).elim
    clear hK K
    try simp only [Act.put, List.setIfInBounds_toArray, List.set_cons_zero, List.set_cons_succ]
    clear hHeld
    refine wpAnyG_pure (i := 11) (oi := { dst := some 7, op := Op.assign (Operand.const (Value.int IntKind.i64 0)), type := 29, pos := _, after := #[{ on := 10, ground := Ground.chain }, { on := 0, ground := Ground.phase }, { on := 1, ground := Ground.phase }, { on := 2, ground := Ground.phase }, { on := 3, ground := Ground.phase }, { on := 4, ground := Ground.phase }, { on := 5, ground := Ground.phase }, { on := 6, ground := Ground.phase }, { on := 7, ground := Ground.phase }, { on := 8, ground := Ground.phase }, { on := 9, ground := Ground.phase }, { on := 10, ground := Ground.phase }], guard := none }) (v := ?_) rfl (by kernel_rfl) (by kernel_rfl) (by kernel_rfl) (by kernel_rfl) (fun _ _ _ h => h) (Or.inl ⟨by rfl, ?_⟩) (fun h => (st_no (by kernel_rfl) h).elim) ?_
    rotate_left
    · intro w hSw
      try dsimp only at hSw
      go_simp
      try with_reducible rfl
    try simp only [Act.put, List.setIfInBounds_toArray, List.set_cons_zero, List.set_cons_succ]
    refine wpAnyG_done (by kernel_rfl) ?_ _
    refine NoPanic.normal ?_
    --END solve_yes09
    have h3 := set3 H7L.out.2.2.1 (.int .i64 (c : Int)) (.int .i64 (d : Int)) (.slice X L L)
    obtain ⟨w29, hw29⟩ : ∃ x : World, ((w6.setCell ⟨ga + 1 + 1, 0, none⟩ (.int .i64 (c : Int))).setCell ⟨ga + 1 + 1, 1, none⟩ (.int .i64 (d : Int))).setCell ⟨ga + 1 + 1, 2, none⟩ (.slice X L L) = x := ⟨_, rfl⟩
    rw [hw29] at h3 ⊢
    obtain ⟨⟨e0, e1, e2⟩, _⟩ := cells3 h3.1
    have H3R := Lib.hid h3
    clear h3 hw29
    go_wp2_with fail
    refine bodyPost_ret (v := .tuple #[.agg #[.int .i64 (c : Int), .int .i64 (d : Int), .slice X L L], .int .i64 0]) (by simp [results, Try.results21, go_sem, e0, e1, e2]) rfl ?_
    have hxo := fun k (h : Bk X k) => (own_bk H3.out.2 h).1
    have hn := H2.out.nums
    have hsz := H2.out.below.size
    have hbd := nextN (Mem.start w29) 1
    have hwo := (H6.out.1.fr H3R.out.2 (fun g e1 e2 => by have := hxo g e1; omega)).keep hbd
    refine ⟨X, L, by rw [HQ.out.1], by rw [HQ.out.1]; exact Nat.le_refl _, ⟨?_, fun b o e hl => ?_⟩, (H6.out.2.1.fr H3R.out.2 (by have := HG.out; have := HP.out.lt; omega)).keep hbd, (H7L.out.2.2.2.2.trans H3R.out.2 fun k hk e => by have := HG.out; omega).trans (Fr.quiet (S := fun _ => False) hbd) fun _ _ h => h.elim⟩
    · rw [H6L.out.2.2]; exact head_bytes hwo L
    · rcases Own.form H3.out.2 with ⟨e3, _⟩ | ⟨g', e3, hb, _⟩
      · rw [e] at e3; cases e3
      · rw [e] at e3; injection e3 with e3; have := congrArg Addr.block e3; dsimp only at this; omega
/-- Does Solve refuse for its sizes? -/
def solB (R C : Int) (n : Nat) (R' C' : Int) (n' : Nat) : Bool := rightB R C n && rightB R' C' n' && R == R'
theorem solve_bad (w : World) (F : Value) (R C R' C' : Int) (A A' : Option Addr) (n cap n' cap' : Nat) (h : solB R C n R' C' n' = false) :
    Calls Try.prog 21 #[F, .agg #[.int .i64 R, .int .i64 C, .slice A n cap], .agg #[.int .i64 R', .int .i64 C', .slice A' n' cap']] w (ErrM w 50) := by
  cases h1 : rightB R C n with
  | false => exact solve_bad1 w F R C R' C' A A' n cap n' cap' h1
  | true =>
    cases h2 : rightB R' C' n' with
    | false => exact solve_bad2 w F R C R' C' A A' n cap n' cap' h1 h2
    | true =>
      refine solve_bad3 w F R C R' C' A A' n cap n' cap' h1 h2 ?_
      unfold solB at h
      rw [h1, h2] at h
      simpa using h
/-- Is there a solution? -/
def solves (r c d : Nat) (a b : M) : Bool := decide ((redTo r a b c).at_ = c) && !anyNz ((flat r d (redTo r a b c).B).drop (c * d))
theorem solve_no (w : World) (p : Nat) (hp : Fld w p) (r c d : Nat) (A A' : Option Addr) (n cap n' cap' : Nat) (a b : M) (hrt : rightB r c n = true) (hrt2 : rightB r d n' = true) (hrd : r ≤ 100 ∧ c ≤ 100 ∧ d ≤ 100) (hA : In w p A (flat r c a)) (hB : In w p A' (flat r d b)) (h : solves r c d a b = false) :
    Calls Try.prog 21 #[fptr (some p), .agg #[.int .i64 (r : Int), .int .i64 (c : Int), .slice A n cap], .agg #[.int .i64 (r : Int), .int .i64 (d : Int), .slice A' n' cap']] w (ErrF w p 51) := by
  have hat := redTo_at (A := a) (B := b) (r := r) c
  by_cases hk : (redTo r a b c).at_ = c
  · refine solve_no2 w p hp r c d A A' n cap n' cap' a b hrt hrt2 hrd hA hB hk ?_
    unfold solves at h
    rw [decide_eq_true hk] at h
    simpa using h
  · exact solve_no1 w p hp r c d A A' n cap n' cap' a b hrt hrt2 hrd hA hB (by omega)
theorem solve_ok (w : World) (p : Nat) (hp : Fld w p) (r c d : Nat) (A A' : Option Addr) (n cap n' cap' : Nat) (a b : M) (hrt : rightB r c n = true) (hrt2 : rightB r d n' = true) (hrd : r ≤ 100 ∧ c ≤ 100 ∧ d ≤ 100) (hA : In w p A (flat r c a)) (hB : In w p A' (flat r d b)) (h : solves r c d a b = true) :
    Calls Try.prog 21 #[fptr (some p), .agg #[.int .i64 (r : Int), .int .i64 (c : Int), .slice A n cap], .agg #[.int .i64 (r : Int), .int .i64 (d : Int), .slice A' n' cap']] w (NewF w p c d (redTo r a b c).B) := by
  unfold solves at h
  rw [Bool.and_eq_true, decide_eq_true_iff, Bool.not_eq_true'] at h
  exact solve_yes w p hp r c d A A' n cap n' cap' a b hrt hrt2 hrd hA hB h.1 h.2
end Go.Proofs.Ythdapoipfnnaeaa.MxW
/- Inverse. -/
namespace Go.Proofs.Ythdapoipfnnaeaa.MxW
open Go.RowKit Go.Shelf Mem Gf FdW Mx Rng
open PlW (In)
set_option linter.unusedVariables false

set_option maxRecDepth 100000 in
set_option maxHeartbeats 1000000 in
theorem inv_bad (w : World) (F : Value) (R C : Int) (A : Option Addr) (n cap : Nat) (h : (rightB R C n && R == C) = false) : Calls Try.prog 15 #[F, .agg #[.int .i64 R, .int .i64 C, .slice A n cap]] w (ErrM w 50) := by
  obtain ⟨wa, ga, ha, hwa, hga⟩ := boxed w #[.int .i64 R, .int .i64 C, .slice A n cap]
  obtain ⟨w1, g0, h1, hw1, hg0⟩ := boxed wa zmx
  have HWA := Lib.hid hwa
  have HW1 := Lib.hid (show wa.alloc (.cells #[.int .i64 0, .int .i64 0, .slice none 0 0] 27) = w1 from hw1)
  have hg1 : g0 = ga + 1 := by have := ha.2.2; omega
  have H1 := Lib.hid (show Below w.heap.size w w1 ∧ Blk w1 ga 27 #[.int .i64 R, .int .i64 C, .slice A n cap] ∧ Blk w1 g0 27 zmx ∧ w.heap.size ≤ g0 from ⟨next ha.1 h1.1, ha.2.1.keep h1.1, h1.2.1, by omega⟩)
  have HG := Lib.hid (And.intro hga hg1.symm)
  have fin : ∀ (W : World), Below w.heap.size w W → Blk W g0 27 zmx → w.heap.size ≤ g0 → Blk (((W.setCell ⟨g0, 0, none⟩ (.int .i64 0)).setCell ⟨g0, 1, none⟩ (.int .i64 0)).setCell ⟨g0, 2, none⟩ (.slice none 0 0)) g0 27 zmx ∧ Below w.heap.size w (((W.setCell ⟨g0, 0, none⟩ (.int .i64 0)).setCell ⟨g0, 1, none⟩ (.int .i64 0)).setCell ⟨g0, 2, none⟩ (.slice none 0 0)) := fun W hb hB hl => by
    have h3 := set3 hB (.int .i64 0) (.int .i64 0) (.slice none 0 0)
    exact ⟨h3.1, hb.trans (h3.2.below hb.size fun k e => by rw [e]; exact hl)⟩
  have FIN := Lib.hid fin
  clear ha hwa hga h1 hw1 hg0 hg1 fin
  cases hrt : rightB R C n with
  | false =>
    have HRT := Lib.hid hrt
    clear h hrt
    go_enter Try.func15, Try.ntmps15
    go_wp2_with fail
    rw [HWA.out, HW1.out, HG.out.1, HG.out.2]
    refine (right_any w1 _ _ A n cap).mono ?_
    rintro e w2 ⟨rfl, hb⟩
    rw [HRT.out]
    have H2 := Lib.hid (And.intro (next H1.out.1 hb) (H1.out.2.2.1.keep hb))
    obtain ⟨⟨d0, d1, d2⟩, f0, f1, f2⟩ := cells3 H2.out.2
    clear hb
    go_wp2_with fail
    have h3 := FIN.out w2 H2.out.1 H2.out.2 H1.out.2.2.2
    obtain ⟨w3, hw3⟩ : ∃ x : World, ((w2.setCell ⟨g0, 0, none⟩ (.int .i64 0)).setCell ⟨g0, 1, none⟩ (.int .i64 0)).setCell ⟨g0, 2, none⟩ (.slice none 0 0) = x := ⟨_, rfl⟩
    rw [hw3] at h3 ⊢
    obtain ⟨⟨e0, e1, e2⟩, _⟩ := cells3 h3.1
    exact bodyPost_ret (v := .tuple #[.agg #[.int .i64 0, .int .i64 0, .slice none 0 0], .int .i64 50]) (by simp [results, Try.results15, go_sem, e0, e1, e2]) rfl ⟨rfl, h3.2⟩
  | true =>
    have HRT := Lib.hid hrt
    have hne : (R != C) = true := by rw [hrt] at h; simpa using h
    clear h hrt
    go_enter Try.func15, Try.ntmps15
    go_wp2_with fail
    rw [HWA.out, HW1.out, HG.out.1, HG.out.2]
    refine (right_any w1 _ _ A n cap).mono ?_
    rintro e w2 ⟨rfl, hb⟩
    rw [HRT.out]
    have H2 := Lib.hid (And.intro (next H1.out.1 hb) (H1.out.2.2.1.keep hb))
    obtain ⟨⟨d0, d1, d2⟩, f0, f1, f2⟩ := cells3 H2.out.2
    obtain ⟨⟨a0, a1, a2⟩, _⟩ := cells3 (H1.out.2.1.keep hb)
    clear hb
    go_wp2_with fail
    have h3 := FIN.out w2 H2.out.1 H2.out.2 H1.out.2.2.2
    obtain ⟨w3, hw3⟩ : ∃ x : World, ((w2.setCell ⟨g0, 0, none⟩ (.int .i64 0)).setCell ⟨g0, 1, none⟩ (.int .i64 0)).setCell ⟨g0, 2, none⟩ (.slice none 0 0) = x := ⟨_, rfl⟩
    rw [hw3] at h3 ⊢
    obtain ⟨⟨e0, e1, e2⟩, _⟩ := cells3 h3.1
    exact bodyPost_ret (v := .tuple #[.agg #[.int .i64 0, .int .i64 0, .slice none 0 0], .int .i64 50]) (by simp [results, Try.results15, go_sem, e0, e1, e2]) rfl ⟨rfl, h3.2⟩
/-- Square ones. -/
theorem in_nw {B p : Nat} {w : World} {A : Option Addr} {l : List UInt8} (h : Nw B w A l) (hp : p < B) : In w p A l := ⟨h.1, fun b o e hl => by have := h.2 b o e hl; omega⟩
theorem right_sq {r : Nat} (h : r ≤ 100) : rightB r r (r * r) = true := by
  unfold rightB
  rw [decide_eq_true_iff]
  exact ⟨by omega, by omega, by omega, by omega, by simp⟩
theorem nw_fr {B g : Nat} {w w' : World} {A : Option Addr} {l : List UInt8} (h : Nw B w A l) (hf : Fr (fun k => k = g) w w') (hg : g < B) : Nw B w' A l := ⟨fun hl => by
  obtain ⟨b, off, e, hb, hc⟩ := h.1 hl
  have h1 := h.2 b off e (by rwa [List.length_map] at hl)
  exact ⟨b, off, e, Nat.lt_of_lt_of_le hb hf.size, fun j v hv => (World.cell?_of_block (hf.block b hb (by omega))).trans (hc j v hv)⟩, h.2⟩
set_option maxRecDepth 100000 in
set_option maxHeartbeats 2000000 in
theorem inv_ok (w : World) (p : Nat) (hp : Fld w p) (r : Nat) (A : Option Addr) (n cap : Nat) (a : M) (hrt : rightB r r n = true) (hr : r ≤ 100) (hA : In w p A (flat r r a)) (hz : solves r r r a idm = true) :
    Calls Try.prog 15 #[fptr (some p), .agg #[.int .i64 (r : Int), .int .i64 (r : Int), .slice A n cap]] w (NewF w p r r (redTo r a idm r).B) := by
  obtain ⟨wa, ga, ha, hwa, hga⟩ := boxed w (mcells r r A n cap)
  obtain ⟨w1, g0, h1, hw1, hg0⟩ := boxed wa zmx
  have HWA := Lib.hid (show w.alloc (.cells #[.int .i64 (r : Int), .int .i64 (r : Int), .slice A n cap] 27) = wa from hwa)
  have HW1 := Lib.hid (show wa.alloc (.cells #[.int .i64 0, .int .i64 0, .slice none 0 0] 27) = w1 from hw1)
  have hg1 : g0 = ga + 1 := by have := ha.2.2; omega
  have H1 := Lib.hid (show Below w.heap.size w w1 ∧ Blk w1 ga 27 (mcells r r A n cap) ∧ Blk w1 g0 27 zmx ∧ w.heap.size = ga ∧ g0 = ga + 1 from ⟨next ha.1 h1.1, ha.2.1.keep h1.1, h1.2.1, hga, hg1⟩)
  have HG := Lib.hid (And.intro hga hg1.symm)
  have HRT := Lib.hid hrt
  have HP := Lib.hid hp
  have HR := Lib.hid hr
  have HI := Lib.hid hA
  have HZ := Lib.hid hz
  have hr4 : ¬ (4096 : Int) < (r : Int) := by omega
  clear ha hwa hga h1 hw1 hg0 hg1 hrt hp hr hA hz
  go_enter Try.func15, Try.ntmps15
  go_wp2_with fail
  rw [HWA.out, HW1.out, HG.out.1, HG.out.2]
  refine (right_any w1 _ _ A n cap).mono ?_
  rintro e w2 ⟨rfl, hb⟩
  rw [HRT.out]
  have H2 := Lib.hid (And.intro (next H1.out.1 hb) (And.intro (H1.out.2.1.keep hb) (H1.out.2.2.1.keep hb)))
  obtain ⟨⟨a0, a1, a2⟩, _⟩ := cells3 H2.out.2.1
  clear hb
  go_wp2_with fail
  clear a0 a1 a2
  --HELD inv_ok3
  refine wp_region_noPanic ?_
  refine wp_heldG (fun w' => Blk w' ga 27 (mcells r r A n cap)) [8] (by kernel_rfl) ?hs0 ?rg0
  case hs0 =>
    exact H2.out.2.1
  case rg0 =>
  intro hHeld
  refine wpAnyG_pure (i := 0) (oi := { dst := some 22, op := Op.move (Operand.tmp 0), type := 24, pos := _, after := #[], guard := none }) (v := ?_) rfl (by kernel_rfl) (by kernel_rfl) (by kernel_rfl) (by kernel_rfl) (fun _ _ _ h => h) (Or.inl ⟨by rfl, ?_⟩) (fun _ => by assumption) ?_
  rotate_left
  · intro w hSw
    try dsimp only at hSw
    go_simp
    try with_reducible rfl
  try simp only [Act.put, List.setIfInBounds_toArray, List.set_cons_zero, List.set_cons_succ]
  refine wpAnyG_take (i := 1) (oi := { dst := some 23, op := Op.load 27 (Operand.tmp 3), type := 27, pos := _, after := #[], guard := none }) (v := ?_) rfl (by kernel_rfl) (by kernel_rfl) (by kernel_rfl) (by kernel_rfl) (fun _ _ _ h => h) (Or.inl ⟨by rfl, ?_⟩) (by assumption) ?_
  rotate_left
  · intro w hSw
    try dsimp only at hSw
    obtain ⟨⟨c0, c1, c2⟩, _⟩ := cells3 hSw
    go_simp
    try with_reducible rfl
  try simp only [Act.put, List.setIfInBounds_toArray, List.set_cons_zero, List.set_cons_succ]
  refine wpAnyG_pure (i := 2) (oi := { dst := some 24, op := Op.fieldAddr 27 (Operand.tmp 3) 0, type := 0, pos := _, after := #[], guard := none }) (v := ?_) rfl (by kernel_rfl) (by kernel_rfl) (by kernel_rfl) (by kernel_rfl) (fun _ _ _ h => h) (Or.inl ⟨by rfl, ?_⟩) (fun _ => by assumption) ?_
  rotate_left
  · intro w hSw
    try dsimp only at hSw
    go_simp
    try with_reducible rfl
  try simp only [Act.put, List.setIfInBounds_toArray, List.set_cons_zero, List.set_cons_succ]
  refine wpAnyG_take (i := 3) (oi := { dst := some 25, op := Op.load 3 (Operand.tmp 24), type := 3, pos := _, after := #[{ on := 2, ground := Ground.data }], guard := none }) (v := ?_) rfl (by kernel_rfl) (by kernel_rfl) (by kernel_rfl) (by kernel_rfl) (fun _ _ _ h => h) (Or.inl ⟨by rfl, ?_⟩) (by assumption) ?_
  rotate_left
  · intro w hSw
    try dsimp only at hSw
    obtain ⟨⟨c0, c1, c2⟩, _⟩ := cells3 hSw
    go_simp
    try with_reducible rfl
  try simp only [Act.put, List.setIfInBounds_toArray, List.set_cons_zero, List.set_cons_succ]
  refine wpAnyG_one (i := 4) (o := { dst := some 26, op := Op.call { callee := Callee.value (Operand.func 27), args := #[Operand.tmp 25], argTypes := #[3] }, type := 27, pos := _, after := #[{ on := 3, ground := Ground.data }], guard := none }) (by kernel_rfl) rfl (fun K hK => ?_)
  go_simp
  refine (one_in _ r (by have := HR.out; omega)).mono ?_
  rintro e w3 ⟨X, cx, rfl, hle, hnw, hb⟩
  have hb3 := next H2.out.1 (next (nextN (Mem.start w2) 1) hb)
  have H3 := Lib.hid (And.intro hb3 hnw)
  have H3S := Lib.hid (show w.heap.size + 2 ≤ w3.heap.size from by have h1 := hb.size; have h2 := H2.out.2.2.lt; have h3 := H1.out.2.2.2; have h4 : w2.heap.size ≤ w3.heap.size := h1; omega)
  have H3G := Lib.hid (H2.out.2.2.keep (next (nextN (Mem.start w2) 1) hb))
  have HLE := Lib.hid (show w2.heap.size ≤ w3.heap.size from hb.size)
  clear hnw hle hb3
  try dsimp only
  refine hK.out _ _ ?_ (fun hHeld => ?_)
  · intro _
    try dsimp only
    exact hHeld.keep hb
  clear hK K
  try simp only [Act.put, List.setIfInBounds_toArray, List.set_cons_zero, List.set_cons_succ]
  have hHeld := hHeld (by kernel_rfl)
  refine wpAnyG_one (i := 5) (o := { dst := some 27, op := Op.call { callee := Callee.value (Operand.func 21), args := #[Operand.tmp 22, Operand.tmp 23, Operand.tmp 26], argTypes := #[24, 27, 27] }, type := 32, pos := _, after := #[{ on := 0, ground := Ground.data }, { on := 1, ground := Ground.data }, { on := 4, ground := Ground.data }, { on := 4, ground := Ground.chain }], guard := none }) (by kernel_rfl) rfl (fun K hK => ?_)
  clear hb
  go_simp
  have hin := in_nw (p := p) H3.out.2 (show p < w2.heap.size from by have := HP.out.lt; have := H2.out.1.size; omega)
  refine (solve_ok w3 p (HP.out.keep H3.out.1) r r r A X n cap (r * r) cx a idm HRT.out (right_sq HR.out) ⟨HR.out, HR.out, HR.out⟩ (HI.out.keep H3.out.1) hin HZ.out).mono ?_
  rintro e w4 ⟨Y, cy, rfl, hle, hnw, hF, hf⟩
  have H4L := Lib.hid (And.intro hle hnw)
  clear hle hnw
  have H4 := Lib.hid (And.intro hF (And.intro ((Fr.quiet (S := fun k => k = p) H3.out.1).trans hf fun _ _ h => h) (H3G.out.fr hf (by have := HP.out.lt; have := H1.out.2.2.2; omega))))
  clear hin hF
  try dsimp only
  refine hK.out _ _ ?_ (fun hHeld => ?_)
  · intro _
    try dsimp only
    exact hHeld.fr hf (by have := HP.out.lt; have := H1.out.2.2.2; omega)
  clear hK K
  try simp only [Act.put, List.setIfInBounds_toArray, List.set_cons_zero, List.set_cons_succ]
  have hHeld := hHeld (by kernel_rfl)
  refine wpAnyG_pure (i := 6) (oi := { dst := some 28, op := Op.extract (Operand.tmp 27) 0, type := 27, pos := _, after := #[{ on := 5, ground := Ground.data }], guard := none }) (v := ?_) rfl (by kernel_rfl) (by kernel_rfl) (by kernel_rfl) (by kernel_rfl) (fun _ _ _ h => h) (Or.inl ⟨by rfl, ?_⟩) (fun _ => by assumption) ?_
  rotate_left
  · intro w hSw
    try dsimp only at hSw
    go_simp
    try with_reducible rfl
  try simp only [Act.put, List.setIfInBounds_toArray, List.set_cons_zero, List.set_cons_succ]
  refine wpAnyG_pure (i := 7) (oi := { dst := some 29, op := Op.extract (Operand.tmp 27) 1, type := 29, pos := _, after := #[{ on := 5, ground := Ground.data }], guard := none }) (v := ?_) rfl (by kernel_rfl) (by kernel_rfl) (by kernel_rfl) (by kernel_rfl) (fun _ _ _ h => h) (Or.inl ⟨by rfl, ?_⟩) (fun _ => by assumption) ?_
  rotate_left
  · intro w hSw
    try dsimp only at hSw
    go_simp
    try with_reducible rfl
  try simp only [Act.put, List.setIfInBounds_toArray, List.set_cons_zero, List.set_cons_succ]
  refine wpAnyG_one (i := 8) (o := { dst := none, op := Op.store 27 (Operand.tmp 4) (Operand.tmp 28), type := 0, pos := _, after := #[{ on := 6, ground := Ground.data }, { on := 5, ground := Ground.chain }, { on := 0, ground := Ground.phase }, { on := 1, ground := Ground.phase }, { on := 2, ground := Ground.phase }, { on := 3, ground := Ground.phase }, { on := 4, ground := Ground.phase }, { on := 5, ground := Ground.phase }, { on := 6, ground := Ground.phase }, { on := 7, ground := Ground.phase }], guard := none }) (by kernel_rfl) rfl (fun K hK => ?_)
  obtain ⟨⟨d0, d1, d2⟩, f0, f1, f2⟩ := cells3 H4.out.2.2
  go_simp
  try dsimp only
  refine hK.out _ _ ?_ (fun hHeld => ?_)
  · exact fun h => (st_no (by kernel_rfl) h).elim
  clear hK K
  try simp only [Act.put, List.setIfInBounds_toArray, List.set_cons_zero, List.set_cons_succ]
  clear hHeld
  refine wpAnyG_pure (i := 9) (oi := { dst := some 5, op := Op.assign (Operand.tmp 29), type := 29, pos := _, after := #[{ on := 7, ground := Ground.data }, { on := 8, ground := Ground.chain }, { on := 0, ground := Ground.phase }, { on := 1, ground := Ground.phase }, { on := 2, ground := Ground.phase }, { on := 3, ground := Ground.phase }, { on := 4, ground := Ground.phase }, { on := 5, ground := Ground.phase }, { on := 6, ground := Ground.phase }, { on := 7, ground := Ground.phase }, { on := 8, ground := Ground.phase }], guard := none }) (v := ?_) rfl (by kernel_rfl) (by kernel_rfl) (by kernel_rfl) (by kernel_rfl) (fun _ _ _ h => h) (Or.inl ⟨by rfl, ?_⟩) (fun h => (st_no (by kernel_rfl) h).elim) ?_
  rotate_left
  · intro w hSw
    try dsimp only at hSw
    go_simp
    try with_reducible rfl
  try simp only [Act.put, List.setIfInBounds_toArray, List.set_cons_zero, List.set_cons_succ]
  refine wpAnyG_done (by kernel_rfl) ?_ _
  refine NoPanic.normal ?_
  --END inv_ok3
  have h5 := set3 H4.out.2.2 (.int .i64 (r : Int)) (.int .i64 (r : Int)) (.slice Y (r * r) cy)
  obtain ⟨w5, hw5⟩ : ∃ x : World, ((w4.setCell ⟨g0, 0, none⟩ (.int .i64 (r : Int))).setCell ⟨g0, 1, none⟩ (.int .i64 (r : Int))).setCell ⟨g0, 2, none⟩ (.slice Y (r * r) cy) = x := ⟨_, rfl⟩
  rw [hw5] at h5 ⊢
  obtain ⟨⟨e0, e1, e2⟩, _⟩ := cells3 h5.1
  have H5 := Lib.hid h5.2
  clear h5 hw5
  go_wp2_with fail
  refine bodyPost_ret (v := .tuple #[.agg #[.int .i64 (r : Int), .int .i64 (r : Int), .slice Y (r * r) cy], .int .i64 0]) (by simp [results, Try.results15, go_sem, e0, e1, e2]) rfl ?_
  have hg := H1.out.2.2.2
  have hpl := HP.out.lt
  refine ⟨Y, cy, rfl, H4L.out.1, ⟨?_, fun b o e hl => ?_⟩, H4.out.1.fr H5.out (by omega), H4.out.2.1.trans H5.out fun k hk e => by omega⟩
  · exact (nw_fr H4L.out.2 H5.out (by have := H2.out.1.size; have := H3S.out; omega)).1
  · have h1 := H4L.out.2.2 b o e hl
    have h2 := H3S.out
    omega
set_option maxRecDepth 100000 in
set_option maxHeartbeats 2000000 in
theorem inv_no (w : World) (p : Nat) (hp : Fld w p) (r : Nat) (A : Option Addr) (n cap : Nat) (a : M) (hrt : rightB r r n = true) (hr : r ≤ 100) (hA : In w p A (flat r r a)) (hz : solves r r r a idm = false) :
    Calls Try.prog 15 #[fptr (some p), .agg #[.int .i64 (r : Int), .int .i64 (r : Int), .slice A n cap]] w (ErrF w p 51) := by
  obtain ⟨wa, ga, ha, hwa, hga⟩ := boxed w (mcells r r A n cap)
  obtain ⟨w1, g0, h1, hw1, hg0⟩ := boxed wa zmx
  have HWA := Lib.hid (show w.alloc (.cells #[.int .i64 (r : Int), .int .i64 (r : Int), .slice A n cap] 27) = wa from hwa)
  have HW1 := Lib.hid (show wa.alloc (.cells #[.int .i64 0, .int .i64 0, .slice none 0 0] 27) = w1 from hw1)
  have hg1 : g0 = ga + 1 := by have := ha.2.2; omega
  have H1 := Lib.hid (show Below w.heap.size w w1 ∧ Blk w1 ga 27 (mcells r r A n cap) ∧ Blk w1 g0 27 zmx ∧ w.heap.size = ga ∧ g0 = ga + 1 from ⟨next ha.1 h1.1, ha.2.1.keep h1.1, h1.2.1, hga, hg1⟩)
  have HG := Lib.hid (And.intro hga hg1.symm)
  have HRT := Lib.hid hrt
  have HP := Lib.hid hp
  have HR := Lib.hid hr
  have HI := Lib.hid hA
  have HZ := Lib.hid hz
  have hr4 : ¬ (4096 : Int) < (r : Int) := by omega
  clear ha hwa hga h1 hw1 hg0 hg1 hrt hp hr hA hz
  go_enter Try.func15, Try.ntmps15
  go_wp2_with fail
  rw [HWA.out, HW1.out, HG.out.1, HG.out.2]
  refine (right_any w1 _ _ A n cap).mono ?_
  rintro e w2 ⟨rfl, hb⟩
  rw [HRT.out]
  have H2 := Lib.hid (And.intro (next H1.out.1 hb) (And.intro (H1.out.2.1.keep hb) (H1.out.2.2.1.keep hb)))
  obtain ⟨⟨a0, a1, a2⟩, _⟩ := cells3 H2.out.2.1
  clear hb
  go_wp2_with fail
  clear a0 a1 a2
  --HELD inv_no3
  refine wp_region_noPanic ?_
  refine wp_heldG (fun w' => Blk w' ga 27 (mcells r r A n cap)) [8] (by kernel_rfl) ?hs0 ?rg0
  case hs0 =>
    exact H2.out.2.1
  case rg0 =>
  intro hHeld
  refine wpAnyG_pure (i := 0) (oi := { dst := some 22, op := Op.move (Operand.tmp 0), type := 24, pos := _, after := #[], guard := none }) (v := ?_) rfl (by kernel_rfl) (by kernel_rfl) (by kernel_rfl) (by kernel_rfl) (fun _ _ _ h => h) (Or.inl ⟨by rfl, ?_⟩) (fun _ => by assumption) ?_
  rotate_left
  · intro w hSw
    try dsimp only at hSw
    go_simp
    try with_reducible rfl
  try simp only [Act.put, List.setIfInBounds_toArray, List.set_cons_zero, List.set_cons_succ]
  refine wpAnyG_take (i := 1) (oi := { dst := some 23, op := Op.load 27 (Operand.tmp 3), type := 27, pos := _, after := #[], guard := none }) (v := ?_) rfl (by kernel_rfl) (by kernel_rfl) (by kernel_rfl) (by kernel_rfl) (fun _ _ _ h => h) (Or.inl ⟨by rfl, ?_⟩) (by assumption) ?_
  rotate_left
  · intro w hSw
    try dsimp only at hSw
    obtain ⟨⟨c0, c1, c2⟩, _⟩ := cells3 hSw
    go_simp
    try with_reducible rfl
  try simp only [Act.put, List.setIfInBounds_toArray, List.set_cons_zero, List.set_cons_succ]
  refine wpAnyG_pure (i := 2) (oi := { dst := some 24, op := Op.fieldAddr 27 (Operand.tmp 3) 0, type := 0, pos := _, after := #[], guard := none }) (v := ?_) rfl (by kernel_rfl) (by kernel_rfl) (by kernel_rfl) (by kernel_rfl) (fun _ _ _ h => h) (Or.inl ⟨by rfl, ?_⟩) (fun _ => by assumption) ?_
  rotate_left
  · intro w hSw
    try dsimp only at hSw
    go_simp
    try with_reducible rfl
  try simp only [Act.put, List.setIfInBounds_toArray, List.set_cons_zero, List.set_cons_succ]
  refine wpAnyG_take (i := 3) (oi := { dst := some 25, op := Op.load 3 (Operand.tmp 24), type := 3, pos := _, after := #[{ on := 2, ground := Ground.data }], guard := none }) (v := ?_) rfl (by kernel_rfl) (by kernel_rfl) (by kernel_rfl) (by kernel_rfl) (fun _ _ _ h => h) (Or.inl ⟨by rfl, ?_⟩) (by assumption) ?_
  rotate_left
  · intro w hSw
    try dsimp only at hSw
    obtain ⟨⟨c0, c1, c2⟩, _⟩ := cells3 hSw
    go_simp
    try with_reducible rfl
  try simp only [Act.put, List.setIfInBounds_toArray, List.set_cons_zero, List.set_cons_succ]
  refine wpAnyG_one (i := 4) (o := { dst := some 26, op := Op.call { callee := Callee.value (Operand.func 27), args := #[Operand.tmp 25], argTypes := #[3] }, type := 27, pos := _, after := #[{ on := 3, ground := Ground.data }], guard := none }) (by kernel_rfl) rfl (fun K hK => ?_)
  go_simp
  refine (one_in _ r (by have := HR.out; omega)).mono ?_
  rintro e w3 ⟨X, cx, rfl, hle, hnw, hb⟩
  have hb3 := next H2.out.1 (next (nextN (Mem.start w2) 1) hb)
  have H3 := Lib.hid (And.intro hb3 hnw)
  have H3S := Lib.hid (show w.heap.size + 2 ≤ w3.heap.size from by have h1 := hb.size; have h2 := H2.out.2.2.lt; have h3 := H1.out.2.2.2; have h4 : w2.heap.size ≤ w3.heap.size := h1; omega)
  have H3G := Lib.hid (H2.out.2.2.keep (next (nextN (Mem.start w2) 1) hb))
  have HLE := Lib.hid (show w2.heap.size ≤ w3.heap.size from hb.size)
  clear hnw hle hb3
  try dsimp only
  refine hK.out _ _ ?_ (fun hHeld => ?_)
  · intro _
    try dsimp only
    exact hHeld.keep hb
  clear hK K
  try simp only [Act.put, List.setIfInBounds_toArray, List.set_cons_zero, List.set_cons_succ]
  have hHeld := hHeld (by kernel_rfl)
  refine wpAnyG_one (i := 5) (o := { dst := some 27, op := Op.call { callee := Callee.value (Operand.func 21), args := #[Operand.tmp 22, Operand.tmp 23, Operand.tmp 26], argTypes := #[24, 27, 27] }, type := 32, pos := _, after := #[{ on := 0, ground := Ground.data }, { on := 1, ground := Ground.data }, { on := 4, ground := Ground.data }, { on := 4, ground := Ground.chain }], guard := none }) (by kernel_rfl) rfl (fun K hK => ?_)
  clear hb
  go_simp
  have hin := in_nw (p := p) H3.out.2 (show p < w2.heap.size from by have := HP.out.lt; have := H2.out.1.size; omega)
  refine (solve_no w3 p (HP.out.keep H3.out.1) r r r A X n cap (r * r) cx a idm HRT.out (right_sq HR.out) ⟨HR.out, HR.out, HR.out⟩ (HI.out.keep H3.out.1) hin HZ.out).mono ?_
  rintro e w4 ⟨rfl, hF, hf⟩
  have H4 := Lib.hid (And.intro hF (And.intro ((Fr.quiet (S := fun k => k = p) H3.out.1).trans hf fun _ _ h => h) (H3G.out.fr hf (by have := HP.out.lt; have := H1.out.2.2.2; omega))))
  clear hin hF
  try dsimp only
  refine hK.out _ _ ?_ (fun hHeld => ?_)
  · intro _
    try dsimp only
    exact hHeld.fr hf (by have := HP.out.lt; have := H1.out.2.2.2; omega)
  clear hK K
  try simp only [Act.put, List.setIfInBounds_toArray, List.set_cons_zero, List.set_cons_succ]
  have hHeld := hHeld (by kernel_rfl)
  refine wpAnyG_pure (i := 6) (oi := { dst := some 28, op := Op.extract (Operand.tmp 27) 0, type := 27, pos := _, after := #[{ on := 5, ground := Ground.data }], guard := none }) (v := ?_) rfl (by kernel_rfl) (by kernel_rfl) (by kernel_rfl) (by kernel_rfl) (fun _ _ _ h => h) (Or.inl ⟨by rfl, ?_⟩) (fun _ => by assumption) ?_
  rotate_left
  · intro w hSw
    try dsimp only at hSw
    go_simp
    try with_reducible rfl
  try simp only [Act.put, List.setIfInBounds_toArray, List.set_cons_zero, List.set_cons_succ]
  refine wpAnyG_pure (i := 7) (oi := { dst := some 29, op := Op.extract (Operand.tmp 27) 1, type := 29, pos := _, after := #[{ on := 5, ground := Ground.data }], guard := none }) (v := ?_) rfl (by kernel_rfl) (by kernel_rfl) (by kernel_rfl) (by kernel_rfl) (fun _ _ _ h => h) (Or.inl ⟨by rfl, ?_⟩) (fun _ => by assumption) ?_
  rotate_left
  · intro w hSw
    try dsimp only at hSw
    go_simp
    try with_reducible rfl
  try simp only [Act.put, List.setIfInBounds_toArray, List.set_cons_zero, List.set_cons_succ]
  refine wpAnyG_one (i := 8) (o := { dst := none, op := Op.store 27 (Operand.tmp 4) (Operand.tmp 28), type := 0, pos := _, after := #[{ on := 6, ground := Ground.data }, { on := 5, ground := Ground.chain }, { on := 0, ground := Ground.phase }, { on := 1, ground := Ground.phase }, { on := 2, ground := Ground.phase }, { on := 3, ground := Ground.phase }, { on := 4, ground := Ground.phase }, { on := 5, ground := Ground.phase }, { on := 6, ground := Ground.phase }, { on := 7, ground := Ground.phase }], guard := none }) (by kernel_rfl) rfl (fun K hK => ?_)
  obtain ⟨⟨d0, d1, d2⟩, f0, f1, f2⟩ := cells3 H4.out.2.2
  go_simp
  try dsimp only
  refine hK.out _ _ ?_ (fun hHeld => ?_)
  · exact fun h => (st_no (by kernel_rfl) h).elim
  clear hK K
  try simp only [Act.put, List.setIfInBounds_toArray, List.set_cons_zero, List.set_cons_succ]
  clear hHeld
  refine wpAnyG_pure (i := 9) (oi := { dst := some 5, op := Op.assign (Operand.tmp 29), type := 29, pos := _, after := #[{ on := 7, ground := Ground.data }, { on := 8, ground := Ground.chain }, { on := 0, ground := Ground.phase }, { on := 1, ground := Ground.phase }, { on := 2, ground := Ground.phase }, { on := 3, ground := Ground.phase }, { on := 4, ground := Ground.phase }, { on := 5, ground := Ground.phase }, { on := 6, ground := Ground.phase }, { on := 7, ground := Ground.phase }, { on := 8, ground := Ground.phase }], guard := none }) (v := ?_) rfl (by kernel_rfl) (by kernel_rfl) (by kernel_rfl) (by kernel_rfl) (fun _ _ _ h => h) (Or.inl ⟨by rfl, ?_⟩) (fun h => (st_no (by kernel_rfl) h).elim) ?_
  rotate_left
  · intro w hSw
    try dsimp only at hSw
    go_simp
    try with_reducible rfl
  try simp only [Act.put, List.setIfInBounds_toArray, List.set_cons_zero, List.set_cons_succ]
  refine wpAnyG_done (by kernel_rfl) ?_ _
  refine NoPanic.normal ?_
  --END inv_no3
  have h5 := set3 H4.out.2.2 (.int .i64 0) (.int .i64 0) (.slice none 0 0)
  obtain ⟨w5, hw5⟩ : ∃ x : World, ((w4.setCell ⟨g0, 0, none⟩ (.int .i64 0)).setCell ⟨g0, 1, none⟩ (.int .i64 0)).setCell ⟨g0, 2, none⟩ (.slice none 0 0) = x := ⟨_, rfl⟩
  rw [hw5] at h5 ⊢
  obtain ⟨⟨e0, e1, e2⟩, _⟩ := cells3 h5.1
  have H5 := Lib.hid h5.2
  clear h5 hw5
  go_wp2_with fail
  refine bodyPost_ret (v := .tuple #[.agg #[.int .i64 0, .int .i64 0, .slice none 0 0], .int .i64 51]) (by simp [results, Try.results15, go_sem, e0, e1, e2]) rfl ?_
  have hg := H1.out.2.2.2
  have hpl := HP.out.lt
  exact ⟨rfl, H4.out.1.fr H5.out (by omega), H4.out.2.1.trans H5.out fun k hk e => by omega⟩
end Go.Proofs.Ythdapoipfnnaeaa.MxW
/- Powers. -/
namespace Go.Proofs.Ythdapoipfnnaeaa.MxW
open Go.RowKit Go.Shelf Mem Gf FdW Mx Rng
open PlW (In)
set_option linter.unusedVariables false
attribute [local go_sem] Oper.semAt_some wide_fn

def powM (xs : List UInt8) : M := fun i k => pow (xs.getD i 0) (k : Int)
def powUp (xs : List UInt8) (i j : Nat) : M := fun x k => if x < i ∨ (x = i ∧ k < j) then powM xs x k else 0
/-- A new matrix; the field may have been made. -/
def NewMF (w : World) (p r c : Nat) (m : M) (e : Ending) (w' : World) : Prop := ∃ A cap, e = .returned (.agg #[.int .i64 (r : Int), .int .i64 (c : Int), .slice A (r * c) cap]) ∧ r * c ≤ cap ∧ Nw w.heap.size w' A (flat r c m) ∧ Fld w' p ∧ Fr (fun k => k = p) w w'
/-- While Powers goes on: its field gf, its places gb, its result g0. -/
structure PowI (w : World) (p gf gb g0 : Nat) (X : Option Addr) (n cap : Nat) (W : World) : Prop where
  fr : Fr (fun k => k = p) w W
  fld : Fld W p
  ff : Blk W gf 24 (fcellv p)
  bx : Blk W gb 22 #[.slice X n cap]
  res : Blk W g0 27 zmx
structure PowR (w : World) (p gf gb g0 g7 B g r c : Nat) (X : Option Addr) (n cap : Nat) (xs : List UInt8) (i j : Nat) (W : World) : Prop where
  st : PowI w p gf gb g0 X n cap W
  var : Blk W g7 27 (mcells r c (some ⟨g, 0, none⟩) (r * c) (r * c))
  row : Wm W B g (r * c) r c (powUp xs i j)
section
variable {w W W' : World} {p gf gb g0 g7 B g r c : Nat} {X : Option Addr} {n cap : Nat} {xs : List UInt8} {i j : Nat}
theorem PowI.keep (h : PowI w p gf gb g0 X n cap W) (hb : Below W.heap.size W W') : PowI w p gf gb g0 X n cap W' :=
  ⟨h.fr.trans (Fr.quiet (S := fun _ => False) hb) fun _ _ h => h.elim, h.fld.keep hb, h.ff.keep hb, h.bx.keep hb, h.res.keep hb⟩
theorem PowR.keep (h : PowR w p gf gb g0 g7 B g r c X n cap xs i j W) (hb : Below W.heap.size W W') : PowR w p gf gb g0 g7 B g r c X n cap xs i j W' := ⟨h.st.keep hb, h.var.keep hb, h.row.keep hb⟩
theorem PowR.fr_ {S : Nat → Prop} (h : PowR w p gf gb g0 g7 B g r c X n cap xs i j W) (hf : Fr S W W') (hS : ∀ k, S k → w.heap.size ≤ k) (hp : p < w.heap.size) (hg : ¬ S gf ∧ ¬ S gb ∧ ¬ S g0 ∧ ¬ S g7 ∧ ¬ S g) : PowR w p gf gb g0 g7 B g r c X n cap xs i j W' :=
  ⟨⟨h.st.fr.trans hf fun k hk hs => absurd (hS k hs) (by omega), h.st.fld.fr hf fun hs => absurd (hS p hs) (by omega), h.st.ff.fr hf hg.1, h.st.bx.fr hf hg.2.1, h.st.res.fr hf hg.2.2.1⟩, h.var.fr hf hg.2.2.2.1, h.row.fr hf hg.2.2.2.2⟩
theorem PowR.field (h : PowR w p gf gb g0 g7 B g r c X n cap xs i j W) (hf : Fr (fun k => k = p) W W') (hF : Fld W' p) (hg : gf ≠ p ∧ gb ≠ p ∧ g0 ≠ p ∧ g7 ≠ p ∧ g ≠ p) : PowR w p gf gb g0 g7 B g r c X n cap xs i j W' :=
  ⟨⟨h.st.fr.trans hf fun k _ hs => hs, hF, h.st.ff.fr hf hg.1, h.st.bx.fr hf hg.2.1, h.st.res.fr hf hg.2.2.1⟩, h.var.fr hf hg.2.2.2.1, h.row.fr hf hg.2.2.2.2⟩
theorem PowR.congr {i' j' : Nat} (h : PowR w p gf gb g0 g7 B g r c X n cap xs i j W) (e : ∀ x, x < r → ∀ k, k < c → powUp xs i j x k = powUp xs i' j' x k) : PowR w p gf gb g0 g7 B g r c X n cap xs i' j' W := ⟨h.st, h.var, h.row.congr e⟩
/-- One entry more. -/
theorem PowR.set (h : PowR w p gf gb g0 g7 B g r c X n cap xs i j W) (hi : i < r) (hj : j < c) (hg : w.heap.size ≤ g) (hp : p < w.heap.size) (hne : gf ≠ g ∧ gb ≠ g ∧ g0 ≠ g ∧ g7 ≠ g) : PowR w p gf gb g0 g7 B g r c X n cap xs i (j + 1) (W.setCell ⟨g, i * c + j, none⟩ (.int .u8 ((powM xs i j).toNat : Int))) := by
  have hf := setF (p := g) W ⟨g, i * c + j, none⟩ rfl (.int .u8 ((powM xs i j).toNat : Int))
  refine ⟨⟨h.st.fr.trans hf fun k hk hs => absurd hs (by omega), h.st.fld.fr hf (by omega), h.st.ff.fr hf (by omega), h.st.bx.fr hf (by omega), h.st.res.fr hf (by omega)⟩, h.var.fr hf (by omega), (h.row.set hi hj (powM xs i j)).congr fun x _ k _ => ?_⟩
  unfold upd powUp
  by_cases e : x = i ∧ k = j
  · obtain ⟨rfl, rfl⟩ := e
    rw [if_pos ⟨rfl, rfl⟩, if_pos (.inr ⟨rfl, by omega⟩)]
  · rw [if_neg e]
    by_cases e2 : x < i ∨ x = i ∧ k < j
    · rw [if_pos e2, if_pos (by omega)]
    · rw [if_neg e2, if_neg (by omega)]
end
theorem powI_start (w : World) (p : Nat) (hp : Fld w p) (X : Option Addr) (n cap : Nat) : ∃ w1, PowI w p w.heap.size (w.heap.size + 1) (w.heap.size + 1 + 1) X n cap w1 ∧ Below w.heap.size w w1 ∧ w1.heap.size = w.heap.size + 3 ∧
    ((w.alloc (.cells #[fptr (some p)] 24)).alloc (.cells #[.slice X n cap] 22)).alloc (.cells #[.int .i64 0, .int .i64 0, .slice none 0 0] 27) = w1 := by
  obtain ⟨x1, g1, h1, e1, n1⟩ := boxedT w #[fptr (some p)] 24
  obtain ⟨x2, g2, h2, e2, n2⟩ := boxedT x1 #[.slice X n cap] 22
  obtain ⟨x3, g3, h3, e3, n3⟩ := boxed x2 #[.int .i64 0, .int .i64 0, .slice none 0 0]
  have k1 := h1.2.2; have k2 := h2.2.2; have k3 := h3.2.2
  rw [n1]
  obtain rfl : g2 = g1 + 1 := by omega
  obtain rfl : g3 = g1 + 1 + 1 := by omega
  have b := next (next h1.1 h2.1) h3.1
  exact ⟨x3, ⟨Fr.quiet b, hp.keep b, (h1.2.1.keep h2.1).keep h3.1, h2.2.1.keep h3.1, h3.2.1⟩, by rw [← n1]; exact b, by omega, by rw [e1, e2, e3]⟩
set_option maxRecDepth 100000 in
set_option maxHeartbeats 4000000 in
theorem pow_ok1 (w : World) (p : Nat) (hp : Fld w p) (A : Option Addr) (xs : List UInt8) (r cap : Nat) (hn : xs.length = r) (c : Nat) (hA : In w p A xs) (hr : r ≤ 1000 ∧ c ≤ 1000) (hr0 : 0 < r) :
    Calls Try.prog 13 #[fptr (some p), .slice A r cap, .int .i64 (c : Int)] w (NewMF w p r c (powM xs)) := by
  have hl : ((r * c : Nat) : Int) ≤ 1000000000 := by
    have k1 : r * c ≤ 1000 * 1000 := Nat.mul_le_mul (by omega) (by omega)
    omega
  refine of_wide ?_
  refine callsIn_of_wp_marks Try.func13 rfl trivial ?_ rfl
  refine wpIn_wide.2 ?_
  simp only [Try.ntmps13, List.size_toArray, List.length_cons, List.length_nil, Nat.reduceAdd, Nat.reduceSub, Array.replicate_succ, Array.replicate_zero, List.push_toArray, List.append_toArray, List.nil_append, List.cons_append]
  obtain ⟨w1, h1, hb1, hs1, hw1⟩ := powI_start w p hp A r cap
  obtain ⟨gf, hgf⟩ : ∃ x, w.heap.size = x := ⟨_, rfl⟩
  rw [hgf] at h1
  have HW1 := Lib.hid hw1
  have H1 := Lib.hid (And.intro h1 (And.intro hb1 hs1))
  have HG := Lib.hid hgf
  have HA := Lib.hid hA
  have HP := Lib.hid hp
  have HRC := Lib.hid (show r ≤ 1000 ∧ c ≤ 1000 from by omega)
  have HN := Lib.hid (And.intro hn hl)
  have hr1 : (0 : Int) < (r : Int) := by omega
  have hrn : ¬ r = 0 := by omega
  have hlen : decide ((65536 : Int) < (r : Int)) = false := decide_eq_false (by omega)
  have hc1 : decide ((c : Int) < 0) = false := decide_eq_false (by omega)
  have hc2 : decide ((65536 : Int) < (c : Int)) = false := decide_eq_false (by omega)
  obtain ⟨qq, hqq⟩ : ∃ q, (16777216 : Int) / (r : Int) = q := ⟨_, rfl⟩
  have hdv : (c : Int) ≤ qq := by
    have h1 : (16777216 : Int) / (r : Int) ≥ 1000 := Int.le_ediv_of_mul_le hr1 (by omega)
    omega
  have hdn : decide (qq < (c : Int)) = false := decide_eq_false (by omega)
  clear hr
  clear hb1 hs1 hw1 hgf hA hp hn hl h1
  go_wp2_with fail
  rw [HW1.out, HG.out]
  refine (none_any w1 r c HN.out.2).mono ?_
  rintro e w2 ⟨g, rfl, ho, hb⟩
  have H2 := Lib.hid (And.intro (H1.out.1.keep hb) (And.intro (show Wm w2 w1.heap.size g (r * c) r c (fun _ _ => 0) from ho) (show w1.heap.size ≤ w2.heap.size from hb.size)))
  clear ho hb hr0
  go_wp2_with fail
  obtain ⟨w3, g7, h3, hw3, hg7⟩ := boxed w2 (mcells r c (some ⟨g, 0, none⟩) (r * c) (r * c))
  have HW3 := Lib.hid (show w2.alloc (.cells #[.int .i64 (r : Int), .int .i64 (c : Int), .slice (some ⟨g, 0, none⟩) (r * c) (r * c)] 27) = w3 from hw3)
  rw [HW3.out, hg7]
  have H3 := Lib.hid h3
  have HG7 := Lib.hid hg7
  clear hw3 h3 hg7
  refine (rows_any w3 _ _ _).mono ?_
  rintro e w4' ⟨rfl, rfl⟩
  obtain ⟨w4, bm, h4, hw4, hbm⟩ := boxed w3 (mcells r c (some ⟨g, 0, none⟩) (r * c) (r * c))
  have HW4 := Lib.hid (show w3.alloc (.cells #[.int .i64 (r : Int), .int .i64 (c : Int), .slice (some ⟨g, 0, none⟩) (r * c) (r * c)] 27) = w4 from hw4)
  rw [HW4.out, hbm]
  have hap : w.heap.size = gf ∧ w1.heap.size = gf + 3 ∧ w1.heap.size ≤ g ∧ g < g7 ∧ bm = g7 + 1 ∧ w4.heap.size = bm + 1 ∧ p < gf := by
    have k1 := H1.out.2.2; have k2 := H2.out.2.1.form; have k3 := HG7.out; have k4 := H3.out.2.2; have k5 := h4.2.2; have k6 := HP.out.lt; have k7 := HG.out
    omega
  have HAP := Lib.hid hap
  have HI0 := Lib.hid (show PowR w p gf (gf + 1) (gf + 1 + 1) g7 w1.heap.size g r c A r cap xs 0 0 w4 from ⟨(H2.out.1.keep H3.out.1).keep h4.1, H3.out.2.1.keep h4.1, ((H2.out.2.1.keep H3.out.1).keep h4.1).congr fun x _ k _ => by unfold powUp; rw [if_neg (by omega)]⟩)
  have H4 := Lib.hid h4
  clear hw4 hbm h4 hap
  go_wp2_with fail
  refine (wpIn_wide (n := 5)).1 ?_
  refine wpIn_rows bm r c (some ⟨g, 0, none⟩) (r * c) (r * c) rfl H4.out.2.1 (by have := HRC.out; omega) rfl HN.out.2 (Nat.le_refl _) (fun k => k = g ∨ k = p) (by have := HAP.out; omega)
    (fun i W => PowR w p gf (gf + 1) (gf + 1 + 1) g7 w1.heap.size g r c A r cap xs i 0 W) ?hI HI0.out ?hround ?hdone
  case hI =>
    intro i W W' h hf
    have hap := HAP.out
    exact h.fr_ hf (fun k e => by omega) HP.out.lt ⟨by omega, by omega, by omega, by omega, by omega⟩
  case hround =>
    intro l i W hi hlt
    have HLT := Lib.hid hlt
    obtain ⟨Y, hY⟩ : ∃ Y, rowA (some ⟨g, 0, none⟩) c i = Y := ⟨_, rfl⟩
    rw [hY]
    have HY := Lib.hid hY
    clear hlt hi hY
    gi_wp2
    refine ⟨trivial, fun W2 hi2 => ?_⟩
    have H := Lib.hid hi2
    clear hi2
    gi_wp2
    gi_loopw [42] (fun x wr => ∃ j : Nat, x = .int .i64 (j : Int) ∧ j ≤ c ∧ PowR w p gf (gf + 1) (gf + 1 + 1) g7 w1.heap.size g r c A r cap xs i j wr ∧ Fr (fun k => k = g ∨ k = p) W2 wr) (fun x _ => c - (intOf x).toNat)
    case atStart => exact ⟨0, rfl, Nat.zero_le _, H.out, Fr.refl _ _⟩
    case round =>
      obtain ⟨j, rfl, hj, h1, h2⟩ := hrel
      by_cases hjc : j < c
      · obtain ⟨q, hq⟩ : ∃ q, i * c = q := ⟨_, rfl⟩
        have hy := HY.out
        rw [rowA_some (by omega), Nat.zero_add, hq] at hy
        subst hy
        have HQ := Lib.hid hq
        have hji : (j : Int) < (c : Int) := by omega
        have hj0 : (0 : Int) ≤ (j : Int) := by omega
        have hj9 : (j : Int) ≤ 1000 := by have := HRC.out; omega
        have hir : (i : Int) < (r : Int) := by have := HLT.out; omega
        have hi0 : (0 : Int) ≤ (i : Int) := by omega
        obtain ⟨ab, off, hAe, hne, hx1⟩ : ∃ ab off, A = some ⟨ab, off, none⟩ ∧ ab ≠ p ∧ wr.cell? ⟨ab, off + i, none⟩ = some (.int .u8 ((xs.getD i 0).toNat : Int)) := by
          have hlt : i < xs.length := by rw [HN.out.1]; exact HLT.out
          obtain ⟨ab, off, e, _, hc⟩ := (HA.out.field h1.st.fr).1.at_ (k := i) hlt
          rw [List.getD_eq_getElem?_getD, List.getElem?_eq_getElem hlt]
          exact ⟨ab, off, e, HA.out.2 ab off e (by omega), hc⟩
        have HJ := Lib.hid (And.intro h1 (And.intro h2 (And.intro hjc (And.intro hAe hne))))
        obtain ⟨x, hx⟩ : ∃ x, xs.getD i 0 = x := ⟨_, rfl⟩
        rw [hx] at hx1
        have HX := Lib.hid hx
        clear h1 h2 hj hjc hq hx hAe hne
        gi_wp2
        --HELD pow_ok1r
        refine wpIn_only ?_
        refine wpIn_heldG (fun w' => Blk w' gf 24 (fcellv p) ∧ Blk w' (gf + 1) 22 #[.slice A r cap] ∧ w'.cell? ⟨ab, off + i, none⟩ = some (.int .u8 (x.toNat : Int))) [10] (by kernel_rfl) (by kernel_rfl) (fun ⟨_, _, h⟩ => h) ?hs0 ?rg0
        case hs0 =>
          exact ⟨HJ.out.1.st.ff, HJ.out.1.st.bx, hx1⟩
        case rg0 =>
        intro hHeld
        refine wpAnyG_pure (i := 0) (oi := { dst := some 45, op := Op.move (Operand.tmp 9), type := 22, pos := _, after := #[], guard := none }) (v := ?_) rfl (by kernel_rfl) (by kernel_rfl) (by kernel_rfl) (by kernel_rfl) (fun _ _ _ h => h) (Or.inl ⟨by rfl, ?_⟩) (fun _ => by assumption) ?_
        rotate_left
        · intro w hSw
          try dsimp only at hSw
          go_simp
          try with_reducible rfl
        try simp only [Act.put, List.setIfInBounds_toArray, List.set_cons_zero, List.set_cons_succ]
        refine wpAnyG_pure (i := 1) (oi := { dst := some 46, op := Op.move (Operand.tmp 10), type := 3, pos := _, after := #[], guard := none }) (v := ?_) rfl (by kernel_rfl) (by kernel_rfl) (by kernel_rfl) (by kernel_rfl) (fun _ _ _ h => h) (Or.inl ⟨by rfl, ?_⟩) (fun _ => by assumption) ?_
        rotate_left
        · intro w hSw
          try dsimp only at hSw
          go_simp
          try with_reducible rfl
        try simp only [Act.put, List.setIfInBounds_toArray, List.set_cons_zero, List.set_cons_succ]
        refine wpAnyG_take (i := 2) (oi := { dst := some 47, op := Op.load 24 (Operand.tmp 3), type := 24, pos := _, after := #[], guard := none }) (v := ?_) rfl (by kernel_rfl) (by kernel_rfl) (by kernel_rfl) (by kernel_rfl) (fun _ _ _ h => h) (Or.inl ⟨by rfl, ?_⟩) (by assumption) ?_
        rotate_left
        · intro w hSw
          try dsimp only at hSw
          have c0 := hSw.1.cell 0
          simp only [fcellv, List.getElem?_toArray, List.getElem?_cons_zero] at c0
          go_simp
          try with_reducible rfl
        try simp only [Act.put, List.setIfInBounds_toArray, List.set_cons_zero, List.set_cons_succ]
        refine wpAnyG_take (i := 3) (oi := { dst := some 48, op := Op.load 22 (Operand.tmp 4), type := 22, pos := _, after := #[], guard := none }) (v := ?_) rfl (by kernel_rfl) (by kernel_rfl) (by kernel_rfl) (by kernel_rfl) (fun _ _ _ h => h) (Or.inl ⟨by rfl, ?_⟩) (by assumption) ?_
        rotate_left
        · intro w hSw
          try dsimp only at hSw
          have c0 : w.cell? ⟨gf + 1, 0, none⟩ = some (.slice A r cap) := hSw.2.1.cell 0
          go_simp
          try with_reducible rfl
        try simp only [Act.put, List.setIfInBounds_toArray, List.set_cons_zero, List.set_cons_succ]
        refine wpAnyG_pure (i := 4) (oi := { dst := some 49, op := Op.move (Operand.tmp 8), type := 3, pos := _, after := #[], guard := none }) (v := ?_) rfl (by kernel_rfl) (by kernel_rfl) (by kernel_rfl) (by kernel_rfl) (fun _ _ _ h => h) (Or.inl ⟨by rfl, ?_⟩) (fun _ => by assumption) ?_
        rotate_left
        · intro w hSw
          try dsimp only at hSw
          go_simp
          try with_reducible rfl
        try simp only [Act.put, List.setIfInBounds_toArray, List.set_cons_zero, List.set_cons_succ]
        refine wpAnyG_pure (i := 5) (oi := { dst := some 50, op := Op.indexAddr 22 (Operand.tmp 48) (Operand.tmp 49), type := 0, pos := _, after := #[{ on := 3, ground := Ground.data }, { on := 4, ground := Ground.data }], guard := none }) (v := ?_) rfl (by kernel_rfl) (by kernel_rfl) (by kernel_rfl) (by kernel_rfl) (fun _ _ _ h => h) (Or.inl ⟨by rfl, ?_⟩) (fun _ => by assumption) ?_
        rotate_left
        · intro w hSw
          try dsimp only at hSw
          have hAe := HJ.out.2.2.2.1
          go_simp
          try with_reducible rfl
        try simp only [Act.put, List.setIfInBounds_toArray, List.set_cons_zero, List.set_cons_succ]
        refine wpAnyG_take (i := 6) (oi := { dst := some 51, op := Op.load 5 (Operand.tmp 50), type := 5, pos := _, after := #[{ on := 5, ground := Ground.data }], guard := none }) (v := ?_) rfl (by kernel_rfl) (by kernel_rfl) (by kernel_rfl) (by kernel_rfl) (fun _ _ _ h => h) (Or.inl ⟨by rfl, ?_⟩) (by assumption) ?_
        rotate_left
        · intro w hSw
          try dsimp only at hSw
          have c0 := hSw.2.2
          go_simp
          try with_reducible rfl
        try simp only [Act.put, List.setIfInBounds_toArray, List.set_cons_zero, List.set_cons_succ]
        refine wpAnyG_pure (i := 7) (oi := { dst := some 52, op := Op.move (Operand.tmp 10), type := 3, pos := _, after := #[], guard := none }) (v := ?_) rfl (by kernel_rfl) (by kernel_rfl) (by kernel_rfl) (by kernel_rfl) (fun _ _ _ h => h) (Or.inl ⟨by rfl, ?_⟩) (fun _ => by assumption) ?_
        rotate_left
        · intro w hSw
          try dsimp only at hSw
          go_simp
          try with_reducible rfl
        try simp only [Act.put, List.setIfInBounds_toArray, List.set_cons_zero, List.set_cons_succ]
        refine wpAnyG_one (i := 8) (o := { dst := some 53, op := Op.call { callee := Callee.value (Operand.func 45), args := #[Operand.tmp 47, Operand.tmp 51, Operand.tmp 52], argTypes := #[24, 5, 3] }, type := 5, pos := _, after := #[{ on := 2, ground := Ground.data }, { on := 6, ground := Ground.data }, { on := 7, ground := Ground.data }], guard := none }) (by kernel_rfl) rfl (fun K hK => ?_)
        go_simp
        refine (pow_any _ (some p) (FldR.some (HJ.out.1.st.fld.keep (nextN (Mem.start wr) 1))) _ x rfl (j : Int)).mono ?_
        rintro e w6 ⟨rfl, hF, hf⟩
        have hap := HAP.out
        have hf2 : Fr (fun k => k = p) wr w6 := (Fr.quiet (nextN (Mem.start wr) 1)).trans hf (fun _ _ h => by injection h with h; exact h.symm)
        have H6 := Lib.hid (And.intro (HJ.out.1.field hf2 (hF p rfl) (by omega)) hf2)
        clear hF hf hf2 hap
        try dsimp only
        refine hK.out _ _ ?_ (fun hHeld => ?_)
        · intro _
          try dsimp only
          exact ⟨H6.out.1.st.ff, H6.out.1.st.bx, cellFr H6.out.2 hx1 HJ.out.2.2.2.2⟩
        clear hK K
        try simp only [Act.put, List.setIfInBounds_toArray, List.set_cons_zero, List.set_cons_succ]
        have hHeld := hHeld (by kernel_rfl)
        refine wpAnyG_pure (i := 9) (oi := { dst := some 54, op := Op.indexAddr 22 (Operand.tmp 45) (Operand.tmp 46), type := 0, pos := _, after := #[{ on := 0, ground := Ground.data }, { on := 1, ground := Ground.data }, { on := 0, ground := Ground.phase }, { on := 1, ground := Ground.phase }, { on := 2, ground := Ground.phase }, { on := 3, ground := Ground.phase }, { on := 4, ground := Ground.phase }, { on := 5, ground := Ground.phase }, { on := 6, ground := Ground.phase }, { on := 7, ground := Ground.phase }, { on := 8, ground := Ground.phase }], guard := none }) (v := ?_) rfl (by kernel_rfl) (by kernel_rfl) (by kernel_rfl) (by kernel_rfl) (fun _ _ _ h => h) (Or.inl ⟨by rfl, ?_⟩) (fun _ => by assumption) ?_
        rotate_left
        · intro w hSw
          try dsimp only at hSw
          go_simp
          try with_reducible rfl
        try simp only [Act.put, List.setIfInBounds_toArray, List.set_cons_zero, List.set_cons_succ]
        refine wpAnyG_one (i := 10) (o := { dst := none, op := Op.store 5 (Operand.tmp 54) (Operand.tmp 53), type := 0, pos := _, after := #[{ on := 9, ground := Ground.data }, { on := 8, ground := Ground.data }, { on := 8, ground := Ground.chain }, { on := 0, ground := Ground.phase }, { on := 1, ground := Ground.phase }, { on := 2, ground := Ground.phase }, { on := 3, ground := Ground.phase }, { on := 4, ground := Ground.phase }, { on := 5, ground := Ground.phase }, { on := 6, ground := Ground.phase }, { on := 7, ground := Ground.phase }, { on := 8, ground := Ground.phase }], guard := none }) (by kernel_rfl) rfl (fun K hK => ?_)
        obtain ⟨k1, k2⟩ := H6.out.1.row.at_ HLT.out HJ.out.2.2.1
        rw [HQ.out] at k1 k2
        go_simp
        try dsimp only
        refine hK.out _ _ ?_ (fun hHeld => ?_)
        · exact fun h => (st_no (by kernel_rfl) h).elim
        clear hK K
        try simp only [Act.put, List.setIfInBounds_toArray, List.set_cons_zero, List.set_cons_succ]
        clear hHeld
        refine wpAnyG_done (by kernel_rfl) ?_ _
        refine onlyN_end ?_
        --END pow_ok1r
        gi_wp2
        go_roundw
        case rel =>
          have hs := H6.out.1.set HLT.out HJ.out.2.2.1 (by have := HAP.out; omega) HP.out.lt (by have := HAP.out; omega)
          rw [HQ.out, show powM xs i j = pow x (j : Int) from by rw [← HX.out]; rfl] at hs
          have hfr := (HJ.out.2.1.trans (H6.out.2.mono (S' := fun k => k = g ∨ k = p) fun k _ e => .inr e) fun _ _ h => h).trans ((setF (p := g) w6 ⟨g, q + j, none⟩ rfl (.int .u8 ((pow x (j : Int)).toNat : Int))).mono (S' := fun k => k = g ∨ k = p) fun k _ e => .inl e) fun _ _ h => h
          exact ⟨j + 1, by simp, HJ.out.2.2.1, hs, hfr⟩
        case measure => simp [intOf]; omega
      · obtain rfl : c = j := by omega
        have HJ := Lib.hid (And.intro h1 h2)
        clear h1 h2 hj
        gi_wp2
        exact ⟨HJ.out.2, HJ.out.1.congr fun x _ k hk => by
          unfold powUp
          by_cases e : x < i ∨ x = i ∧ k < c
          · rw [if_pos e, if_pos (by omega)]
          · rw [if_neg e, if_neg (by omega)]⟩
  case hdone =>
    intro D W hD hi hK
    have H := Lib.hid hi
    have HK := Lib.hid (And.intro hD hK)
    obtain ⟨⟨c0, c1, c2⟩, _⟩ := cells3 hi.var
    obtain ⟨⟨d0, d1, d2⟩, f0, f1, f2⟩ := cells3 hi.st.res
    obtain ⟨W3, hW3⟩ : ∃ x : World, ((W.setCell ⟨gf + 1 + 1, 0, none⟩ (.int .i64 (r : Int))).setCell ⟨gf + 1 + 1, 1, none⟩ (.int .i64 (c : Int))).setCell ⟨gf + 1 + 1, 2, none⟩ (.slice (some ⟨g, 0, none⟩) (r * c) (r * c)) = x := ⟨_, rfl⟩
    have h3 := set3 hi.st.res (.int .i64 (r : Int)) (.int .i64 (c : Int)) (.slice (some ⟨g, 0, none⟩) (r * c) (r * c))
    rw [hW3] at h3
    have HW3 := Lib.hid hW3
    have HR := Lib.hid h3
    clear hi hK hD h3 hW3
    go_wp2_with fail
    rw [HW3.out]
    have hap := HAP.out
    have hd := HK.out.1
    have hKD : W3.heap[D]? = some (.deferred (some [])) := by
      have h1 := (Array.getElem?_eq_some_iff.1 HK.out.2).1
      rw [HR.out.2.block D h1 (by omega)]; exact HK.out.2
    have hst := shut_still (B := 0) (.deferred none) hKD rfl (Nat.zero_le _)
    obtain ⟨⟨e0, e1, e2⟩, _⟩ := cells3 (hst.blk HR.out.1)
    refine ⟨by simp, .inl ⟨_, _, rfl, run_takeDeferred hKD, ?_⟩⟩
    refine ⟨.agg #[.int .i64 (r : Int), .int .i64 (c : Int), .slice (some ⟨g, 0, none⟩) (r * c) (r * c)], ?_, ?_⟩
    · simp [results, Try.results13, go_sem, e0, e1, e2]
    · have hw := (H.out.row.fr HR.out.2 (by omega)).congr (m' := powM xs) fun x hx k _ => by unfold powUp; rw [if_pos (.inl hx)]
      refine ⟨some ⟨g, 0, none⟩, r * c, rfl, Nat.le_refl _, ?_, ?_, ?_⟩
      · exact Nw.of_own (Own.down (Own.fr hw (put_fr (k := D) _) (fun g' e1 e2 => by injection e1 with e1; have := congrArg Addr.block e1; dsimp only at this; omega)) (by omega))
      · exact (H.out.st.fld.fr HR.out.2 (by omega)).fr (put_fr (k := D) _) (by omega)
      · exact (H.out.st.fr.trans HR.out.2 fun k hk e => absurd hk (by omega)).trans (put_fr (k := D) _) fun k hk e => absurd hk (by omega)
set_option maxRecDepth 100000 in
set_option maxHeartbeats 4000000 in
theorem pow_ok2 (w : World) (p : Nat) (hp : Fld w p) (A : Option Addr) (xs : List UInt8) (r cap : Nat) (hn : xs.length = r) (c : Nat) (hA : In w p A xs) (hr : r ≤ 1000 ∧ c ≤ 1000) (hr0 : r = 0) :
    Calls Try.prog 13 #[fptr (some p), .slice A r cap, .int .i64 (c : Int)] w (NewMF w p r c (powM xs)) := by
  have hl : ((r * c : Nat) : Int) ≤ 1000000000 := by
    have k1 : r * c ≤ 1000 * 1000 := Nat.mul_le_mul (by omega) (by omega)
    omega
  refine of_wide ?_
  refine callsIn_of_wp_marks Try.func13 rfl trivial ?_ rfl
  refine wpIn_wide.2 ?_
  simp only [Try.ntmps13, List.size_toArray, List.length_cons, List.length_nil, Nat.reduceAdd, Nat.reduceSub, Array.replicate_succ, Array.replicate_zero, List.push_toArray, List.append_toArray, List.nil_append, List.cons_append]
  obtain ⟨w1, h1, hb1, hs1, hw1⟩ := powI_start w p hp A r cap
  obtain ⟨gf, hgf⟩ : ∃ x, w.heap.size = x := ⟨_, rfl⟩
  rw [hgf] at h1
  have HW1 := Lib.hid hw1
  have H1 := Lib.hid (And.intro h1 (And.intro hb1 hs1))
  have HG := Lib.hid hgf
  have HA := Lib.hid hA
  have HP := Lib.hid hp
  have HRC := Lib.hid (show r ≤ 1000 ∧ c ≤ 1000 from by omega)
  have HN := Lib.hid (And.intro hn hl)
  have hr1 : decide ((0 : Int) < (r : Int)) = false := decide_eq_false (by omega)
  have hr2 : decide (0 < r) = false := decide_eq_false (by omega)
  have hlen : decide ((65536 : Int) < (r : Int)) = false := decide_eq_false (by omega)
  have hc1 : decide ((c : Int) < 0) = false := decide_eq_false (by omega)
  have hc2 : decide ((65536 : Int) < (c : Int)) = false := decide_eq_false (by omega)
  clear hr hr0
  clear hb1 hs1 hw1 hgf hA hp hn hl h1
  go_wp2_with fail
  rw [HW1.out, HG.out]
  refine (none_any w1 r c HN.out.2).mono ?_
  rintro e w2 ⟨g, rfl, ho, hb⟩
  have H2 := Lib.hid (And.intro (H1.out.1.keep hb) (And.intro (show Wm w2 w1.heap.size g (r * c) r c (fun _ _ => 0) from ho) (show w1.heap.size ≤ w2.heap.size from hb.size)))
  clear ho hb 
  go_wp2_with fail
  obtain ⟨w3, g7, h3, hw3, hg7⟩ := boxed w2 (mcells r c (some ⟨g, 0, none⟩) (r * c) (r * c))
  have HW3 := Lib.hid (show w2.alloc (.cells #[.int .i64 (r : Int), .int .i64 (c : Int), .slice (some ⟨g, 0, none⟩) (r * c) (r * c)] 27) = w3 from hw3)
  rw [HW3.out, hg7]
  have H3 := Lib.hid h3
  have HG7 := Lib.hid hg7
  clear hw3 h3 hg7
  refine (rows_any w3 _ _ _).mono ?_
  rintro e w4' ⟨rfl, rfl⟩
  obtain ⟨w4, bm, h4, hw4, hbm⟩ := boxed w3 (mcells r c (some ⟨g, 0, none⟩) (r * c) (r * c))
  have HW4 := Lib.hid (show w3.alloc (.cells #[.int .i64 (r : Int), .int .i64 (c : Int), .slice (some ⟨g, 0, none⟩) (r * c) (r * c)] 27) = w4 from hw4)
  rw [HW4.out, hbm]
  have hap : w.heap.size = gf ∧ w1.heap.size = gf + 3 ∧ w1.heap.size ≤ g ∧ g < g7 ∧ bm = g7 + 1 ∧ w4.heap.size = bm + 1 ∧ p < gf := by
    have k1 := H1.out.2.2; have k2 := H2.out.2.1.form; have k3 := HG7.out; have k4 := H3.out.2.2; have k5 := h4.2.2; have k6 := HP.out.lt; have k7 := HG.out
    omega
  have HAP := Lib.hid hap
  have HI0 := Lib.hid (show PowR w p gf (gf + 1) (gf + 1 + 1) g7 w1.heap.size g r c A r cap xs 0 0 w4 from ⟨(H2.out.1.keep H3.out.1).keep h4.1, H3.out.2.1.keep h4.1, ((H2.out.2.1.keep H3.out.1).keep h4.1).congr fun x _ k _ => by unfold powUp; rw [if_neg (by omega)]⟩)
  have H4 := Lib.hid h4
  clear hw4 hbm h4 hap
  go_wp2_with fail
  refine (wpIn_wide (n := 5)).1 ?_
  refine wpIn_rows bm r c (some ⟨g, 0, none⟩) (r * c) (r * c) rfl H4.out.2.1 (by have := HRC.out; omega) rfl HN.out.2 (Nat.le_refl _) (fun k => k = g ∨ k = p) (by have := HAP.out; omega)
    (fun i W => PowR w p gf (gf + 1) (gf + 1 + 1) g7 w1.heap.size g r c A r cap xs i 0 W) ?hI HI0.out ?hround ?hdone
  case hI =>
    intro i W W' h hf
    have hap := HAP.out
    exact h.fr_ hf (fun k e => by omega) HP.out.lt ⟨by omega, by omega, by omega, by omega, by omega⟩
  case hround =>
    intro l i W hi hlt
    have HLT := Lib.hid hlt
    obtain ⟨Y, hY⟩ : ∃ Y, rowA (some ⟨g, 0, none⟩) c i = Y := ⟨_, rfl⟩
    rw [hY]
    have HY := Lib.hid hY
    clear hlt hi hY
    gi_wp2
    refine ⟨trivial, fun W2 hi2 => ?_⟩
    have H := Lib.hid hi2
    clear hi2
    gi_wp2
    gi_loopw [42] (fun x wr => ∃ j : Nat, x = .int .i64 (j : Int) ∧ j ≤ c ∧ PowR w p gf (gf + 1) (gf + 1 + 1) g7 w1.heap.size g r c A r cap xs i j wr ∧ Fr (fun k => k = g ∨ k = p) W2 wr) (fun x _ => c - (intOf x).toNat)
    case atStart => exact ⟨0, rfl, Nat.zero_le _, H.out, Fr.refl _ _⟩
    case round =>
      obtain ⟨j, rfl, hj, h1, h2⟩ := hrel
      by_cases hjc : j < c
      · obtain ⟨q, hq⟩ : ∃ q, i * c = q := ⟨_, rfl⟩
        have hy := HY.out
        rw [rowA_some (by omega), Nat.zero_add, hq] at hy
        subst hy
        have HQ := Lib.hid hq
        have hji : (j : Int) < (c : Int) := by omega
        have hj0 : (0 : Int) ≤ (j : Int) := by omega
        have hj9 : (j : Int) ≤ 1000 := by have := HRC.out; omega
        have hir : (i : Int) < (r : Int) := by have := HLT.out; omega
        have hi0 : (0 : Int) ≤ (i : Int) := by omega
        obtain ⟨ab, off, hAe, hne, hx1⟩ : ∃ ab off, A = some ⟨ab, off, none⟩ ∧ ab ≠ p ∧ wr.cell? ⟨ab, off + i, none⟩ = some (.int .u8 ((xs.getD i 0).toNat : Int)) := by
          have hlt : i < xs.length := by rw [HN.out.1]; exact HLT.out
          obtain ⟨ab, off, e, _, hc⟩ := (HA.out.field h1.st.fr).1.at_ (k := i) hlt
          rw [List.getD_eq_getElem?_getD, List.getElem?_eq_getElem hlt]
          exact ⟨ab, off, e, HA.out.2 ab off e (by omega), hc⟩
        have HJ := Lib.hid (And.intro h1 (And.intro h2 (And.intro hjc (And.intro hAe hne))))
        obtain ⟨x, hx⟩ : ∃ x, xs.getD i 0 = x := ⟨_, rfl⟩
        rw [hx] at hx1
        have HX := Lib.hid hx
        clear h1 h2 hj hjc hq hx hAe hne
        gi_wp2
        --HELD pow_ok2r
        refine wpIn_only ?_
        refine wpIn_heldG (fun w' => Blk w' gf 24 (fcellv p) ∧ Blk w' (gf + 1) 22 #[.slice A r cap] ∧ w'.cell? ⟨ab, off + i, none⟩ = some (.int .u8 (x.toNat : Int))) [10] (by kernel_rfl) (by kernel_rfl) (fun ⟨_, _, h⟩ => h) ?hs0 ?rg0
        case hs0 =>
          exact ⟨HJ.out.1.st.ff, HJ.out.1.st.bx, hx1⟩
        case rg0 =>
        intro hHeld
        refine wpAnyG_pure (i := 0) (oi := { dst := some 45, op := Op.move (Operand.tmp 9), type := 22, pos := _, after := #[], guard := none }) (v := ?_) rfl (by kernel_rfl) (by kernel_rfl) (by kernel_rfl) (by kernel_rfl) (fun _ _ _ h => h) (Or.inl ⟨by rfl, ?_⟩) (fun _ => by assumption) ?_
        rotate_left
        · intro w hSw
          try dsimp only at hSw
          go_simp
          try with_reducible rfl
        try simp only [Act.put, List.setIfInBounds_toArray, List.set_cons_zero, List.set_cons_succ]
        refine wpAnyG_pure (i := 1) (oi := { dst := some 46, op := Op.move (Operand.tmp 10), type := 3, pos := _, after := #[], guard := none }) (v := ?_) rfl (by kernel_rfl) (by kernel_rfl) (by kernel_rfl) (by kernel_rfl) (fun _ _ _ h => h) (Or.inl ⟨by rfl, ?_⟩) (fun _ => by assumption) ?_
        rotate_left
        · intro w hSw
          try dsimp only at hSw
          go_simp
          try with_reducible rfl
        try simp only [Act.put, List.setIfInBounds_toArray, List.set_cons_zero, List.set_cons_succ]
        refine wpAnyG_take (i := 2) (oi := { dst := some 47, op := Op.load 24 (Operand.tmp 3), type := 24, pos := _, after := #[], guard := none }) (v := ?_) rfl (by kernel_rfl) (by kernel_rfl) (by kernel_rfl) (by kernel_rfl) (fun _ _ _ h => h) (Or.inl ⟨by rfl, ?_⟩) (by assumption) ?_
        rotate_left
        · intro w hSw
          try dsimp only at hSw
          have c0 := hSw.1.cell 0
          simp only [fcellv, List.getElem?_toArray, List.getElem?_cons_zero] at c0
          go_simp
          try with_reducible rfl
        try simp only [Act.put, List.setIfInBounds_toArray, List.set_cons_zero, List.set_cons_succ]
        refine wpAnyG_take (i := 3) (oi := { dst := some 48, op := Op.load 22 (Operand.tmp 4), type := 22, pos := _, after := #[], guard := none }) (v := ?_) rfl (by kernel_rfl) (by kernel_rfl) (by kernel_rfl) (by kernel_rfl) (fun _ _ _ h => h) (Or.inl ⟨by rfl, ?_⟩) (by assumption) ?_
        rotate_left
        · intro w hSw
          try dsimp only at hSw
          have c0 : w.cell? ⟨gf + 1, 0, none⟩ = some (.slice A r cap) := hSw.2.1.cell 0
          go_simp
          try with_reducible rfl
        try simp only [Act.put, List.setIfInBounds_toArray, List.set_cons_zero, List.set_cons_succ]
        refine wpAnyG_pure (i := 4) (oi := { dst := some 49, op := Op.move (Operand.tmp 8), type := 3, pos := _, after := #[], guard := none }) (v := ?_) rfl (by kernel_rfl) (by kernel_rfl) (by kernel_rfl) (by kernel_rfl) (fun _ _ _ h => h) (Or.inl ⟨by rfl, ?_⟩) (fun _ => by assumption) ?_
        rotate_left
        · intro w hSw
          try dsimp only at hSw
          go_simp
          try with_reducible rfl
        try simp only [Act.put, List.setIfInBounds_toArray, List.set_cons_zero, List.set_cons_succ]
        refine wpAnyG_pure (i := 5) (oi := { dst := some 50, op := Op.indexAddr 22 (Operand.tmp 48) (Operand.tmp 49), type := 0, pos := _, after := #[{ on := 3, ground := Ground.data }, { on := 4, ground := Ground.data }], guard := none }) (v := ?_) rfl (by kernel_rfl) (by kernel_rfl) (by kernel_rfl) (by kernel_rfl) (fun _ _ _ h => h) (Or.inl ⟨by rfl, ?_⟩) (fun _ => by assumption) ?_
        rotate_left
        · intro w hSw
          try dsimp only at hSw
          have hAe := HJ.out.2.2.2.1
          go_simp
          try with_reducible rfl
        try simp only [Act.put, List.setIfInBounds_toArray, List.set_cons_zero, List.set_cons_succ]
        refine wpAnyG_take (i := 6) (oi := { dst := some 51, op := Op.load 5 (Operand.tmp 50), type := 5, pos := _, after := #[{ on := 5, ground := Ground.data }], guard := none }) (v := ?_) rfl (by kernel_rfl) (by kernel_rfl) (by kernel_rfl) (by kernel_rfl) (fun _ _ _ h => h) (Or.inl ⟨by rfl, ?_⟩) (by assumption) ?_
        rotate_left
        · intro w hSw
          try dsimp only at hSw
          have c0 := hSw.2.2
          go_simp
          try with_reducible rfl
        try simp only [Act.put, List.setIfInBounds_toArray, List.set_cons_zero, List.set_cons_succ]
        refine wpAnyG_pure (i := 7) (oi := { dst := some 52, op := Op.move (Operand.tmp 10), type := 3, pos := _, after := #[], guard := none }) (v := ?_) rfl (by kernel_rfl) (by kernel_rfl) (by kernel_rfl) (by kernel_rfl) (fun _ _ _ h => h) (Or.inl ⟨by rfl, ?_⟩) (fun _ => by assumption) ?_
        rotate_left
        · intro w hSw
          try dsimp only at hSw
          go_simp
          try with_reducible rfl
        try simp only [Act.put, List.setIfInBounds_toArray, List.set_cons_zero, List.set_cons_succ]
        refine wpAnyG_one (i := 8) (o := { dst := some 53, op := Op.call { callee := Callee.value (Operand.func 45), args := #[Operand.tmp 47, Operand.tmp 51, Operand.tmp 52], argTypes := #[24, 5, 3] }, type := 5, pos := _, after := #[{ on := 2, ground := Ground.data }, { on := 6, ground := Ground.data }, { on := 7, ground := Ground.data }], guard := none }) (by kernel_rfl) rfl (fun K hK => ?_)
        go_simp
        refine (pow_any _ (some p) (FldR.some (HJ.out.1.st.fld.keep (nextN (Mem.start wr) 1))) _ x rfl (j : Int)).mono ?_
        rintro e w6 ⟨rfl, hF, hf⟩
        have hap := HAP.out
        have hf2 : Fr (fun k => k = p) wr w6 := (Fr.quiet (nextN (Mem.start wr) 1)).trans hf (fun _ _ h => by injection h with h; exact h.symm)
        have H6 := Lib.hid (And.intro (HJ.out.1.field hf2 (hF p rfl) (by omega)) hf2)
        clear hF hf hf2 hap
        try dsimp only
        refine hK.out _ _ ?_ (fun hHeld => ?_)
        · intro _
          try dsimp only
          exact ⟨H6.out.1.st.ff, H6.out.1.st.bx, cellFr H6.out.2 hx1 HJ.out.2.2.2.2⟩
        clear hK K
        try simp only [Act.put, List.setIfInBounds_toArray, List.set_cons_zero, List.set_cons_succ]
        have hHeld := hHeld (by kernel_rfl)
        refine wpAnyG_pure (i := 9) (oi := { dst := some 54, op := Op.indexAddr 22 (Operand.tmp 45) (Operand.tmp 46), type := 0, pos := _, after := #[{ on := 0, ground := Ground.data }, { on := 1, ground := Ground.data }, { on := 0, ground := Ground.phase }, { on := 1, ground := Ground.phase }, { on := 2, ground := Ground.phase }, { on := 3, ground := Ground.phase }, { on := 4, ground := Ground.phase }, { on := 5, ground := Ground.phase }, { on := 6, ground := Ground.phase }, { on := 7, ground := Ground.phase }, { on := 8, ground := Ground.phase }], guard := none }) (v := ?_) rfl (by kernel_rfl) (by kernel_rfl) (by kernel_rfl) (by kernel_rfl) (fun _ _ _ h => h) (Or.inl ⟨by rfl, ?_⟩) (fun _ => by assumption) ?_
        rotate_left
        · intro w hSw
          try dsimp only at hSw
          go_simp
          try with_reducible rfl
        try simp only [Act.put, List.setIfInBounds_toArray, List.set_cons_zero, List.set_cons_succ]
        refine wpAnyG_one (i := 10) (o := { dst := none, op := Op.store 5 (Operand.tmp 54) (Operand.tmp 53), type := 0, pos := _, after := #[{ on := 9, ground := Ground.data }, { on := 8, ground := Ground.data }, { on := 8, ground := Ground.chain }, { on := 0, ground := Ground.phase }, { on := 1, ground := Ground.phase }, { on := 2, ground := Ground.phase }, { on := 3, ground := Ground.phase }, { on := 4, ground := Ground.phase }, { on := 5, ground := Ground.phase }, { on := 6, ground := Ground.phase }, { on := 7, ground := Ground.phase }, { on := 8, ground := Ground.phase }], guard := none }) (by kernel_rfl) rfl (fun K hK => ?_)
        obtain ⟨k1, k2⟩ := H6.out.1.row.at_ HLT.out HJ.out.2.2.1
        rw [HQ.out] at k1 k2
        go_simp
        try dsimp only
        refine hK.out _ _ ?_ (fun hHeld => ?_)
        · exact fun h => (st_no (by kernel_rfl) h).elim
        clear hK K
        try simp only [Act.put, List.setIfInBounds_toArray, List.set_cons_zero, List.set_cons_succ]
        clear hHeld
        refine wpAnyG_done (by kernel_rfl) ?_ _
        refine onlyN_end ?_
        --END pow_ok2r
        gi_wp2
        go_roundw
        case rel =>
          have hs := H6.out.1.set HLT.out HJ.out.2.2.1 (by have := HAP.out; omega) HP.out.lt (by have := HAP.out; omega)
          rw [HQ.out, show powM xs i j = pow x (j : Int) from by rw [← HX.out]; rfl] at hs
          have hfr := (HJ.out.2.1.trans (H6.out.2.mono (S' := fun k => k = g ∨ k = p) fun k _ e => .inr e) fun _ _ h => h).trans ((setF (p := g) w6 ⟨g, q + j, none⟩ rfl (.int .u8 ((pow x (j : Int)).toNat : Int))).mono (S' := fun k => k = g ∨ k = p) fun k _ e => .inl e) fun _ _ h => h
          exact ⟨j + 1, by simp, HJ.out.2.2.1, hs, hfr⟩
        case measure => simp [intOf]; omega
      · obtain rfl : c = j := by omega
        have HJ := Lib.hid (And.intro h1 h2)
        clear h1 h2 hj
        gi_wp2
        exact ⟨HJ.out.2, HJ.out.1.congr fun x _ k hk => by
          unfold powUp
          by_cases e : x < i ∨ x = i ∧ k < c
          · rw [if_pos e, if_pos (by omega)]
          · rw [if_neg e, if_neg (by omega)]⟩
  case hdone =>
    intro D W hD hi hK
    have H := Lib.hid hi
    have HK := Lib.hid (And.intro hD hK)
    obtain ⟨⟨c0, c1, c2⟩, _⟩ := cells3 hi.var
    obtain ⟨⟨d0, d1, d2⟩, f0, f1, f2⟩ := cells3 hi.st.res
    obtain ⟨W3, hW3⟩ : ∃ x : World, ((W.setCell ⟨gf + 1 + 1, 0, none⟩ (.int .i64 (r : Int))).setCell ⟨gf + 1 + 1, 1, none⟩ (.int .i64 (c : Int))).setCell ⟨gf + 1 + 1, 2, none⟩ (.slice (some ⟨g, 0, none⟩) (r * c) (r * c)) = x := ⟨_, rfl⟩
    have h3 := set3 hi.st.res (.int .i64 (r : Int)) (.int .i64 (c : Int)) (.slice (some ⟨g, 0, none⟩) (r * c) (r * c))
    rw [hW3] at h3
    have HW3 := Lib.hid hW3
    have HR := Lib.hid h3
    clear hi hK hD h3 hW3
    go_wp2_with fail
    rw [HW3.out]
    have hap := HAP.out
    have hd := HK.out.1
    have hKD : W3.heap[D]? = some (.deferred (some [])) := by
      have h1 := (Array.getElem?_eq_some_iff.1 HK.out.2).1
      rw [HR.out.2.block D h1 (by omega)]; exact HK.out.2
    have hst := shut_still (B := 0) (.deferred none) hKD rfl (Nat.zero_le _)
    obtain ⟨⟨e0, e1, e2⟩, _⟩ := cells3 (hst.blk HR.out.1)
    refine ⟨by simp, .inl ⟨_, _, rfl, run_takeDeferred hKD, ?_⟩⟩
    refine ⟨.agg #[.int .i64 (r : Int), .int .i64 (c : Int), .slice (some ⟨g, 0, none⟩) (r * c) (r * c)], ?_, ?_⟩
    · simp [results, Try.results13, go_sem, e0, e1, e2]
    · have hw := (H.out.row.fr HR.out.2 (by omega)).congr (m' := powM xs) fun x hx k _ => by unfold powUp; rw [if_pos (.inl hx)]
      refine ⟨some ⟨g, 0, none⟩, r * c, rfl, Nat.le_refl _, ?_, ?_, ?_⟩
      · exact Nw.of_own (Own.down (Own.fr hw (put_fr (k := D) _) (fun g' e1 e2 => by injection e1 with e1; have := congrArg Addr.block e1; dsimp only at this; omega)) (by omega))
      · exact (H.out.st.fld.fr HR.out.2 (by omega)).fr (put_fr (k := D) _) (by omega)
      · exact (H.out.st.fr.trans HR.out.2 fun k hk e => absurd hk (by omega)).trans (put_fr (k := D) _) fun k hk e => absurd hk (by omega)
set_option maxRecDepth 100000 in
set_option maxHeartbeats 4000000 in
theorem pow_ok3 (w : World) (p : Nat) (hp : Fld w p) (A : Option Addr) (xs : List UInt8) (r cap : Nat) (hn : xs.length = r) (cols : Int) (hA : In w p A xs) (hr : r ≤ 1000) (hc : cols < 0) :
    Calls Try.prog 13 #[fptr (some p), .slice A r cap, .int .i64 cols] w (NewMF w p r 0 (powM xs)) := by
  have hl : ((r * 0 : Nat) : Int) ≤ 1000000000 := by
    have k1 : r * 0 ≤ 1000 * 1000 := Nat.mul_le_mul (by omega) (by omega)
    omega
  refine of_wide ?_
  refine callsIn_of_wp_marks Try.func13 rfl trivial ?_ rfl
  refine wpIn_wide.2 ?_
  simp only [Try.ntmps13, List.size_toArray, List.length_cons, List.length_nil, Nat.reduceAdd, Nat.reduceSub, Array.replicate_succ, Array.replicate_zero, List.push_toArray, List.append_toArray, List.nil_append, List.cons_append]
  obtain ⟨w1, h1, hb1, hs1, hw1⟩ := powI_start w p hp A r cap
  obtain ⟨gf, hgf⟩ : ∃ x, w.heap.size = x := ⟨_, rfl⟩
  rw [hgf] at h1
  have HW1 := Lib.hid hw1
  have H1 := Lib.hid (And.intro h1 (And.intro hb1 hs1))
  have HG := Lib.hid hgf
  have HA := Lib.hid hA
  have HP := Lib.hid hp
  have HRC := Lib.hid (show r ≤ 1000 ∧ 0 ≤ 1000 from by omega)
  have HN := Lib.hid (And.intro hn hl)
  have hlen : decide ((65536 : Int) < (r : Int)) = false := decide_eq_false (by omega)
  have hc1 : decide (cols < 0) = true := decide_eq_true hc
  clear hr hc
  clear hb1 hs1 hw1 hgf hA hp hn hl h1
  go_wp2_with fail
  rw [HW1.out, HG.out]
  refine (none_any w1 r 0 HN.out.2).mono ?_
  rintro e w2 ⟨g, rfl, ho, hb⟩
  have H2 := Lib.hid (And.intro (H1.out.1.keep hb) (And.intro (show Wm w2 w1.heap.size g (r * 0) r 0 (fun _ _ => 0) from ho) (show w1.heap.size ≤ w2.heap.size from hb.size)))
  clear ho hb hlen hc1
  go_wp2_with fail
  obtain ⟨w3, g7, h3, hw3, hg7⟩ := boxed w2 (mcells r 0 (some ⟨g, 0, none⟩) (0) (0))
  have HW3 := Lib.hid (show w2.alloc (.cells #[.int .i64 (r : Int), .int .i64 0, .slice (some ⟨g, 0, none⟩) (0) (0)] 27) = w3 from hw3)
  rw [HW3.out, hg7]
  have H3 := Lib.hid h3
  have HG7 := Lib.hid hg7
  clear hw3 h3 hg7
  refine (rows_any w3 _ _ _).mono ?_
  rintro e w4' ⟨rfl, rfl⟩
  obtain ⟨w4, bm, h4, hw4, hbm⟩ := boxed w3 (mcells r 0 (some ⟨g, 0, none⟩) (0) (0))
  have HW4 := Lib.hid (show w3.alloc (.cells #[.int .i64 (r : Int), .int .i64 0, .slice (some ⟨g, 0, none⟩) (0) (0)] 27) = w4 from hw4)
  rw [HW4.out, hbm]
  have hap : w.heap.size = gf ∧ w1.heap.size = gf + 3 ∧ w1.heap.size ≤ g ∧ g < g7 ∧ bm = g7 + 1 ∧ w4.heap.size = bm + 1 ∧ p < gf := by
    have k1 := H1.out.2.2; have k2 := H2.out.2.1.form; have k3 := HG7.out; have k4 := H3.out.2.2; have k5 := h4.2.2; have k6 := HP.out.lt; have k7 := HG.out
    omega
  have HAP := Lib.hid hap
  have HI0 := Lib.hid (show PowR w p gf (gf + 1) (gf + 1 + 1) g7 w1.heap.size g r 0 A r cap xs 0 0 w4 from ⟨(H2.out.1.keep H3.out.1).keep h4.1, H3.out.2.1.keep h4.1, ((H2.out.2.1.keep H3.out.1).keep h4.1).congr fun x _ k _ => by unfold powUp; rw [if_neg (by omega)]⟩)
  have H4 := Lib.hid h4
  clear hw4 hbm h4 hap
  go_wp2_with fail
  refine (wpIn_wide (n := 5)).1 ?_
  refine wpIn_rows bm r 0 (some ⟨g, 0, none⟩) (0) (0) rfl H4.out.2.1 (by have := HRC.out; omega) rfl HN.out.2 (Nat.le_refl _) (fun k => k = g ∨ k = p) (by have := HAP.out; omega)
    (fun i W => PowR w p gf (gf + 1) (gf + 1 + 1) g7 w1.heap.size g r 0 A r cap xs i 0 W) ?hI HI0.out ?hround ?hdone
  case hI =>
    intro i W W' h hf
    have hap := HAP.out
    exact h.fr_ hf (fun k e => by omega) HP.out.lt ⟨by omega, by omega, by omega, by omega, by omega⟩
  case hround =>
    intro l i W hi hlt
    have HLT := Lib.hid hlt
    obtain ⟨Y, hY⟩ : ∃ Y, rowA (some ⟨g, 0, none⟩) 0 i = Y := ⟨_, rfl⟩
    rw [hY]
    have HY := Lib.hid hY
    clear hlt hi hY
    gi_wp2
    refine ⟨trivial, fun W2 hi2 => ?_⟩
    have H := Lib.hid hi2
    clear hi2
    gi_wp2
    gi_loopw [42] (fun x wr => ∃ j : Nat, x = .int .i64 (j : Int) ∧ j ≤ 0 ∧ PowR w p gf (gf + 1) (gf + 1 + 1) g7 w1.heap.size g r 0 A r cap xs i j wr ∧ Fr (fun k => k = g ∨ k = p) W2 wr) (fun x _ => 0 - (intOf x).toNat)
    case atStart => exact ⟨0, rfl, Nat.zero_le _, H.out, Fr.refl _ _⟩
    case round =>
      obtain ⟨j, rfl, hj, h1, h2⟩ := hrel
      by_cases hjc : j < 0
      · omega
      · obtain rfl : j = 0 := by omega
        have HJ := Lib.hid (And.intro h1 h2)
        clear h1 h2 hj
        gi_wp2
        exact ⟨HJ.out.2, HJ.out.1.congr fun x _ k hk => by
          unfold powUp
          by_cases e : x < i ∨ x = i ∧ k < 0
          · rw [if_pos e, if_pos (by omega)]
          · rw [if_neg e, if_neg (by omega)]⟩
  case hdone =>
    intro D W hD hi hK
    have H := Lib.hid hi
    have HK := Lib.hid (And.intro hD hK)
    obtain ⟨⟨c0, c1, c2⟩, _⟩ := cells3 hi.var
    obtain ⟨⟨d0, d1, d2⟩, f0, f1, f2⟩ := cells3 hi.st.res
    obtain ⟨W3, hW3⟩ : ∃ x : World, ((W.setCell ⟨gf + 1 + 1, 0, none⟩ (.int .i64 (r : Int))).setCell ⟨gf + 1 + 1, 1, none⟩ (.int .i64 0)).setCell ⟨gf + 1 + 1, 2, none⟩ (.slice (some ⟨g, 0, none⟩) (0) (0)) = x := ⟨_, rfl⟩
    have h3 := set3 hi.st.res (.int .i64 (r : Int)) (.int .i64 0) (.slice (some ⟨g, 0, none⟩) (0) (0))
    rw [hW3] at h3
    have HW3 := Lib.hid hW3
    have HR := Lib.hid h3
    clear hi hK hD h3 hW3
    go_wp2_with fail
    rw [HW3.out]
    have hap := HAP.out
    have hd := HK.out.1
    have hKD : W3.heap[D]? = some (.deferred (some [])) := by
      have h1 := (Array.getElem?_eq_some_iff.1 HK.out.2).1
      rw [HR.out.2.block D h1 (by omega)]; exact HK.out.2
    have hst := shut_still (B := 0) (.deferred none) hKD rfl (Nat.zero_le _)
    obtain ⟨⟨e0, e1, e2⟩, _⟩ := cells3 (hst.blk HR.out.1)
    refine ⟨by simp, .inl ⟨_, _, rfl, run_takeDeferred hKD, ?_⟩⟩
    refine ⟨.agg #[.int .i64 (r : Int), .int .i64 0, .slice (some ⟨g, 0, none⟩) (0) (0)], ?_, ?_⟩
    · simp [results, Try.results13, go_sem, e0, e1, e2]
    · have hw := (H.out.row.fr HR.out.2 (by omega)).congr (m' := powM xs) fun x hx k _ => by unfold powUp; rw [if_pos (.inl hx)]
      refine ⟨some ⟨g, 0, none⟩, 0, rfl, Nat.le_refl _, ?_, ?_, ?_⟩
      · exact Nw.of_own (Own.down (Own.fr hw (put_fr (k := D) _) (fun g' e1 e2 => by injection e1 with e1; have := congrArg Addr.block e1; dsimp only at this; omega)) (by omega))
      · exact (H.out.st.fld.fr HR.out.2 (by omega)).fr (put_fr (k := D) _) (by omega)
      · exact (H.out.st.fr.trans HR.out.2 fun k hk e => absurd hk (by omega)).trans (put_fr (k := D) _) fun k hk e => absurd hk (by omega)
end Go.Proofs.Ythdapoipfnnaeaa.MxW
/- Symmetric. -/
namespace Go.Proofs.Ythdapoipfnnaeaa.MxW
open Go.RowKit Go.Shelf Mem Gf FdW Mx Rng
open PlW (In)
set_option linter.unusedVariables false
attribute [local go_sem] Oper.semAt_some wide_fn

/-- Where row i of a packed one begins. -/
def offS (n : Nat) : Nat → Nat
  | 0 => 0
  | i + 1 => offS n i + (n - i)
def symM (n : Nat) (b : List UInt8) : M := fun x y => if x ≤ y then b.getD (offS n x + (y - x)) 0 else b.getD (offS n y + (x - y)) 0
/-- Rows ahead of i whole, row i up to column j. -/
def symUp (n : Nat) (b : List UInt8) (i j : Nat) : M := fun x y => if min x y < i ∨ (min x y = i ∧ max x y < j) then symM n b x y else 0
theorem offS_two (n : Nat) : ∀ i, i ≤ n → 2 * offS n i + i * i = i * (2 * n + 1)
  | 0, _ => by simp [offS]
  | i + 1, h => by
    have ih := offS_two n i (by omega)
    unfold offS
    obtain ⟨d, rfl⟩ : ∃ d, n = i + 1 + d := ⟨n - (i + 1), by omega⟩
    rw [show i + 1 + d - i = d + 1 by omega]
    simp only [Nat.add_mul, Nat.mul_add, Nat.one_mul, Nat.mul_one] at ih ⊢
    omega
theorem offS_len (n : Nat) : 2 * offS n n = n * (n + 1) := by
  have h := offS_two n n (Nat.le_refl _)
  simp only [Nat.mul_add, Nat.mul_one] at h ⊢
  have e : n * (2 * n) = 2 * (n * n) := by rw [← Nat.mul_assoc, Nat.mul_comm n 2, Nat.mul_assoc]
  omega
theorem offS_mono {n i k : Nat} (h : i ≤ k) : offS n i ≤ offS n k := by
  induction k with
  | zero => obtain rfl : i = 0 := by omega
            exact Nat.le_refl _
  | succ k ih =>
    by_cases e : i = k + 1
    · rw [e]; exact Nat.le_refl _
    · have := ih (by omega)
      show offS n i ≤ offS n k + (n - k)
      omega
theorem offS_lt {n i j : Nat} (hi : i < n) (hj : i ≤ j) (hjn : j < n) : offS n i + (j - i) < offS n n := by
  have h1 : offS n (i + 1) ≤ offS n n := offS_mono (by omega)
  have h2 : offS n (i + 1) = offS n i + (n - i) := rfl
  omega
theorem sym_step (n : Nat) (b : List UInt8) {i j : Nat} (hij : i ≤ j) (x y : Nat) : upd (upd (symUp n b i j) i j (b.getD (offS n i + (j - i)) 0)) j i (b.getD (offS n i + (j - i)) 0) x y = symUp n b i (j + 1) x y := by
  have hs : ∀ x y, (x = j ∧ y = i) ∨ (x = i ∧ y = j) → symM n b x y = b.getD (offS n i + (j - i)) 0 := fun x y h => by
    unfold symM
    rcases h with ⟨rfl, rfl⟩ | ⟨rfl, rfl⟩
    · by_cases e : x ≤ y
      · obtain rfl : x = y := by omega
        rw [if_pos (Nat.le_refl _)]
      · rw [if_neg e]
    · rw [if_pos hij]
  unfold upd symUp
  by_cases h1 : x = j ∧ y = i
  · rw [if_pos h1, if_pos (by omega), hs x y (.inl h1)]
  · rw [if_neg h1]
    by_cases h2 : x = i ∧ y = j
    · rw [if_pos h2, if_pos (by omega), hs x y (.inr h2)]
    · rw [if_neg h2]
      by_cases h3 : min x y < i ∨ min x y = i ∧ max x y < j
      · rw [if_pos h3, if_pos (by omega)]
      · rw [if_neg h3, if_neg (by omega)]
theorem sym_next (n : Nat) (b : List UInt8) (i x y : Nat) (hx : x < n) (hy : y < n) : symUp n b i n x y = symUp n b (i + 1) (i + 1) x y := by
  unfold symUp
  by_cases h : min x y < i ∨ min x y = i ∧ max x y < n
  · rw [if_pos h, if_pos (by omega)]
  · rw [if_neg h, if_neg (by omega)]
/-- While Symmetric goes on. -/
structure SymI (w : World) (g2 g3 g4 g6 B g n : Nat) (b : List UInt8) (i j : Nat) (W : World) : Prop where
  below : Below w.heap.size w W
  bn : Blk W g2 3 #[.int .i64 (n : Int)]
  b3 : ∃ Y l c, Blk W g3 22 #[.slice Y l c] ∧ l = b.length - (offS n i + (j - i)) ∧ l ≤ c ∧ c ≤ maxLen ∧ Bytes W w.heap.size Y (b.drop (offS n i + (j - i)))
  res : Blk W g4 27 zmx
  var : Blk W g6 27 (mcells n n (some ⟨g, 0, none⟩) (n * n) (n * n))
  row : Wm W B g (n * n) n n (symUp n b i j)
section
variable {w W W' : World} {g2 g3 g4 g6 B g n : Nat} {b : List UInt8} {i j : Nat}
theorem SymI.fr_ {S : Nat → Prop} (h : SymI w g2 g3 g4 g6 B g n b i j W) (hf : Fr S W W') (hS : ∀ k, S k → w.heap.size ≤ k) (hg : ¬ S g2 ∧ ¬ S g3 ∧ ¬ S g4 ∧ ¬ S g6 ∧ ¬ S g) : SymI w g2 g3 g4 g6 B g n b i j W' := by
  obtain ⟨Y, l, c, h1, h2, h3, h4, h5⟩ := h.b3
  exact ⟨h.below.trans (hf.below h.below.size hS), h.bn.fr hf hg.1, ⟨Y, l, c, h1.fr hf hg.2.1, h2, h3, h4, h5.below (hf.below h.below.size hS)⟩, h.res.fr hf hg.2.2.1, h.var.fr hf hg.2.2.2.1, h.row.fr hf hg.2.2.2.2⟩
theorem SymI.keep (h : SymI w g2 g3 g4 g6 B g n b i j W) (hb : Below W.heap.size W W') : SymI w g2 g3 g4 g6 B g n b i j W' :=
  h.fr_ (Fr.quiet (S := fun _ => False) hb) (fun _ h => h.elim) ⟨fun h => h, fun h => h, fun h => h, fun h => h, fun h => h⟩
theorem SymI.congr {i' j' : Nat} (h : SymI w g2 g3 g4 g6 B g n b i j W) (ho : offS n i + (j - i) = offS n i' + (j' - i')) (e : ∀ x, x < n → ∀ y, y < n → symUp n b i j x y = symUp n b i' j' x y) : SymI w g2 g3 g4 g6 B g n b i' j' W := by
  refine ⟨h.below, h.bn, ?_, h.res, h.var, h.row.congr e⟩
  have := h.b3
  rwa [ho] at this
end
set_option maxRecDepth 100000 in
set_option maxHeartbeats 4000000 in
theorem sym_bad (w : World) (n : Int) (A : Option Addr) (l cap : Nat) (hn : -9223372036854775808 ≤ n ∧ n ≤ 9223372036854775807) (h : n < 0 ∨ 65536 < n ∨ (0 ≤ n ∧ n ≤ 65536 ∧ (l : Int) ≠ n * (n + 1) / 2)) :
    Calls Try.prog 30 #[.int .i64 n, .slice A l cap] w (ErrM w 50) := by
  obtain ⟨x1, g1, h1, e1, n1⟩ := boxedT w #[.int .i64 n] 3
  obtain ⟨x2, g2, h2, e2, n2⟩ := boxedT x1 #[.slice A l cap] 22
  obtain ⟨w1, g0, h3, e3, n3⟩ := boxed x2 zmx
  have k1 := h1.2.2; have k2 := h2.2.2
  obtain rfl : g2 = g1 + 1 := by omega
  obtain rfl : g0 = g1 + 1 + 1 := by omega
  have H1 := Lib.hid (show Below w.heap.size w w1 ∧ Blk w1 g1 3 #[.int .i64 n] ∧ Blk w1 (g1 + 1) 22 #[.slice A l cap] ∧ Blk w1 (g1 + 1 + 1) 27 zmx from ⟨next (next h1.1 h2.1) h3.1, (h1.2.1.keep h2.1).keep h3.1, h2.2.1.keep h3.1, h3.2.1⟩)
  have HW1 := Lib.hid (show ((w.alloc (.cells #[.int .i64 n] 3)).alloc (.cells #[.slice A l cap] 22)).alloc (.cells #[.int .i64 0, .int .i64 0, .slice none 0 0] 27) = w1 from by rw [e1, e2]; exact e3)
  have HG := Lib.hid n1
  obtain ⟨⟨d0, d1, d2⟩, f0, f1, f2⟩ := cells3 H1.out.2.2.2
  have c1 : w1.cell? ⟨g1, 0, none⟩ = some (.int .i64 n) := H1.out.2.1.cell 0
  have c2 : w1.cell? ⟨g1 + 1, 0, none⟩ = some (.slice A l cap) := H1.out.2.2.1.cell 0
  obtain ⟨⟨e0, e1', e2'⟩, _⟩ := cells3 H1.out.2.2.2
  rw [← HG.out] at d0 d1 d2 f0 f1 f2 c1 c2
  rw [← HW1.out] at d0 d1 d2 f0 f1 f2 c1 c2
  have fin : ErrM w 50 (.returned (.tuple #[.agg #[.int .i64 0, .int .i64 0, .slice none 0 0], .int .i64 50])) w1 := ⟨rfl, H1.out.1⟩
  have FIN := Lib.hid fin
  clear h1 h2 h3 e1 e2 e3 n1 n2 n3 k1 k2 fin
  rcases h with h | h | ⟨h0, h6, hl⟩
  · have z1 : decide (n < 0) = true := decide_eq_true h
    clear h hn
    go_enter Try.func30, Try.ntmps30
    go_wp2_with fail
    rw [HW1.out, HG.out]
    exact bodyPost_ret (v := .tuple #[.agg #[.int .i64 0, .int .i64 0, .slice none 0 0], .int .i64 50]) (by simp [results, Try.results30, go_sem, e0, e1', e2']) rfl FIN.out
  · have z1 : decide (n < 0) = false := decide_eq_false (by omega)
    have z2 : decide (65536 < n) = true := decide_eq_true h
    clear h hn
    go_enter Try.func30, Try.ntmps30
    go_wp2_with fail
    rw [HW1.out, HG.out]
    exact bodyPost_ret (v := .tuple #[.agg #[.int .i64 0, .int .i64 0, .slice none 0 0], .int .i64 50]) (by simp [results, Try.results30, go_sem, e0, e1', e2']) rfl FIN.out
  · have z1 : decide (n < 0) = false := decide_eq_false (by omega)
    have z2 : decide (65536 < n) = false := decide_eq_false (by omega)
    have q1 : wrap64 (n + 1) = n + 1 := by unfold wrap64; omega
    obtain ⟨P, hP⟩ : ∃ P, n * (n + 1) = P := ⟨_, rfl⟩
    have hP2 : 0 ≤ P ∧ P ≤ 65536 * 65537 := by
      obtain ⟨k, rfl⟩ : ∃ k : Nat, n = (k : Int) := ⟨n.toNat, by omega⟩
      have h1 : k * (k + 1) ≤ 65536 * 65537 := Nat.mul_le_mul (by omega) (by omega)
      have h2 : P = ((k * (k + 1) : Nat) : Int) := by rw [← hP, Int.natCast_mul]; rfl
      omega
    have q2 : wrap64 P = P := by unfold wrap64; omega
    have q3 : P.tdiv 2 = P / 2 := Int.tdiv_eq_ediv_of_nonneg hP2.1
    have q4 : wrap64 (P / 2) = P / 2 := by unfold wrap64; omega
    obtain ⟨Q, hQ⟩ : ∃ Q, P / 2 = Q := ⟨_, rfl⟩
    rw [hP, hQ] at hl
    rw [hQ] at q3 q4
    have hne : ((l : Int) != Q) = true := by simpa using hl
    clear h0 h6 hl hP2 hQ hn
    go_enter Try.func30, Try.ntmps30
    go_wp2_with fail
    rw [HW1.out, HG.out]
    exact bodyPost_ret (v := .tuple #[.agg #[.int .i64 0, .int .i64 0, .slice none 0 0], .int .i64 50]) (by simp [results, Try.results30, go_sem, e0, e1', e2']) rfl FIN.out
theorem SymI.step {w W : World} {g2 g3 g4 g6 B g n : Nat} {b : List UInt8} {i j : Nat} {Y Y' : Option Addr} {l c : Nat} (h : SymI w g2 g3 g4 g6 B g n b i j W) (hi : i < n) (hj : j < n) (hij : i ≤ j) (x : UInt8) (hx : b.getD (offS n i + (j - i)) 0 = x) (hg : w.heap.size ≤ g ∧ w.heap.size ≤ g3) (hne : g2 ≠ g ∧ g4 ≠ g ∧ g6 ≠ g ∧ g ≠ g3 ∧ g2 ≠ g3 ∧ g4 ≠ g3 ∧ g6 ≠ g3)
    (hY : Blk W g3 22 #[.slice Y l c]) (hl : l = b.length - (offS n i + (j - i))) (hl0 : 0 < l) (hlc : l ≤ c) (hc : c ≤ maxLen) (hY' : Bytes W w.heap.size Y' (b.drop (offS n i + (j - i) + 1))) :
    SymI w g2 g3 g4 g6 B g n b i (j + 1) (((W.setCell ⟨g, i * n + j, none⟩ (.int .u8 (x.toNat : Int))).setCell ⟨g, j * n + i, none⟩ (.int .u8 (x.toNat : Int))).setCell ⟨g3, 0, none⟩ (.slice Y' (l - 1) (c - 1))) := by
  have hf1 := setF (p := g) W ⟨g, i * n + j, none⟩ rfl (.int .u8 (x.toNat : Int))
  have hw1 := h.row.set hi hj x
  obtain ⟨W1, hW1⟩ : ∃ X : World, W.setCell ⟨g, i * n + j, none⟩ (.int .u8 (x.toNat : Int)) = X := ⟨_, rfl⟩
  rw [hW1] at hf1 hw1 ⊢
  have hf2 := setF (p := g) W1 ⟨g, j * n + i, none⟩ rfl (.int .u8 (x.toNat : Int))
  have hw2 := hw1.set hj hi x
  obtain ⟨W2, hW2⟩ : ∃ X : World, W1.setCell ⟨g, j * n + i, none⟩ (.int .u8 (x.toNat : Int)) = X := ⟨_, rfl⟩
  rw [hW2] at hf2 hw2 ⊢
  have hf := hf1.trans hf2 fun _ _ h => h
  have hf3 := setF (p := g3) W2 ⟨g3, 0, none⟩ rfl (.slice Y' (l - 1) (c - 1))
  have hb1 : Below w.heap.size w W2 := h.below.trans (hf.below h.below.size fun k e => by omega)
  have hbb : Below w.heap.size W (W2.setCell ⟨g3, 0, none⟩ (.slice Y' (l - 1) (c - 1))) := (hf.below h.below.size fun k e => by omega).trans (hf3.below (Nat.le_trans h.below.size hf.size) fun k e => by omega)
  refine ⟨h.below.trans hbb, (h.bn.fr hf (by omega)).fr hf3 (by omega), ⟨Y', l - 1, c - 1, (hY.fr hf (by omega)).set_ 0 _, ?_, by omega, by omega, ?_⟩, (h.res.fr hf (by omega)).fr hf3 (by omega), (h.var.fr hf (by omega)).fr hf3 (by omega), (hw2.fr hf3 (by omega)).congr fun u _ v _ => ?_⟩
  · rw [hl]; omega
  · rw [show offS n i + (j + 1 - i) = offS n i + (j - i) + 1 by omega]; exact hY'.below hbb
  · rw [← hx]; exact sym_step n b hij u v
set_option maxRecDepth 100000 in
set_option maxHeartbeats 4000000 in
theorem sym_ok (w : World) (n : Nat) (hn : n ≤ 100) (A : Option Addr) (b : List UInt8) (l cap : Nat) (hl : b.length = l) (h2l : 2 * l = n * (n + 1)) (hcap : l ≤ cap) (hcm : cap ≤ maxLen) (hA : Bytes w w.heap.size A b) :
    Calls Try.prog 30 #[.int .i64 (n : Int), .slice A l cap] w (NewT w n n (symM n b)) := by
  have hq : ((n * n : Nat) : Int) ≤ 1000000000 := by
    have h1 : n * n ≤ 100 * 100 := Nat.mul_le_mul hn hn
    omega
  refine of_wide ?_
  refine callsIn_of_wp_marks Try.func30 rfl trivial ?_ rfl
  refine wpIn_wide.2 ?_
  simp only [Try.ntmps30, List.size_toArray, List.length_cons, List.length_nil, Nat.reduceAdd, Nat.reduceSub, Array.replicate_succ, Array.replicate_zero, List.push_toArray, List.append_toArray, List.nil_append, List.cons_append]
  obtain ⟨x1, g1, h1, e1, n1⟩ := boxedT w #[.int .i64 (n : Int)] 3
  obtain ⟨x2, g2, h2, e2, n2⟩ := boxedT x1 #[.slice A l cap] 22
  obtain ⟨w1, g0, h3, e3, n3⟩ := boxed x2 zmx
  have k1 := h1.2.2; have k2 := h2.2.2; have k3 := h3.2.2
  obtain rfl : g2 = g1 + 1 := by omega
  obtain rfl : g0 = g1 + 1 + 1 := by omega
  have H1 := Lib.hid (show Below w.heap.size w w1 ∧ Blk w1 g1 3 #[.int .i64 (n : Int)] ∧ Blk w1 (g1 + 1) 22 #[.slice A l cap] ∧ Blk w1 (g1 + 1 + 1) 27 zmx ∧ w1.heap.size = g1 + 3 from ⟨next (next h1.1 h2.1) h3.1, (h1.2.1.keep h2.1).keep h3.1, h2.2.1.keep h3.1, h3.2.1, by omega⟩)
  have HW1 := Lib.hid (show ((w.alloc (.cells #[.int .i64 (n : Int)] 3)).alloc (.cells #[.slice A l cap] 22)).alloc (.cells #[.int .i64 0, .int .i64 0, .slice none 0 0] 27) = w1 from by rw [e1, e2]; exact e3)
  have HG := Lib.hid n1
  have c1 : w1.cell? ⟨g1, 0, none⟩ = some (.int .i64 (n : Int)) := H1.out.2.1.cell 0
  have c2 : w1.cell? ⟨g1 + 1, 0, none⟩ = some (.slice A l cap) := H1.out.2.2.1.cell 0
  rw [← HG.out] at c1 c2
  rw [← HW1.out] at c1 c2
  have hl9 : l ≤ 10100 := by
    have h1 : n * (n + 1) ≤ 100 * 101 := Nat.mul_le_mul hn (by omega)
    omega
  have HL := Lib.hid (And.intro hn (And.intro hl (And.intro hcap (And.intro hcm hq))))
  have HOF := Lib.hid (show b.length = offS n n from by have h := offS_len n; rw [← h2l] at h; omega)
  have hP : (n : Int) * ((n : Int) + 1) = ((2 * l : Nat) : Int) := by rw [h2l, Int.natCast_mul]; rfl
  obtain ⟨P, hPP⟩ : ∃ P : Int, ((2 * l : Nat) : Int) = P := ⟨_, rfl⟩
  rw [hPP] at hP
  have hPl : P = 2 * (l : Int) := by omega
  have z1 : decide ((n : Int) < 0) = false := decide_eq_false (by omega)
  have z2 : decide ((65536 : Int) < (n : Int)) = false := decide_eq_false (by omega)
  have q3 : P.tdiv 2 = (l : Int) := by rw [Int.tdiv_eq_ediv_of_nonneg (by omega)]; omega
  have q5 : P / 2 = (l : Int) := by omega
  have q1 : wrap64 ((n : Int) + 1) = (n : Int) + 1 := by clear hP q3 q5; unfold wrap64; omega
  have q2 : wrap64 P = P := by clear q1 hP q3 q5; unfold wrap64; omega
  have q4 : wrap64 (l : Int) = (l : Int) := by clear q1 q2 hP q3 q5; unfold wrap64; omega
  clear hPl
  have HA := Lib.hid hA
  clear h1 h2 h3 e1 e2 e3 n1 n2 n3 k1 k2 k3 hn hl h2l hcap hcm hA hq hPP hl9
  go_wp2_with fail
  rw [HW1.out, HG.out]
  clear q1 q2 q3 q4 q5 hP c1 c2
  refine (none_any w1 n n HL.out.2.2.2.2).mono ?_
  rintro e w2 ⟨g, rfl, ho, hb⟩
  have H2 := Lib.hid (show Below w.heap.size w w2 ∧ Blk w2 g1 3 #[.int .i64 (n : Int)] ∧ Blk w2 (g1 + 1) 22 #[.slice A l cap] ∧ Blk w2 (g1 + 1 + 1) 27 zmx ∧ Wm w2 w1.heap.size g (n * n) n n (fun _ _ => 0) from ⟨next H1.out.1 hb, H1.out.2.1.keep hb, H1.out.2.2.1.keep hb, H1.out.2.2.2.1.keep hb, ho⟩)
  have HS2 := Lib.hid hb.size
  clear ho hb
  go_wp2_with fail
  obtain ⟨w3, g7, h3, hw3, hg7⟩ := boxed w2 (mcells n n (some ⟨g, 0, none⟩) (n * n) (n * n))
  have HW3 := Lib.hid (show w2.alloc (.cells #[.int .i64 (n : Int), .int .i64 (n : Int), .slice (some ⟨g, 0, none⟩) (n * n) (n * n)] 27) = w3 from hw3)
  rw [HW3.out, hg7]
  have H3 := Lib.hid h3
  have HG7 := Lib.hid hg7
  clear hw3 h3 hg7
  refine (rows_any w3 _ _ _).mono ?_
  rintro e w4' ⟨rfl, rfl⟩
  obtain ⟨w4, bm, h4, hw4, hbm⟩ := boxed w3 (mcells n n (some ⟨g, 0, none⟩) (n * n) (n * n))
  have HW4 := Lib.hid (show w3.alloc (.cells #[.int .i64 (n : Int), .int .i64 (n : Int), .slice (some ⟨g, 0, none⟩) (n * n) (n * n)] 27) = w4 from hw4)
  rw [HW4.out, hbm]
  have hap : w.heap.size = g1 ∧ w1.heap.size = g1 + 3 ∧ w1.heap.size ≤ g ∧ g < g7 ∧ bm = g7 + 1 ∧ w4.heap.size = bm + 1 := by
    have k1 := H1.out.2.2.2.2; have k2 := H2.out.2.2.2.2.form; have k3 := HG7.out; have k4 := H3.out.2.2; have k5 := h4.2.2; have k7 := HG.out
    omega
  have HAP := Lib.hid hap
  have HI0 := Lib.hid (show SymI w g1 (g1 + 1) (g1 + 1 + 1) g7 w1.heap.size g n b 0 0 w4 from
    ⟨next (next H2.out.1 H3.out.1) h4.1, (H2.out.2.1.keep H3.out.1).keep h4.1, ⟨A, l, cap, (H2.out.2.2.1.keep H3.out.1).keep h4.1, by show l = b.length - (0 + (0 - 0)); have := HL.out.2.1; omega, HL.out.2.2.1, HL.out.2.2.2.1, HA.out.below (next (next H2.out.1 H3.out.1) h4.1)⟩, (H2.out.2.2.2.1.keep H3.out.1).keep h4.1, H3.out.2.1.keep h4.1, ((H2.out.2.2.2.2.keep H3.out.1).keep h4.1).congr fun x _ k _ => by unfold symUp; rw [if_neg (by omega)]⟩)
  have H4 := Lib.hid h4
  clear hw4 hbm h4 hap
  go_wp2_with fail
  refine (wpIn_wide (n := 5)).1 ?_
  refine wpIn_rows bm n n (some ⟨g, 0, none⟩) (n * n) (n * n) rfl H4.out.2.1 (by have := HL.out; omega) rfl HL.out.2.2.2.2 (Nat.le_refl _) (fun k => k = g ∨ k = g1 + 1) (by have := HAP.out; omega)
    (fun i W => SymI w g1 (g1 + 1) (g1 + 1 + 1) g7 w1.heap.size g n b i i W) ?hI HI0.out ?hround ?hdone
  case hI =>
    intro i W W' h hf
    have hap := HAP.out
    exact h.fr_ hf (fun k e => by omega) ⟨by omega, by omega, by omega, by omega, by omega⟩
  case hround =>
    intro ln i W hi hlt
    have HLT := Lib.hid hlt
    obtain ⟨q1, hq1⟩ : ∃ q1, i * n = q1 := ⟨_, rfl⟩
    rw [show rowA (some ⟨g, 0, none⟩) n i = some ⟨g, q1, none⟩ from by rw [rowA_some (by omega), Nat.zero_add, hq1]]
    have HQ1 := Lib.hid hq1
    have hi9 : (i : Int) ≤ 1000 := by have := HL.out; omega
    have hi0 : (0 : Int) ≤ (i : Int) := by omega
    have hin : (i : Int) < (n : Int) := by omega
    clear hlt hi hq1
    gi_wp2
    refine ⟨trivial, fun W2 hi2 => ?_⟩
    have H := Lib.hid hi2
    clear hi2
    gi_wp2
    gi_loopw [9] (fun x wr => ∃ j : Nat, x = .int .i64 (j : Int) ∧ i ≤ j ∧ j ≤ n ∧ SymI w g1 (g1 + 1) (g1 + 1 + 1) g7 w1.heap.size g n b i j wr ∧ Fr (fun k => k = g ∨ k = g1 + 1) W2 wr) (fun x _ => n - (intOf x).toNat)
    case atStart => exact ⟨i, rfl, Nat.le_refl _, Nat.le_of_lt HLT.out, H.out, Fr.refl _ _⟩
    case round =>
      obtain ⟨j, rfl, hij, hj, h1, h2⟩ := hrel
      have cn : wr.cell? ⟨g1, 0, none⟩ = some (.int .i64 (n : Int)) := h1.bn.cell 0
      by_cases hjc : j < n
      · obtain ⟨Y, l', c', hb3, hl', hlc, hcm, hby⟩ := h1.b3
        have hs := offS_lt HLT.out hij hjc
        rw [← HOF.out] at hs
        have hl0 : 0 < l' := by omega
        obtain ⟨ab, off, rfl, hab, hx1⟩ := hby.at_ (k := 0) (by rw [List.length_drop]; omega)
        rw [List.getElem_drop] at hx1
        obtain ⟨x, hx⟩ : ∃ x, b.getD (offS n i + (j - i)) 0 = x := ⟨_, rfl⟩
        rw [show b[offS n i + (j - i) + 0]'(by omega) = x from by rw [← hx, List.getD_eq_getElem?_getD, List.getElem?_eq_getElem hs]; rfl, Nat.add_zero] at hx1
        have hnext : Bytes wr w.heap.size (if c' = 1 then some ⟨ab, off, none⟩ else some ⟨ab, off + 1, none⟩) (b.drop (offS n i + (j - i) + 1)) := by
          by_cases e : c' = 1
          · rw [if_pos e, List.drop_of_length_le (by omega)]; exact Bytes.nil
          · rw [if_neg e]
            have := hby.drop 1
            rwa [List.drop_drop] at this
        obtain ⟨q2, hq2⟩ : ∃ q2, j * n = q2 := ⟨_, rfl⟩
        have HQ2 := Lib.hid hq2
        have hji : (j : Int) < (n : Int) := by omega
        have hj0 : (0 : Int) ≤ (j : Int) := by omega
        have hj9 : (j : Int) ≤ 1000 := by have := HL.out; omega
        have hl0i : (0 : Int) < (l' : Int) := by omega
        have HJ := Lib.hid (And.intro h1 (And.intro h2 (And.intro hjc hij)))
        have HY := Lib.hid (And.intro hb3 (And.intro hl' (And.intro hl0 (And.intro hlc (And.intro hcm hnext)))))
        have HX := Lib.hid (And.intro hx hab)
        clear h1 h2 hj hjc hij hb3 hl' hlc hcm hby hs hx hab hnext hq2
        gi_wp2
        --HELD sym_ok10
        refine wpIn_only ?_
        refine wpIn_heldG (fun w' => Blk w' g7 27 (mcells n n (some ⟨g, 0, none⟩) (n * n) (n * n)) ∧ Blk w' (g1 + 1) 22 #[.slice (some ⟨ab, off, none⟩) l' c'] ∧ w'.cell? ⟨ab, off, none⟩ = some (.int .u8 (x.toNat : Int))) [] (by kernel_rfl) (by kernel_rfl) (fun ⟨_, _, h⟩ => h) ?hs0 ?rg0
        case hs0 =>
          exact ⟨HJ.out.1.var, HY.out.1, hx1⟩
        case rg0 =>
        intro hHeld
        refine wpAnyG_pure (i := 0) (oi := { dst := some 40, op := Op.move (Operand.tmp 8), type := 22, pos := _, after := #[], guard := none }) (v := ?_) rfl (by kernel_rfl) (by kernel_rfl) (by kernel_rfl) (by kernel_rfl) (fun _ _ _ h => h) (Or.inl ⟨by rfl, ?_⟩) (fun _ => by assumption) ?_
        rotate_left
        · intro w hSw
          try dsimp only at hSw
          go_simp
          try with_reducible rfl
        try simp only [Act.put, List.setIfInBounds_toArray, List.set_cons_zero, List.set_cons_succ]
        refine wpAnyG_pure (i := 1) (oi := { dst := some 41, op := Op.move (Operand.tmp 9), type := 3, pos := _, after := #[], guard := none }) (v := ?_) rfl (by kernel_rfl) (by kernel_rfl) (by kernel_rfl) (by kernel_rfl) (fun _ _ _ h => h) (Or.inl ⟨by rfl, ?_⟩) (fun _ => by assumption) ?_
        rotate_left
        · intro w hSw
          try dsimp only at hSw
          go_simp
          try with_reducible rfl
        try simp only [Act.put, List.setIfInBounds_toArray, List.set_cons_zero, List.set_cons_succ]
        refine wpAnyG_take (i := 2) (oi := { dst := some 42, op := Op.load 27 (Operand.tmp 6), type := 27, pos := _, after := #[], guard := none }) (v := ?_) rfl (by kernel_rfl) (by kernel_rfl) (by kernel_rfl) (by kernel_rfl) (fun _ _ _ h => h) (Or.inl ⟨by rfl, ?_⟩) (by assumption) ?_
        rotate_left
        · intro w hSw
          try dsimp only at hSw
          obtain ⟨⟨c0, c1, c2⟩, _⟩ := cells3 hSw.1
          go_simp
          try with_reducible rfl
        try simp only [Act.put, List.setIfInBounds_toArray, List.set_cons_zero, List.set_cons_succ]
        refine wpAnyG_pure (i := 3) (oi := { dst := some 43, op := Op.move (Operand.tmp 9), type := 3, pos := _, after := #[], guard := none }) (v := ?_) rfl (by kernel_rfl) (by kernel_rfl) (by kernel_rfl) (by kernel_rfl) (fun _ _ _ h => h) (Or.inl ⟨by rfl, ?_⟩) (fun _ => by assumption) ?_
        rotate_left
        · intro w hSw
          try dsimp only at hSw
          go_simp
          try with_reducible rfl
        try simp only [Act.put, List.setIfInBounds_toArray, List.set_cons_zero, List.set_cons_succ]
        refine wpAnyG_pure (i := 5) (oi := { dst := some 45, op := Op.move (Operand.tmp 7), type := 3, pos := _, after := #[{ on := 13, ground := Ground.gcOnly Departure.lateStores }], guard := none }) (v := ?_) rfl (by kernel_rfl) (by kernel_rfl) (by kernel_rfl) (by kernel_rfl) (fun _ _ _ h => h) (Or.inl ⟨by rfl, ?_⟩) (fun _ => by assumption) ?_
        rotate_left
        · intro w hSw
          try dsimp only at hSw
          go_simp
          try with_reducible rfl
        try simp only [Act.put, List.setIfInBounds_toArray, List.set_cons_zero, List.set_cons_succ]
        refine wpAnyG_take (i := 6) (oi := { dst := some 46, op := Op.load 22 (Operand.tmp 3), type := 22, pos := _, after := #[], guard := none }) (v := ?_) rfl (by kernel_rfl) (by kernel_rfl) (by kernel_rfl) (by kernel_rfl) (fun _ _ _ h => h) (Or.inl ⟨by rfl, ?_⟩) (by assumption) ?_
        rotate_left
        · intro w hSw
          try dsimp only at hSw
          have c0 : w.cell? ⟨g1 + 1, 0, none⟩ = some (.slice (some ⟨ab, off, none⟩) l' c') := hSw.2.1.cell 0
          go_simp
          try with_reducible rfl
        try simp only [Act.put, List.setIfInBounds_toArray, List.set_cons_zero, List.set_cons_succ]
        refine wpAnyG_pure (i := 7) (oi := { dst := some 47, op := Op.indexAddr 22 (Operand.tmp 46) (Operand.const (Value.int IntKind.i64 0)), type := 0, pos := _, after := #[{ on := 6, ground := Ground.data }], guard := none }) (v := ?_) rfl (by kernel_rfl) (by kernel_rfl) (by kernel_rfl) (by kernel_rfl) (fun _ _ _ h => h) (Or.inl ⟨by rfl, ?_⟩) (fun _ => by assumption) ?_
        rotate_left
        · intro w hSw
          try dsimp only at hSw
          go_simp
          try with_reducible rfl
        try simp only [Act.put, List.setIfInBounds_toArray, List.set_cons_zero, List.set_cons_succ]
        refine wpAnyG_take (i := 8) (oi := { dst := some 48, op := Op.load 5 (Operand.tmp 47), type := 5, pos := _, after := #[{ on := 7, ground := Ground.data }], guard := none }) (v := ?_) rfl (by kernel_rfl) (by kernel_rfl) (by kernel_rfl) (by kernel_rfl) (fun _ _ _ h => h) (Or.inl ⟨by rfl, ?_⟩) (by assumption) ?_
        rotate_left
        · intro w hSw
          try dsimp only at hSw
          have c0 := hSw.2.2
          go_simp
          try with_reducible rfl
        try simp only [Act.put, List.setIfInBounds_toArray, List.set_cons_zero, List.set_cons_succ]
        refine wpAnyG_take (i := 9) (oi := { dst := some 49, op := Op.load 22 (Operand.tmp 3), type := 22, pos := _, after := #[], guard := none }) (v := ?_) rfl (by kernel_rfl) (by kernel_rfl) (by kernel_rfl) (by kernel_rfl) (fun _ _ _ h => h) (Or.inl ⟨by rfl, ?_⟩) (by assumption) ?_
        rotate_left
        · intro w hSw
          try dsimp only at hSw
          have c0 : w.cell? ⟨g1 + 1, 0, none⟩ = some (.slice (some ⟨ab, off, none⟩) l' c') := hSw.2.1.cell 0
          go_simp
          try with_reducible rfl
        try simp only [Act.put, List.setIfInBounds_toArray, List.set_cons_zero, List.set_cons_succ]
        refine wpAnyG_pure (i := 10) (oi := { dst := some 50, op := Op.indexAddr 22 (Operand.tmp 49) (Operand.const (Value.int IntKind.i64 0)), type := 0, pos := _, after := #[{ on := 9, ground := Ground.data }], guard := none }) (v := ?_) rfl (by kernel_rfl) (by kernel_rfl) (by kernel_rfl) (by kernel_rfl) (fun _ _ _ h => h) (Or.inl ⟨by rfl, ?_⟩) (fun _ => by assumption) ?_
        rotate_left
        · intro w hSw
          try dsimp only at hSw
          go_simp
          try with_reducible rfl
        try simp only [Act.put, List.setIfInBounds_toArray, List.set_cons_zero, List.set_cons_succ]
        refine wpAnyG_take (i := 11) (oi := { dst := some 51, op := Op.load 5 (Operand.tmp 50), type := 5, pos := _, after := #[{ on := 10, ground := Ground.data }], guard := none }) (v := ?_) rfl (by kernel_rfl) (by kernel_rfl) (by kernel_rfl) (by kernel_rfl) (fun _ _ _ h => h) (Or.inl ⟨by rfl, ?_⟩) (by assumption) ?_
        rotate_left
        · intro w hSw
          try dsimp only at hSw
          have c0 := hSw.2.2
          go_simp
          try with_reducible rfl
        try simp only [Act.put, List.setIfInBounds_toArray, List.set_cons_zero, List.set_cons_succ]
        refine wpAnyG_one (i := 4) (o := { dst := some 44, op := Op.call { callee := Callee.value (Operand.func 49), args := #[Operand.tmp 42, Operand.tmp 43], argTypes := #[27, 3] }, type := 22, pos := _, after := #[{ on := 2, ground := Ground.data }, { on := 3, ground := Ground.data }], guard := none }) (by kernel_rfl) rfl (fun K hK => ?_)
        go_simp
        refine (row_any _ n n j (some ⟨g, 0, none⟩) (n * n) (n * n) HJ.out.2.2.1 (by have := HL.out; omega) rfl HL.out.2.2.2.2 (Nat.le_refl _)).mono ?_
        rintro e w6 ⟨rfl, hb⟩
        rw [show rowA (some ⟨g, 0, none⟩) n j = some ⟨g, q2, none⟩ from by rw [rowA_some (by have := HJ.out.2.2.1; omega), Nat.zero_add, HQ2.out]]
        have H6 := Lib.hid (next (nextN (Mem.start wr) 1) hb)
        try dsimp only
        refine hK.out _ _ ?_ (fun hHeld => ?_)
        · intro _
          try dsimp only
          exact ⟨hHeld.1.keep hb, hHeld.2.1.keep hb, (hb.cell (p := ⟨ab, off, none⟩) (World.block_lt_of_cell? _ _ hHeld.2.2)).trans hHeld.2.2⟩
        clear hK K
        try simp only [Act.put, List.setIfInBounds_toArray, List.set_cons_zero, List.set_cons_succ]
        have hHeld := hHeld (by kernel_rfl)
        refine wpAnyG_pure (i := 12) (oi := { dst := some 52, op := Op.indexAddr 22 (Operand.tmp 40) (Operand.tmp 41), type := 0, pos := _, after := #[{ on := 0, ground := Ground.data }, { on := 1, ground := Ground.data }, { on := 0, ground := Ground.phase }, { on := 1, ground := Ground.phase }, { on := 2, ground := Ground.textOnly Departure.lateStores }, { on := 3, ground := Ground.textOnly Departure.lateStores }, { on := 4, ground := Ground.phase }, { on := 5, ground := Ground.textOnly Departure.lateStores }, { on := 6, ground := Ground.phase }, { on := 7, ground := Ground.phase }, { on := 8, ground := Ground.phase }, { on := 9, ground := Ground.textOnly Departure.inlinedCapture }, { on := 10, ground := Ground.textOnly Departure.lateStoresUnsure }, { on := 11, ground := Ground.phase }], guard := none }) (v := ?_) rfl (by kernel_rfl) (by kernel_rfl) (by kernel_rfl) (by kernel_rfl) (fun _ _ _ h => h) (Or.inl ⟨by rfl, ?_⟩) (fun _ => by assumption) ?_
        rotate_left
        · intro w hSw
          try dsimp only at hSw
          go_simp
          try with_reducible rfl
        try simp only [Act.put, List.setIfInBounds_toArray, List.set_cons_zero, List.set_cons_succ]
        refine wpAnyG_one (i := 13) (o := { dst := none, op := Op.store 5 (Operand.tmp 52) (Operand.tmp 48), type := 0, pos := _, after := #[{ on := 12, ground := Ground.data }, { on := 8, ground := Ground.data }, { on := 4, ground := Ground.chain }, { on := 0, ground := Ground.phase }, { on := 1, ground := Ground.phase }, { on := 2, ground := Ground.textOnly Departure.lateStores }, { on := 3, ground := Ground.textOnly Departure.lateStores }, { on := 4, ground := Ground.phase }, { on := 5, ground := Ground.textOnly Departure.lateStores }, { on := 6, ground := Ground.phase }, { on := 7, ground := Ground.phase }, { on := 8, ground := Ground.phase }, { on := 9, ground := Ground.textOnly Departure.inlinedCapture }, { on := 10, ground := Ground.textOnly Departure.lateStoresUnsure }, { on := 11, ground := Ground.phase }], guard := none }) (by kernel_rfl) rfl (fun K hK => ?_)
        have h6 := HJ.out.1.keep H6.out
        obtain ⟨k1, k2⟩ := h6.row.at_ HLT.out HJ.out.2.2.1
        rw [HQ1.out] at k1 k2
        have hw1 := h6.row.set HLT.out HJ.out.2.2.1 x
        rw [HQ1.out] at hw1
        have HW1S := Lib.hid hw1
        clear h6 hw1
        go_simp
        try dsimp only
        refine hK.out _ _ ?_ (fun hHeld => ?_)
        · intro _
          try dsimp only
          have hap := HAP.out
          have hxa := HX.out.2
          exact ⟨hHeld.1.fr (setF (p := g) _ _ rfl _) (by omega), hHeld.2.1.fr (setF (p := g) _ _ rfl _) (by omega), cellFr (setF (p := g) _ _ rfl _) hHeld.2.2 (by omega)⟩
        clear hK K
        try simp only [Act.put, List.setIfInBounds_toArray, List.set_cons_zero, List.set_cons_succ]
        have hHeld := hHeld (by kernel_rfl)
        refine wpAnyG_pure (i := 14) (oi := { dst := some 53, op := Op.indexAddr 22 (Operand.tmp 44) (Operand.tmp 45), type := 0, pos := _, after := #[{ on := 4, ground := Ground.data }, { on := 5, ground := Ground.data }, { on := 0, ground := Ground.phase }, { on := 1, ground := Ground.phase }, { on := 2, ground := Ground.phase }, { on := 3, ground := Ground.phase }, { on := 4, ground := Ground.phase }, { on := 5, ground := Ground.phase }, { on := 6, ground := Ground.phase }, { on := 7, ground := Ground.phase }, { on := 8, ground := Ground.phase }, { on := 9, ground := Ground.phase }, { on := 10, ground := Ground.phase }, { on := 11, ground := Ground.phase }, { on := 12, ground := Ground.phase }, { on := 13, ground := Ground.phase }], guard := none }) (v := ?_) rfl (by kernel_rfl) (by kernel_rfl) (by kernel_rfl) (by kernel_rfl) (fun _ _ _ h => h) (Or.inl ⟨by rfl, ?_⟩) (fun _ => by assumption) ?_
        rotate_left
        · intro w hSw
          try dsimp only at hSw
          go_simp
          try with_reducible rfl
        try simp only [Act.put, List.setIfInBounds_toArray, List.set_cons_zero, List.set_cons_succ]
        refine wpAnyG_one (i := 15) (o := { dst := none, op := Op.store 5 (Operand.tmp 53) (Operand.tmp 51), type := 0, pos := _, after := #[{ on := 14, ground := Ground.data }, { on := 11, ground := Ground.data }, { on := 13, ground := Ground.chain }, { on := 0, ground := Ground.phase }, { on := 1, ground := Ground.phase }, { on := 2, ground := Ground.phase }, { on := 3, ground := Ground.phase }, { on := 4, ground := Ground.phase }, { on := 5, ground := Ground.phase }, { on := 6, ground := Ground.phase }, { on := 7, ground := Ground.phase }, { on := 8, ground := Ground.phase }, { on := 9, ground := Ground.phase }, { on := 10, ground := Ground.phase }, { on := 11, ground := Ground.phase }, { on := 12, ground := Ground.phase }, { on := 13, ground := Ground.phase }], guard := none }) (by kernel_rfl) rfl (fun K hK => ?_)
        obtain ⟨k3, k4⟩ := HW1S.out.at_ HJ.out.2.2.1 HLT.out
        rw [HQ2.out] at k3 k4
        go_simp
        try dsimp only
        refine hK.out _ _ ?_ (fun hHeld => ?_)
        · intro _
          try dsimp only
          have hap := HAP.out
          have hxa := HX.out.2
          exact ⟨hHeld.1.fr (setF (p := g) _ _ rfl _) (by omega), hHeld.2.1.fr (setF (p := g) _ _ rfl _) (by omega), cellFr (setF (p := g) _ _ rfl _) hHeld.2.2 (by omega)⟩
        clear hK K
        try simp only [Act.put, List.setIfInBounds_toArray, List.set_cons_zero, List.set_cons_succ]
        have hHeld := hHeld (by kernel_rfl)
        refine wpAnyG_done (by kernel_rfl) ?_ _
        refine onlyN_end ?_
        --END sym_ok10
        have hap := HAP.out
        have hbx7 := hHeld.2.1.cell 0
        have hbf7 := hHeld.2.1.frozen 0
        clear hHeld
        have HS7 := Lib.hid (SymI.step (Y' := if c' = 1 then some ⟨ab, off, none⟩ else some ⟨ab, off + 1, none⟩) (HJ.out.1.keep H6.out) HLT.out HJ.out.2.2.1 HJ.out.2.2.2 x HX.out.1 ⟨by omega, by omega⟩ ⟨by omega, by omega, by omega, by omega, by omega, by omega, by omega⟩ (HY.out.1.keep H6.out) HY.out.2.1 HY.out.2.2.1 HY.out.2.2.2.1 HY.out.2.2.2.2.1 (HY.out.2.2.2.2.2.below (H6.out.mono HJ.out.1.below.size)))
        have hf1 := setF (p := g) w6 ⟨g, q1 + j, none⟩ rfl (.int .u8 (x.toNat : Int))
        obtain ⟨w7, hw7⟩ : ∃ X : World, w6.setCell ⟨g, q1 + j, none⟩ (.int .u8 (x.toNat : Int)) = X := ⟨_, rfl⟩
        rw [HQ1.out, HQ2.out, hw7] at HS7
        rw [hw7] at hbx7 hbf7 hf1 ⊢
        have hf2 := setF (p := g) w7 ⟨g, q2 + i, none⟩ rfl (.int .u8 (x.toNat : Int))
        obtain ⟨w8, hw8⟩ : ∃ X : World, w7.setCell ⟨g, q2 + i, none⟩ (.int .u8 (x.toNat : Int)) = X := ⟨_, rfl⟩
        rw [hw8] at HS7
        rw [hw8] at hbx7 hbf7 hf2 ⊢
        have HF8 := Lib.hid ((HJ.out.2.1.trans (Fr.quiet (S := fun k => k = g ∨ k = g1 + 1) H6.out) fun _ _ h => h).trans ((hf1.trans hf2 fun _ _ h => h).mono (S' := fun k => k = g ∨ k = g1 + 1) fun k _ e => .inl e) fun _ _ h => h)
        have hl1 : (1 : Int) ≤ (l' : Int) := by have := HY.out.2.2.1; omega
        have hlc : (l' : Int) ≤ (c' : Int) := by have := HY.out.2.2.2.1; omega
        have hl1n : 1 ≤ l' := HY.out.2.2.1
        have hlcn : l' ≤ c' := HY.out.2.2.2.1
        clear hw7 hw8 hf1 hf2 hap
        by_cases e1 : c' = 1
        · rw [if_pos e1] at HS7
          subst e1
          obtain rfl : l' = 1 := by omega
          gi_wp2
          exact ⟨⟨j + 1, by simp, by have := HJ.out.2.2.2; omega, HJ.out.2.2.1, HS7.out, HF8.out.trans ((setF (p := g1 + 1) w8 _ rfl _).mono (S' := fun k => k = g ∨ k = g1 + 1) fun k _ e => .inr e) fun _ _ h => h⟩, by have := HJ.out.2.2.1; simp [intOf]; omega⟩
        · rw [if_neg e1] at HS7
          gi_wp2
          exact ⟨⟨j + 1, by simp, by have := HJ.out.2.2.2; omega, HJ.out.2.2.1, HS7.out, HF8.out.trans ((setF (p := g1 + 1) w8 _ rfl _).mono (S' := fun k => k = g ∨ k = g1 + 1) fun k _ e => .inr e) fun _ _ h => h⟩, by have := HJ.out.2.2.1; simp [intOf]; omega⟩
      · obtain rfl : n = j := by omega
        have HJ := Lib.hid (And.intro h1 h2)
        clear h1 h2 hj hjc hij
        gi_wp2
        exact ⟨HJ.out.2, HJ.out.1.congr (by show offS n i + (n - i) = offS n i + (n - i) + (i + 1 - (i + 1)); omega) fun x hx y hy => sym_next n b i x y hx hy⟩
  case hdone =>
    intro D W hD hi hK
    have H := Lib.hid hi
    have HK := Lib.hid (And.intro hD hK)
    obtain ⟨⟨c0, c1, c2⟩, _⟩ := cells3 hi.var
    obtain ⟨⟨d0, d1, d2⟩, f0, f1, f2⟩ := cells3 hi.res
    obtain ⟨W3, hW3⟩ : ∃ x : World, ((W.setCell ⟨g1 + 1 + 1, 0, none⟩ (.int .i64 (n : Int))).setCell ⟨g1 + 1 + 1, 1, none⟩ (.int .i64 (n : Int))).setCell ⟨g1 + 1 + 1, 2, none⟩ (.slice (some ⟨g, 0, none⟩) (n * n) (n * n)) = x := ⟨_, rfl⟩
    have h3 := set3 hi.res (.int .i64 (n : Int)) (.int .i64 (n : Int)) (.slice (some ⟨g, 0, none⟩) (n * n) (n * n))
    rw [hW3] at h3
    have HW3 := Lib.hid hW3
    have HR := Lib.hid h3
    clear hi hK hD h3 hW3
    go_wp2_with fail
    rw [HW3.out]
    have hap := HAP.out
    have hd := HK.out.1
    have hKD : W3.heap[D]? = some (.deferred (some [])) := by
      have h1 := (Array.getElem?_eq_some_iff.1 HK.out.2).1
      rw [HR.out.2.block D h1 (by omega)]; exact HK.out.2
    have hst := shut_still (B := 0) (.deferred none) hKD rfl (Nat.zero_le _)
    obtain ⟨⟨e0, e1, e2⟩, _⟩ := cells3 (hst.blk HR.out.1)
    refine ⟨by simp, .inl ⟨_, _, rfl, run_takeDeferred hKD, ?_⟩⟩
    refine ⟨.tuple #[.agg #[.int .i64 (n : Int), .int .i64 (n : Int), .slice (some ⟨g, 0, none⟩) (n * n) (n * n)], .int .i64 0], ?_, ?_⟩
    · simp [results, Try.results30, go_sem, e0, e1, e2]
    · have hb : Below w.heap.size w W3 := H.out.below.trans (HR.out.2.below H.out.below.size fun k e => by rw [e]; omega)
      have hw := (H.out.row.fr HR.out.2 (by omega)).congr (m' := symM n b) fun a ha b hb => by unfold symUp; rw [if_pos (.inl (by omega))]
      refine ⟨some ⟨g, 0, none⟩, n * n, rfl, Nat.le_refl _, ?_, ?_⟩
      · exact Nw.of_own (Own.down (Own.fr hw (put_fr (k := D) _) (fun g' e1 e2 => by injection e1 with e1; have := congrArg Addr.block e1; dsimp only at this; omega)) (by omega))
      · exact hb.trans ((put_fr (k := D) _).below hb.size fun k e => by rw [e]; omega)
end Go.Proofs.Ythdapoipfnnaeaa.MxW
/- Packed. -/
namespace Go.Proofs.Ythdapoipfnnaeaa.MxW
open Go.RowKit Go.Shelf Mem Gf FdW Mx Rng
open PlW (In)
set_option linter.unusedVariables false
attribute [local go_sem] Oper.semAt_some wide_fn

/-- A range over a matrix's rows, the rounds' blocks told apart from the loop's own. -/
theorem wpIn_rows2 {g : Operand} {p q : Tmp} {assign body : Code} {Q : Exit → Act → World → Prop} {a : Act} {w : World} (bm r c : Nat) (A : Option Addr) (n cap : Nat)
    (hg : a.eval g = .func (.func 57) #[] #[.pointer (some ⟨bm, 0, none⟩)]) (hbm : Blk w bm 27 #[.int .i64 (r : Int), .int .i64 (c : Int), .slice A n cap]) (hr : (r : Int) ≤ 1000000) (hn : n = r * c) (hn9 : (n : Int) ≤ 1000000000) (hc : n ≤ cap)
    (SB : Nat → Prop) (hSB : ¬ SB bm ∧ ¬ SB w.heap.size ∧ ¬ SB (w.heap.size + 1)) (I : Nat → World → Prop) (hI : ∀ i W W', I i W → Fr (fun k => k = w.heap.size + 1) W W' → I i W') (h0 : ∀ W, Below w.heap.size w W → W.heap.size = w.heap.size + 2 → I 0 W)
    (hround : ∀ (l i : Nat) (W : World), I i W → i < r → assign.wpIn (Fence.wide.inRound l) 3 Try.prog (Exit.then (fun a₁ W₁ => W₁ = W ∧ ∀ W2, I i W2 → body.wpIn (Fence.wide.inRound l) 3 Try.prog (postR SB I i W2) a₁ W2) (fun _ _ _ => False))
      { tmps := (a.tmps.setIfInBounds p (.int .i64 (i : Int))).setIfInBounds q (.slice (rowA A c i) c c), defers := [] } W)
    (hdone : ∀ (D : Nat) (W : World), D = w.heap.size → I r W → W.heap[D]? = some (.deferred (some [])) → Q .normal { a with defers := { target := .collected D, args := #[] } :: a.defers } W) :
    (Code.rangeFunc g #[p, q] assign body).wpIn Fence.wide 5 Try.prog Q a w := by
  refine wpIn_rangeT (gf := 57) (lb := #[.pointer (some ⟨bm, 0, none⟩)]) (encs := rowV A c) hg (enters_of Try.func57 (by kernel_rfl) rfl) (fun _ => rfl)
    (fun pre W => I pre.length W) (fun _ _ _ => False) (fun pre x _ => x = pre.length ∧ x < r) SB (S := fun xs => xs.length = r) (Sp := fun _ => False) ⟨hSB.2.1, hSB.2.2⟩
    (rows_callT w bm r c A n cap hbm hr hn hn9 hc SB hSB.1 _ (fun pre W W' h hb => hI _ _ _ h (Fr.quiet hb))) (fun pre W W' h hf => hI _ _ _ h hf) (fun _ _ _ _ h _ => h) (fun _ _ _ _ h _ => h)
    (fun W hb hs => h0 W hb hs) ?_ ?_ ?_
  · rintro l pre x W hi ⟨rfl, hx⟩
    rw [show (#[p, q].zip (rowV A c pre.length)).foldl (fun t (p, v) => t.setIfInBounds p v) a.tmps = (a.tmps.setIfInBounds p (.int .i64 (pre.length : Int))).setIfInBounds q (.slice (rowA A c pre.length) c c) from by simp [rowV]]
    refine wpIn_mono (hround l pre.length W hi hx) ?_
    rintro e a1 W0 he
    cases e with
    | normal =>
      obtain ⟨h1, h2⟩ : W0 = W ∧ _ := he
      refine ⟨h1, fun W2 hi2 _ => wpIn_mono (h2 W2 hi2) ?_⟩
      rintro e3 a3 W3 h3
      cases e3 with
      | normal => exact ⟨h3.1, by show I (pre ++ [pre.length]).length W3; rw [List.length_append]; exact h3.2⟩
      | _ => exact h3.elim
    | _ => exact he.elim
  · rintro D xs W hD hxs hi hK
    have hxs : xs.length = r := hxs
    rw [← hxs] at hdone
    exact hdone D W hD hi hK
  · rintro D c pre W _ h _ _
    exact h.elim

def packR (n : Nat) (m : M) (i : Nat) : List UInt8 := (List.range (n - i)).map fun j => m i (i + j)
def packS (n : Nat) (m : M) (k : Nat) : List UInt8 := (List.range k).flatMap (packR n m)
theorem packR_len (n : Nat) (m : M) (i : Nat) : (packR n m i).length = n - i := by simp [packR]
theorem packS_succ (n : Nat) (m : M) (k : Nat) : packS n m (k + 1) = packS n m k ++ packR n m k := by
  unfold packS; rw [List.range_succ, List.flatMap_append, List.flatMap_singleton]
theorem packS_len (n : Nat) (m : M) : ∀ k, (packS n m k).length = offS n k
  | 0 => rfl
  | k + 1 => by rw [packS_succ, List.length_append, packS_len n m k, packR_len]; rfl
theorem offS_max {n k : Nat} (hn : n ≤ 65536) (hk : k ≤ n) : offS n k ≤ 65536 * 65536 := by
  have h1 : offS n k ≤ offS n n := offS_mono hk
  have h2 := offS_len n
  have h3 : n * (n + 1) ≤ 65536 * 65537 := Nat.mul_le_mul hn (by omega)
  omega
/-- While Packed goes on: b's box gb, its bytes. -/
structure PackI (w : World) (gb D n : Nat) (m : M) (i : Nat) (W : World) : Prop where
  below : Below w.heap.size w W
  lt : D + 2 ≤ W.heap.size
  bx : ∃ A c, Blk W gb 22 #[.slice A (offS n i) c] ∧ Mem.Own W (D + 2) 5 A c ((packS n m i).map u8v)
def PackOk (w : World) (n : Nat) (m : M) (e : Ending) (w' : World) : Prop := ∃ A c, e = .returned (.tuple #[.slice A (offS n n) c, .int .i64 0]) ∧ offS n n ≤ c ∧ Nw w.heap.size w' A (packS n m n) ∧ Below w.heap.size w w'
set_option maxRecDepth 100000 in
set_option maxHeartbeats 4000000 in
theorem packed_ok (w : World) (r : Nat) (A : Option Addr) (n cap : Nat) (m : M) (hn : n = r * r) (hrt : rightB r r n = true) (hcap : n ≤ cap) (hn9 : (n : Int) ≤ 1000000000) (hA : Bytes w w.heap.size A (flat r r m)) (hsm : flat r r (fun a b => m b a) = flat r r m) :
    Calls Try.prog 39 #[.agg #[.int .i64 (r : Int), .int .i64 (r : Int), .slice A n cap]] w (PackOk w r m) := by
  have hr : r ≤ 65536 := by have h := of_decide_eq_true hrt; omega
  obtain ⟨i0, hi0, hz0, hz1, hz2⟩ : ∃ i : TypeInfo, Try.prog.info? 5 = some i ∧ i.zero = some (.int .u8 0) ∧ i.size = 1 ∧ i.bytes = 1 := ⟨_, rfl, rfl, rfl, rfl⟩
  refine of_wide ?_
  refine callsIn_of_wp_marks Try.func39 rfl trivial ?_ rfl
  refine wpIn_wide.2 ?_
  simp only [Try.ntmps39, List.size_toArray, List.length_cons, List.length_nil, Nat.reduceAdd, Nat.reduceSub, Array.replicate_succ, Array.replicate_zero, List.push_toArray, List.append_toArray, List.nil_append, List.cons_append]
  obtain ⟨w1, ga, h1, hw1, hga⟩ := boxed w (mcells r r A n cap)
  have HW1 := Lib.hid (show w.alloc (.cells #[.int .i64 (r : Int), .int .i64 (r : Int), .slice A n cap] 27) = w1 from hw1)
  have HG := Lib.hid hga
  have H1 := Lib.hid h1
  have HL := Lib.hid (And.intro hn (And.intro hcap (And.intro hn9 hr)))
  have HA := Lib.hid hA
  have HSM := Lib.hid hsm
  have HRT := Lib.hid hrt
  obtain ⟨⟨c0, c1, c2⟩, _⟩ := cells3 h1.2.1
  rw [← HW1.out] at c0 c1 c2
  clear h1 hw1 hga hn hcap hn9 hr hA hsm hrt
  go_wp2_with fail
  rw [HW1.out, HG.out]
  refine (turned_ok w1 r r A n cap m HL.out.1 HRT.out HL.out.2.1 HL.out.2.2.1 ((HA.out.below H1.out.1).up H1.out.1.size)).mono ?_
  rintro e w2 ⟨A2, cq, rfl, hc2, hnw, hb⟩
  have H2 := Lib.hid (show Below w.heap.size w w2 ∧ Blk w2 ga 27 (mcells r r A n cap) ∧ r * r ≤ cq ∧ Nw w1.heap.size w2 A2 (flat r r fun a b => m b a) from ⟨next H1.out.1 hb, H1.out.2.1.keep hb, hc2, hnw⟩)
  obtain ⟨w3, gt, h3, hw3, hgt⟩ := boxed w2 (mcells r r A2 (r * r) cq)
  have H3 := Lib.hid (show Below w.heap.size w w3 ∧ Blk w3 ga 27 (mcells r r A n cap) ∧ Blk w3 gt 27 (mcells r r A2 (r * r) cq) ∧ Nw w1.heap.size w3 A2 (flat r r fun a b => m b a) from ⟨next H2.out.1 h3.1, H2.out.2.1.keep h3.1, h3.2.1, hnw.keep h3.1⟩)
  have HG3 := Lib.hid hgt
  have HW3 := Lib.hid (show w2.alloc (.cells #[.int .i64 (r : Int), .int .i64 (r : Int), .slice A2 (r * r) cq] 27) = w3 from hw3)
  have HS := Lib.hid (show w.heap.size ≤ w1.heap.size ∧ w1.heap.size ≤ w2.heap.size ∧ w3.heap.size = w2.heap.size + 1 ∧ w.heap.size = ga ∧ w1.heap.size = ga + 1 from ⟨H1.out.1.size, hb.size, by have := h3.2.2; omega, HG.out, H1.out.2.2⟩)
  obtain ⟨⟨b0, b1, b2⟩, _⟩ := cells3 H3.out.2.1
  rw [← HW3.out] at b0 b1 b2
  clear hb hc2 hnw c0 c1 c2 h3 hw3
  go_wp2_with fail
  rw [HW3.out]
  clear hgt b0 b1 b2
  refine (same_any w3 _ _ _ _ A2 A (flat r r fun a b => m b a) (flat r r m) (r * r) cq n cap w3.heap.size w.heap.size (by rw [flat_len]) (by rw [flat_len]; exact HL.out.1.symm) (Nat.le_refl _) H3.out.1.size H3.out.2.2.2.1 (HA.out.below H3.out.1)).mono ?_
  rintro e w4 ⟨rfl, hb⟩
  rw [show sameB (r : Int) r r r (flat r r fun a b => m b a) (flat r r m) = true from decide_eq_true ⟨rfl, rfl, HSM.out⟩]
  have H4 := Lib.hid (show Below w.heap.size w w4 ∧ Blk w4 ga 27 (mcells r r A n cap) ∧ w3.heap.size ≤ w4.heap.size from ⟨next H3.out.1 hb, H3.out.2.1.keep hb, hb.size⟩)
  obtain ⟨⟨b0, b1, b2⟩, _⟩ := cells3 H4.out.2.1
  obtain ⟨w5, gb, h5, hw5, hgb⟩ := boxedT w4 #[.slice none 0 0] 22
  have HW5 := Lib.hid (show w4.alloc (.cells #[.slice none 0 0] 22) = w5 from hw5)
  have HG5 := Lib.hid hgb
  have H5 := Lib.hid h5
  obtain ⟨⟨d0, d1, d2⟩, _⟩ := cells3 (H4.out.2.1.keep h5.1)
  rw [← HW5.out] at d0 d1 d2
  clear hb hw5 hgb h5 b0 b1 b2
  go_wp2_with fail
  rw [HW5.out, HG5.out]
  refine (rows_any w5 _ _ _).mono ?_
  rintro e w6' ⟨rfl, rfl⟩
  obtain ⟨w6, bm, h6, hw6, hbm⟩ := boxed w5 (mcells r r A n cap)
  have HW6 := Lib.hid (show w5.alloc (.cells #[.int .i64 (r : Int), .int .i64 (r : Int), .slice A n cap] 27) = w6 from hw6)
  rw [HW6.out, hbm]
  have hap : w.heap.size = ga ∧ ga < gb ∧ bm = gb + 1 ∧ w6.heap.size = bm + 1 := by
    have k1 := HS.out; have k2 := H4.out.2.2; have k3 := HG5.out; have k4 := H5.out.2.2; have k5 := h6.2.2
    omega
  have HAP := Lib.hid hap
  have H6 := Lib.hid (show Below w.heap.size w w6 ∧ Blk w6 gb 22 #[.slice none 0 0] ∧ Blk w6 bm 27 (mcells r r A n cap) from ⟨next (next H4.out.1 H5.out.1) h6.1, H5.out.2.1.keep h6.1, h6.2.1⟩)
  clear hw6 hbm h6 hap d0 d1 d2
  go_wp2_with fail
  refine (wpIn_wide (n := 5)).1 ?_
  refine wpIn_rows2 bm r r A n cap rfl H6.out.2.2 (by have := HL.out; omega) HL.out.1 HL.out.2.2.1 HL.out.2.1 (fun k => k = gb ∨ w6.heap.size + 2 ≤ k) (by have := HAP.out; omega)
    (fun i W => PackI w gb w6.heap.size r m i W) ?hI ?h0 ?hround ?hdone
  case hI =>
    intro i W W' h hf
    have hap := HAP.out
    obtain ⟨B, cb, h1, h2⟩ := h.bx
    exact ⟨h.below.trans (hf.below h.below.size fun k e => by omega), Nat.le_trans h.lt hf.size, B, cb, h1.fr hf (by omega), Own.fr h2 hf (fun g' e1 e2 => by
      rcases h2.form with ⟨e3, _⟩ | ⟨g2, e3, hb2, _⟩
      · rw [e1] at e3; cases e3
      · rw [e1] at e3; injection e3 with e3; have := congrArg Addr.block e3; dsimp only at this; omega)⟩
  case h0 =>
    intro W hb hs
    exact ⟨next H6.out.1 hb, by omega, none, 0, H6.out.2.1.keep hb, Own.nil⟩
  case hround =>
    intro ln i W hi hlt
    obtain ⟨ab, off, hX, hab, _, hcs⟩ := row_at (HA.out.below hi.below) hlt (show 0 < r by omega)
    rw [hX]
    have HX := Lib.hid hX
    have HLT := Lib.hid hlt
    have HAB := Lib.hid hab
    have hii0 : (0 : Int) ≤ (i : Int) := by omega
    have hin : (i : Int) ≤ (r : Int) := by omega
    have hir : ¬ r = i := by omega
    clear hlt hi hX hab hcs
    gi_wp2
    refine ⟨trivial, fun W2 hi2 => ?_⟩
    obtain ⟨B, cb, hb2, ho2⟩ := hi2.bx
    obtain ⟨ab', off', e3, _, _, hcs⟩ := row_at (HA.out.below hi2.below) HLT.out (show 0 < r by have := HLT.out; omega)
    have HI := Lib.hid hi2
    have HB2 := Lib.hid hb2
    have HO2 := Lib.hid ho2
    have hr2 : Bytes W2 w.heap.size (some ⟨ab, off + i, none⟩) (packR r m i) := fun _ => ⟨ab, off + i, rfl, HAB.out, fun j v hv => by
      have hX2 := HX.out.symm.trans e3
      injection hX2 with hX2
      have hx3 := congrArg Addr.off hX2
      have hx4 := congrArg Addr.block hX2
      dsimp only at hx3 hx4
      obtain ⟨hj, hv⟩ := List.getElem?_eq_some_iff.1 hv
      rw [List.length_map, packR_len] at hj
      subst hx3 hx4
      rw [List.getElem_map] at hv
      have := hcs (i + j) (by omega)
      rw [← hv, Nat.add_assoc, this]
      simp [packR, u8v]⟩
    have HR2 := Lib.hid hr2
    have HMX := Lib.hid (show offS r i + (r - i) ≤ maxLen ∧ (offS r i + (r - i)) * 1 ≤ 140737488355328 from by
      have h1 := offS_max HL.out.2.2.2 (show i + 1 ≤ r from HLT.out)
      have h2 : offS r (i + 1) = offS r i + (r - i) := rfl
      rw [← h2]
      generalize offS r (i + 1) = q at h1
      simp [maxLen]; omega)
    clear hi2 hb2 ho2 e3 hcs hr2
    gi_wp2
    --HELD pack8
    refine wpIn_only ?_
    refine wpIn_heldG (fun w' => Blk w' gb 22 #[.slice B (offS r i) cb]) [5] (by kernel_rfl) (by kernel_rfl) (fun ⟨_, _, h⟩ => h) ?hs0 ?rg0
    case hs0 =>
      exact HB2.out
    case rg0 =>
    intro hHeld
    refine wpAnyG_take (i := 0) (oi := { dst := some 26, op := Op.load 22 (Operand.tmp 6), type := 22, pos := _, after := #[], guard := none }) (v := ?_) rfl (by kernel_rfl) (by kernel_rfl) (by kernel_rfl) (by kernel_rfl) (fun _ _ _ h => h) (Or.inl ⟨by rfl, ?_⟩) (by assumption) ?_
    rotate_left
    · intro w hSw
      try dsimp only at hSw
      have c0 := hSw.cell 0
      go_simp
      try with_reducible rfl
    try simp only [Act.put, List.setIfInBounds_toArray, List.set_cons_zero, List.set_cons_succ]
    refine wpAnyG_pure (i := 1) (oi := { dst := some 27, op := Op.move (Operand.tmp 8), type := 22, pos := _, after := #[], guard := none }) (v := ?_) rfl (by kernel_rfl) (by kernel_rfl) (by kernel_rfl) (by kernel_rfl) (fun _ _ _ h => h) (Or.inl ⟨by rfl, ?_⟩) (fun _ => by assumption) ?_
    rotate_left
    · intro w hSw
      try dsimp only at hSw
      go_simp
      try with_reducible rfl
    try simp only [Act.put, List.setIfInBounds_toArray, List.set_cons_zero, List.set_cons_succ]
    refine wpAnyG_pure (i := 2) (oi := { dst := some 28, op := Op.move (Operand.tmp 7), type := 3, pos := _, after := #[], guard := none }) (v := ?_) rfl (by kernel_rfl) (by kernel_rfl) (by kernel_rfl) (by kernel_rfl) (fun _ _ _ h => h) (Or.inl ⟨by rfl, ?_⟩) (fun _ => by assumption) ?_
    rotate_left
    · intro w hSw
      try dsimp only at hSw
      go_simp
      try with_reducible rfl
    try simp only [Act.put, List.setIfInBounds_toArray, List.set_cons_zero, List.set_cons_succ]
    refine wpAnyG_pure (i := 3) (oi := { dst := some 29, op := Op.slice 22 (Operand.tmp 27) (some (Operand.tmp 28)) none none, type := 22, pos := _, after := #[{ on := 1, ground := Ground.data }, { on := 2, ground := Ground.data }], guard := none }) (v := ?_) rfl (by kernel_rfl) (by kernel_rfl) (by kernel_rfl) (by kernel_rfl) (fun _ _ _ h => h) (Or.inl ⟨by rfl, ?_⟩) (fun _ => by assumption) ?_
    rotate_left
    · intro w hSw
      try dsimp only at hSw
      go_simp
      try with_reducible rfl
    try simp only [Act.put, List.setIfInBounds_toArray, List.set_cons_zero, List.set_cons_succ]
    refine wpAnyG_one (i := 4) (o := { dst := some 30, op := Op.call { callee := Callee.builtin Builtin.append, args := #[Operand.tmp 26, Operand.tmp 29], argTypes := #[22, 22] }, type := 22, pos := _, after := #[{ on := 0, ground := Ground.data }, { on := 3, ground := Ground.data }], guard := none }) (by kernel_rfl) rfl (fun K hK => ?_)
    refine step_app _ rfl _ _ _ rfl (w6.heap.size + 2) 5 i0 _ 1 Try.underlying22 hi0 hz0 hz1 hz2 rfl B cb (offS r i) ((packS r m i).map u8v) rfl (by rw [List.length_map, packS_len]) (HO2.out.keep (nextN (Mem.start W2) 1)) w.heap.size (some ⟨ab, off + i, none⟩) (r - i) (r - i) ((packR r m i).map u8v) rfl (by rw [List.length_map, packR_len]) HR2.out u8v_one (by rw [List.length_map, List.length_map, packS_len, packR_len]; exact HMX.out.1) (by rw [List.length_map, List.length_map, packS_len, packR_len]; exact HMX.out.2) HI.out.lt (offS r (i + 1)) rfl ?_
    intro A1 cx w7 ho7 hb7 hg7 hA7
    have H7 := Lib.hid (And.intro (show Mem.Own w7 (w6.heap.size + 2) 5 A1 cx ((packS r m (i + 1)).map u8v) from by rw [packS_succ, List.map_append]; exact ho7) (And.intro hg7 (show Blk w7 gb 22 #[.slice B (offS r i) cb] from hHeld.app (HO2.out.keep (nextN (Mem.start W2) 1)) (by decide) hg7)))
    clear ho7 hb7 hg7 hA7
    try dsimp only
    refine hK.out _ _ ?_ (fun hHeld => ?_)
    · intro _
      try dsimp only
      exact H7.out.2.2
    clear hK K
    try simp only [Act.put, List.setIfInBounds_toArray, List.set_cons_zero, List.set_cons_succ]
    have hHeld := hHeld (by kernel_rfl)
    refine wpAnyG_one (i := 5) (o := { dst := none, op := Op.store 22 (Operand.tmp 6) (Operand.tmp 30), type := 0, pos := _, after := #[{ on := 4, ground := Ground.data }, { on := 4, ground := Ground.chain }, { on := 0, ground := Ground.phase }, { on := 1, ground := Ground.phase }, { on := 2, ground := Ground.phase }, { on := 3, ground := Ground.phase }, { on := 4, ground := Ground.phase }], guard := none }) (by kernel_rfl) rfl (fun K hK => ?_)
    have k1 := hHeld.cell 0
    have k2 := hHeld.frozen 0
    go_simp
    try dsimp only
    refine hK.out _ _ ?_ (fun hHeld => ?_)
    · exact fun h => (st_no (by kernel_rfl) h).elim
    clear hK K
    try simp only [Act.put, List.setIfInBounds_toArray, List.set_cons_zero, List.set_cons_succ]
    clear hHeld
    refine wpAnyG_done (by kernel_rfl) ?_ _
    refine onlyN_end ?_
    --END pack8
    have hap := HAP.out
    have hf7 : Fr (fun k => k = gb ∨ w6.heap.size + 2 ≤ k) W2 w7 := (Fr.quiet (nextN (Mem.start W2) 1)).trans (Fr.grown H7.out.2.1 fun k e => by
      rcases HO2.out.form with ⟨e3, _⟩ | ⟨g2, e3, hb2, _⟩
      · rw [e3] at e; cases e
      · rw [e3] at e; injection e with e; exact .inr (by rw [← e]; exact hb2)) fun _ _ h => h
    have hf8 := setF (p := gb) w7 ⟨gb, 0, none⟩ rfl (.slice A1 (offS r (i + 1)) cx)
    have hff := hf7.trans (hf8.mono (S' := fun k => k = gb ∨ w6.heap.size + 2 ≤ k) fun k _ e => .inl e) fun _ _ h => h
    exact ⟨hff, HI.out.below.trans (hff.below HI.out.below.size fun k e => by omega), Nat.le_trans HI.out.lt hff.size, A1, cx, H7.out.2.2.set_ 0 _, Own.fr H7.out.1 hf8 fun g' e1 e2 => by
      rcases H7.out.1.form with ⟨e3, _⟩ | ⟨g2, e3, hb2, _⟩
      · rw [e1] at e3; cases e3
      · rw [e1] at e3; injection e3 with e3; have := congrArg Addr.block e3; dsimp only at this; omega⟩
  case hdone =>
    intro D W hD hi hK
    obtain ⟨B, cb, hb2, ho2⟩ := hi.bx
    have H := Lib.hid hi
    have HK := Lib.hid (And.intro hD hK)
    have HB := Lib.hid hb2
    have HO := Lib.hid ho2
    have c0 : W.cell? ⟨gb, 0, none⟩ = some (.slice B (offS r r) cb) := hb2.cell 0
    clear hi hK hD hb2 ho2
    go_wp2_with fail
    have hst := shut_still (B := 0) (.deferred none) HK.out.2 rfl (Nat.zero_le _)
    have hap := HAP.out
    have hD := HK.out.1
    refine ⟨by simp, .inl ⟨_, _, rfl, run_takeDeferred HK.out.2, ?_⟩⟩
    refine ⟨.tuple #[.slice B (offS r r) cb, .int .i64 0], ?_, ?_⟩
    · simp [results, Try.results39, go_sem]
    · have hw := Own.fr HO.out (put_fr (k := D) (.deferred none)) fun g' e1 e2 => by
        rcases HO.out.form with ⟨e3, _⟩ | ⟨g2, e3, hb2, _⟩
        · rw [e1] at e3; cases e3
        · rw [e1] at e3; injection e3 with e3; have := congrArg Addr.block e3; dsimp only at this; omega
      exact ⟨B, cb, rfl, by have := HO.out.le; rwa [List.length_map, packS_len] at this, (Nw.of_own hw).mono (by have := H.out.below.size; omega), H.out.below.trans ((put_fr (k := D) _).below H.out.below.size fun k e => by omega)⟩
def PackNo (w : World) (e : Ending) (w' : World) : Prop := e = .returned (.tuple #[.slice none 0 0, .int .i64 50]) ∧ Below w.heap.size w w'
set_option maxRecDepth 100000 in
set_option maxHeartbeats 4000000 in
theorem packed_bad (w : World) (R C : Int) (A : Option Addr) (n cap : Nat) (hrt : rightB R C n = false) :
    Calls Try.prog 39 #[.agg #[.int .i64 R, .int .i64 C, .slice A n cap]] w (PackNo w) := by
  obtain ⟨w1, ga, h1, hw1, hga⟩ := boxed w #[.int .i64 R, .int .i64 C, .slice A n cap]
  have HW1 := Lib.hid hw1
  have HG := Lib.hid hga
  have H1 := Lib.hid h1
  have HRT := Lib.hid hrt
  obtain ⟨⟨c0, c1, c2⟩, _⟩ := cells3 h1.2.1
  rw [← HW1.out] at c0 c1 c2
  clear h1 hw1 hga hrt
  go_enter Try.func39, Try.ntmps39
  go_wp2_with fail
  rw [HW1.out, HG.out]
  refine (turned_bad w1 R C A n cap HRT.out).mono ?_
  rintro e w2 ⟨rfl, hb⟩
  have H2 := Lib.hid (next H1.out.1 hb)
  clear hb c0 c1 c2
  go_wp2_with fail
  refine bodyPost_ret (v := .tuple #[.slice none 0 0, .int .i64 50]) (by simp [results, Try.results39, go_sem]) rfl ⟨rfl, ?_⟩
  exact next H2.out (nextA (Mem.start w2) _)
set_option maxRecDepth 100000 in
set_option maxHeartbeats 4000000 in
theorem packed_no (w : World) (r c : Nat) (A : Option Addr) (n cap : Nat) (m : M) (hn : n = r * c) (hrt : rightB r c n = true) (hcap : n ≤ cap) (hn9 : (n : Int) ≤ 1000000000) (hA : Bytes w w.heap.size A (flat r c m)) (hsm : sameB (c : Int) r r c (flat c r fun a b => m b a) (flat r c m) = false) :
    Calls Try.prog 39 #[.agg #[.int .i64 (r : Int), .int .i64 (c : Int), .slice A n cap]] w (PackNo w) := by
  obtain ⟨w1, ga, h1, hw1, hga⟩ := boxed w (mcells r c A n cap)
  have HW1 := Lib.hid (show w.alloc (.cells #[.int .i64 (r : Int), .int .i64 (c : Int), .slice A n cap] 27) = w1 from hw1)
  have HG := Lib.hid hga
  have H1 := Lib.hid h1
  have HL := Lib.hid (And.intro hn (And.intro hcap hn9))
  have HA := Lib.hid hA
  have HSM := Lib.hid hsm
  have HRT := Lib.hid hrt
  obtain ⟨⟨c0, c1, c2⟩, _⟩ := cells3 h1.2.1
  rw [← HW1.out] at c0 c1 c2
  clear h1 hw1 hga hn hcap hn9 hA hsm hrt
  go_enter Try.func39, Try.ntmps39
  go_wp2_with fail
  rw [HW1.out, HG.out]
  refine (turned_ok w1 r c A n cap m HL.out.1 HRT.out HL.out.2.1 HL.out.2.2 ((HA.out.below H1.out.1).up H1.out.1.size)).mono ?_
  rintro e w2 ⟨A2, cq, rfl, hc2, hnw, hb⟩
  have H2 := Lib.hid (show Below w.heap.size w w2 ∧ Blk w2 ga 27 (mcells r c A n cap) from ⟨next H1.out.1 hb, H1.out.2.1.keep hb⟩)
  obtain ⟨w3, gt, h3, hw3, hgt⟩ := boxed w2 (mcells c r A2 (c * r) cq)
  have H3 := Lib.hid (show Below w.heap.size w w3 ∧ Blk w3 ga 27 (mcells r c A n cap) ∧ Nw w1.heap.size w3 A2 (flat c r fun a b => m b a) from ⟨next H2.out.1 h3.1, H2.out.2.keep h3.1, hnw.keep h3.1⟩)
  have HW3 := Lib.hid (show w2.alloc (.cells #[.int .i64 (c : Int), .int .i64 (r : Int), .slice A2 (c * r) cq] 27) = w3 from hw3)
  obtain ⟨⟨b0, b1, b2⟩, _⟩ := cells3 H3.out.2.1
  rw [← HW3.out] at b0 b1 b2
  clear hb hc2 hnw c0 c1 c2 h3 hw3
  go_wp2_with fail
  rw [HW3.out]
  clear hgt b0 b1 b2
  refine (same_any w3 _ _ _ _ A2 A (flat c r fun a b => m b a) (flat r c m) (c * r) cq n cap w3.heap.size w.heap.size (by rw [flat_len]) (by rw [flat_len]; exact HL.out.1.symm) (Nat.le_refl _) H3.out.1.size H3.out.2.2.1 (HA.out.below H3.out.1)).mono ?_
  rintro e w4 ⟨rfl, hb⟩
  rw [HSM.out]
  have H4 := Lib.hid (next H3.out.1 hb)
  clear hb
  go_wp2_with fail
  exact bodyPost_ret (v := .tuple #[.slice none 0 0, .int .i64 50]) (by simp [results, Try.results39, go_sem]) rfl ⟨rfl, H4.out⟩
end Go.Proofs.Ythdapoipfnnaeaa.MxW
/- Linear algebra, plain: products; what the reduced form tells. -/
namespace Go.Proofs.Ythdapoipfnnaeaa.Mx
open Gf
set_option linter.unusedVariables false
set_option linter.unusedSectionVars false

theorem xsum_zero {n : Nat} {f : Nat → UInt8} (h : ∀ j, j < n → f j = 0) : xsum n f = 0 := by
  induction n with
  | zero => rfl
  | succ n ih => unfold xsum; rw [ih fun j hj => h j (by omega), h n (by omega)]; rfl
theorem xsum_xor (n : Nat) (f g : Nat → UInt8) : xsum n (fun j => f j ^^^ g j) = xsum n f ^^^ xsum n g := by
  induction n with
  | zero => show (0 : UInt8) = 0 ^^^ 0; decide
  | succ n ih => unfold xsum; rw [ih, Pl.xor4]
theorem mul_xsum (c : UInt8) (n : Nat) (f : Nat → UInt8) : mul c (xsum n f) = xsum n fun j => mul c (f j) := by
  induction n with
  | zero => exact mul_zero c
  | succ n ih => unfold xsum; rw [mul_xor, ih]
theorem xsum_mul (c : UInt8) (n : Nat) (f : Nat → UInt8) : mul (xsum n f) c = xsum n fun j => mul (f j) c := by
  rw [mul_comm, mul_xsum]; exact xsum_congr fun j _ => mul_comm _ _
theorem xsum_swap (m n : Nat) (f : Nat → Nat → UInt8) : xsum m (fun i => xsum n fun j => f i j) = xsum n fun j => xsum m fun i => f i j := by
  induction m with
  | zero => exact (xsum_zero fun j _ => rfl).symm
  | succ m ih =>
    show xsum m (fun i => xsum n fun j => f i j) ^^^ xsum n (fun j => f m j) = _
    rw [ih, ← xsum_xor]; rfl
theorem xsum_one {n k : Nat} (hk : k < n) {f : Nat → UInt8} (h : ∀ j, j < n → j ≠ k → f j = 0) : xsum n f = f k := by
  induction n with
  | zero => omega
  | succ n ih =>
    unfold xsum
    by_cases e : k = n
    · subst e
      rw [xsum_zero fun j hj => h j (by omega) (by omega), UInt8.zero_xor]
    · rw [ih (by omega) fun j hj hj2 => h j (by omega) hj2, h n (by omega) (by omega), UInt8.xor_zero]
theorem mulM_assoc (c d : Nat) (a b e : M) (i k : Nat) : mulM d (mulM c a b) e i k = mulM c a (mulM d b e) i k := by
  unfold mulM
  rw [xsum_congr fun j _ => xsum_mul (e j k) c fun l => mul (a i l) (b l j), xsum_swap]
  refine xsum_congr fun l _ => ?_
  rw [mul_xsum]
  exact xsum_congr fun j _ => mul_assoc _ _ _
def idm' : M := fun i k => if i = k then 1 else 0
theorem mulM_id {c k : Nat} (a : M) (i : Nat) (hk : k < c) : mulM c a idm' i k = a i k := by
  unfold mulM
  rw [xsum_one hk fun j _ hj => by unfold idm'; rw [if_neg hj, mul_zero]]
  unfold idm'; rw [if_pos rfl, mul_one]
theorem id_mulM {r i : Nat} (a : M) (hi : i < r) (k : Nat) : mulM r idm' a i k = a i k := by
  unfold mulM
  rw [xsum_one hi fun j _ hj => by unfold idm'; rw [if_neg (Ne.symm hj), zero_mul]]
  unfold idm'; rw [if_pos rfl, one_mul]
theorem mulM_turn (c : Nat) (a b : M) (i k : Nat) : mulM c a b k i = mulM c (fun x y => b y x) (fun x y => a y x) i k := xsum_congr fun j _ => mul_comm _ _

/-! Steps by rows. -/
section
variable {r c a b i k : Nat} {X X' : M}
theorem swap_iff (ha : a < r) (hb : b < r) : (∀ i, i < r → swapM X a b i k = swapM X' a b i k) ↔ ∀ i, i < r → X i k = X' i k := by
  unfold swapM
  constructor
  · intro h i hi
    by_cases e : i = b
    · have := h a ha
      rwa [if_pos rfl, if_pos rfl, ← e] at this
    · by_cases e2 : i = a
      · have := h b hb
        by_cases e3 : b = a
        · omega
        · rwa [if_neg e3, if_neg e3, if_pos rfl, if_pos rfl, ← e2] at this
      · have := h i hi
        rwa [if_neg e2, if_neg e2, if_neg e, if_neg e] at this
  · intro h i hi
    by_cases e : i = a
    · rw [if_pos e, if_pos e]; exact h b hb
    · rw [if_neg e, if_neg e]
      by_cases e2 : i = b
      · rw [if_pos e2, if_pos e2]; exact h a ha
      · rw [if_neg e2, if_neg e2]; exact h i hi
theorem scale_iff {v : UInt8} (hv : v ≠ 0) : (∀ i, i < r → scaleM X a v i k = scaleM X' a v i k) ↔ ∀ i, i < r → X i k = X' i k := by
  unfold scaleM
  constructor
  · intro h i hi
    have := h i hi
    by_cases e : i = a
    · rw [if_pos e, if_pos e] at this
      have h2 := congrArg (fun z => mul z (inv v)) this
      simpa only [mul_assoc, mul_inv hv, mul_one] using h2
    · rwa [if_neg e, if_neg e] at this
  · intro h i hi
    rw [h i hi]
theorem elim_iff (t : Nat → UInt8) (ha : a < r) : (∀ i, i < r → elim t X a i k = elim t X' a i k) ↔ ∀ i, i < r → X i k = X' i k := by
  unfold elim
  constructor
  · intro h i hi
    have h0 := h a ha
    rw [if_pos rfl, if_pos rfl] at h0
    have := h i hi
    by_cases e : i = a
    · rwa [if_pos e, if_pos e] at this
    · rw [if_neg e, if_neg e, h0] at this
      have h2 := congrArg (fun z => z ^^^ mul (X' a k) (t i)) this
      simpa only [UInt8.xor_assoc, UInt8.xor_self, UInt8.xor_zero] using h2
  · intro h i hi
    rw [h i hi, h a ha]
theorem step_iff (A : M) {f n : Nat} (ha : a < r) (hf : f < r) (h0 : A f n ≠ 0) : (∀ i, i < r → stepX A X a f n i k = stepX A X' a f n i k) ↔ ∀ i, i < r → X i k = X' i k :=
  (elim_iff _ ha).trans ((scale_iff (inv_ne h0)).trans (swap_iff ha hf))
theorem mulM_swap (X x : M) (a b : Nat) : mulM c (swapM X a b) x = swapM (mulM c X x) a b := by
  funext i k
  unfold mulM swapM
  by_cases e : i = a
  · simp only [if_pos e]
  · simp only [if_neg e]
    by_cases e2 : i = b
    · simp only [if_pos e2]
    · simp only [if_neg e2]
theorem mulM_scale (X x : M) (a : Nat) (v : UInt8) : mulM c (scaleM X a v) x = scaleM (mulM c X x) a v := by
  funext i k
  unfold mulM scaleM
  by_cases e : i = a
  · simp only [if_pos e]
    rw [xsum_mul]
    exact xsum_congr fun j _ => by rw [mul_assoc, mul_comm v, mul_assoc]
  · simp only [if_neg e]
theorem mulM_elim (t : Nat → UInt8) (X x : M) (a : Nat) : mulM c (elim t X a) x = elim t (mulM c X x) a := by
  funext i k
  unfold mulM elim
  by_cases e : i = a
  · simp only [if_pos e]
  · simp only [if_neg e]
    rw [xsum_mul, ← xsum_xor]
    exact xsum_congr fun j _ => by rw [xor_mul, mul_assoc, mul_assoc, mul_comm (t i)]
theorem step_mul (A X x : M) (a f n : Nat) : mulM c (stepX A X a f n) x = stepX A (mulM c X x) a f n := by
  unfold stepX pivB
  rw [mulM_elim, mulM_scale, mulM_swap]
theorem step_zero (A : M) (a f n : Nat) : stepX A (fun _ _ => 0) a f n = fun _ _ => 0 := by
  have h : pivB A (fun _ _ => 0) a f n = fun _ _ => 0 := by
    funext i k
    unfold pivB scaleM swapM
    simp only [ite_self, zero_mul]
  funext i k
  unfold stepX elim
  rw [h]
  simp only [zero_mul, UInt8.xor_zero, ite_self]
end
/-! The reduced form. -/
section
variable {A B B' : M} {r c n : Nat}
theorem redTo_A (A B B' : M) (r : Nat) : ∀ n, (redTo r A B n).A = (redTo r A B' n).A ∧ (redTo r A B n).at_ = (redTo r A B' n).at_
  | 0 => ⟨rfl, rfl⟩
  | n + 1 => by
    obtain ⟨h1, h2⟩ := redTo_A A B B' r n
    unfold redTo redStep
    rw [h1, h2]
    split
    · exact ⟨rfl, rfl⟩
    · exact ⟨h1, h2⟩
theorem redTo_iff (A B B' : M) (r k : Nat) : ∀ n, (∀ i, i < r → (redTo r A B n).B i k = (redTo r A B' n).B i k) ↔ ∀ i, i < r → B i k = B' i k
  | 0 => Iff.rfl
  | n + 1 => by
    obtain ⟨h1, h2⟩ := redTo_A A B B' r n
    have ih := redTo_iff A B B' r k n
    have ha := (redTo_at (A := A) (B := B') (r := r) n).1
    unfold redTo redStep
    rw [h1, h2]
    by_cases h : find (redTo r A B' n).A r n (redTo r A B' n).at_ < r
    · rw [if_pos h, if_pos h]
      have := find_ge (A := (redTo r A B' n).A) (r := r) (k := n) (i := (redTo r A B' n).at_)
      exact (step_iff _ (by omega) h (find_ne h)).trans ih
    · rw [if_neg h, if_neg h]; exact ih
theorem redTo_mul (A x : M) (r c : Nat) : ∀ n, mulM c (redTo r A B n).A x = (redTo r A (mulM c A x) n).B
  | 0 => rfl
  | n + 1 => by
    obtain ⟨h1, h2⟩ := redTo_A A B (mulM c A x) r n
    have ih := redTo_mul A x r c n
    unfold redTo redStep
    rw [h1, h2]
    rw [h1] at ih
    split
    · show mulM c (stepX _ _ _ _ _) x = stepX _ _ _ _ _
      rw [step_mul, ih]
    · rw [h1]; exact ih
theorem redTo_zero (A : M) (r : Nat) : ∀ n, (redTo r A (fun _ _ => 0) n).B = fun _ _ => 0
  | 0 => rfl
  | n + 1 => by
    have ih := redTo_zero A r n
    unfold redTo redStep
    rw [ih]
    split
    · exact step_zero _ _ _ _
    · exact ih
/-- What a step makes of its own columns. -/
theorem step_col {A : M} {a f n : Nat} (h0 : A f n ≠ 0) (i : Nat) : stepX A A a f n i n = if i = a then 1 else 0 := by
  have h1 : pivA A a f n a n = 1 := by
    unfold pivA scaleM swapM
    rw [if_pos rfl, if_pos rfl]; exact mul_inv h0
  unfold stepX elim
  by_cases e : i = a
  · rw [if_pos e, if_pos e, e]; exact h1
  · rw [if_neg e, if_neg e]
    show pivA A a f n i n ^^^ mul (pivA A a f n a n) (pivA A a f n i n) = 0
    rw [h1, one_mul, UInt8.xor_self]
theorem step_old {A : M} {a f n k : Nat} (h0 : A a k = 0) (hf : A f k = 0) (i : Nat) : stepX A A a f n i k = A i k := by
  have hs : ∀ i, swapM A a f i k = A i k := by
    intro i
    unfold swapM
    by_cases e : i = a
    · rw [if_pos e, e, h0, hf]
    · rw [if_neg e]
      by_cases e2 : i = f
      · rw [if_pos e2, e2, h0, hf]
      · rw [if_neg e2]
  have h1 : pivA A a f n a k = 0 := by
    unfold pivA scaleM
    rw [if_pos rfl, hs, h0, zero_mul]
  unfold stepX elim
  by_cases e : i = a
  · rw [if_pos e, e, h0]; exact h1
  · rw [if_neg e]
    show pivA A a f n i k ^^^ mul (pivA A a f n a k) _ = A i k
    rw [h1, zero_mul, UInt8.xor_zero]
    unfold pivA scaleM
    rw [if_neg e, hs]
structure Red (r n : Nat) (s : RS) : Prop where
  zero : ∀ i, s.at_ ≤ i → i < r → ∀ k, k < n → s.A i k = 0
  piv : ∀ j, j < s.at_ → ∃ k, k < n ∧ ∀ i, i < r → s.A i k = if i = j then 1 else 0
theorem red_any (A B : M) (r : Nat) : ∀ n, Red r n (redTo r A B n)
  | 0 => ⟨fun _ _ _ k hk => absurd hk (Nat.not_lt_zero _), fun j hj => absurd hj (Nat.not_lt_zero _)⟩
  | n + 1 => by
    have ih := red_any A B r n
    have ha := redTo_at (A := A) (B := B) (r := r) n
    unfold redTo redStep
    generalize redTo r A B n = s at ih ha
    by_cases h : find s.A r n s.at_ < r
    · rw [if_pos h]
      have hg := find_ge (A := s.A) (r := r) (k := n) (i := s.at_)
      have hne := find_ne h
      generalize find s.A r n s.at_ = f at h hg hne
      refine ⟨fun i hi hir k hk => ?_, fun j hj => ?_⟩
      · dsimp only at hi ⊢
        by_cases e : k = n
        · rw [e, step_col hne, if_neg (by omega)]
        · rw [step_old (ih.zero _ (Nat.le_refl _) (by omega) k (by omega)) (ih.zero _ hg h k (by omega))]
          exact ih.zero i (by omega) hir k (by omega)
      · dsimp only at hj ⊢
        by_cases e : j = s.at_
        · exact ⟨n, by omega, fun i _ => by rw [step_col hne, e]⟩
        · obtain ⟨k, hk, hd⟩ := ih.piv j (by omega)
          exact ⟨k, by omega, fun i hi => by rw [step_old (ih.zero _ (Nat.le_refl _) (by omega) k hk) (ih.zero _ hg h k hk)]; exact hd i hi⟩
    · rw [if_neg h]
      refine ⟨fun i hi hir k hk => ?_, fun j hj => ?_⟩
      · by_cases e : k = n
        · rw [e]; exact find_zero (A := s.A) (r := r) (k := n) hi (by omega)
        · exact ih.zero i hi hir k (by omega)
      · obtain ⟨k, hk, hd⟩ := ih.piv j hj
        exact ⟨k, by omega, hd⟩
/-- With a pivot in each column. -/
theorem red_diag (A B : M) (r : Nat) : ∀ n, (redTo r A B n).at_ = n → ∀ k, k < n → ∀ i, i < r → (redTo r A B n).A i k = if i = k then 1 else 0
  | 0 => fun _ k hk => absurd hk (Nat.not_lt_zero _)
  | n + 1 => by
    have ih := red_diag A B r n
    have hr := red_any A B r n
    have ha := redTo_at (A := A) (B := B) (r := r) n
    intro hat k hk i hi
    unfold redTo redStep at hat ⊢
    generalize redTo r A B n = s at ih ha hat hr
    by_cases h : find s.A r n s.at_ < r
    · rw [if_pos h] at hat ⊢
      have hat2 : s.at_ + 1 = n + 1 := hat
      have hg := find_ge (A := s.A) (r := r) (k := n) (i := s.at_)
      have hne := find_ne h
      generalize find s.A r n s.at_ = f at h hg hne
      dsimp only
      by_cases e : k = n
      · rw [e, step_col hne]
        rw [show s.at_ = n by omega]
      · rw [step_old (hr.zero _ (Nat.le_refl _) (by omega) k (by omega)) (hr.zero _ hg h k (by omega))]
        exact ih (by omega) k (by omega) i hi
    · rw [if_neg h] at hat
      omega
theorem at_mono {m n : Nat} (h : m ≤ n) : (redTo r A B m).at_ ≤ (redTo r A B n).at_ := by
  induction n with
  | zero => rw [show m = 0 by omega]; exact Nat.le_refl _
  | succ n ih =>
    by_cases e : m = n + 1
    · rw [e]; exact Nat.le_refl _
    · refine Nat.le_trans (ih (by omega)) ?_
      show _ ≤ (redStep r n (redTo r A B n)).at_
      unfold redStep
      split
      · exact Nat.le_succ _
      · exact Nat.le_refl _
/-- A row times a column. -/
def dot (c : Nat) (f y : Nat → UInt8) : UInt8 := xsum c fun j => mul (f j) (y j)
/-- Where fewer pivots are than columns something is sent to nought. -/
theorem ker_any (A : M) (r : Nat) : ∀ c, (redTo r A (fun _ _ => 0) c).at_ < c → ∃ y : Nat → UInt8, (∃ j, j < c ∧ y j ≠ 0) ∧ ∀ i, i < r → dot c (A i) y = 0
  | 0 => fun h => absurd h (Nat.not_lt_zero _)
  | c + 1 => by
    intro h
    have ih := ker_any A r c
    by_cases hc : (redTo r A (fun _ _ => 0) c).at_ < c
    · obtain ⟨y, ⟨j, hj, hy⟩, h0⟩ := ih hc
      refine ⟨fun k => if k < c then y k else 0, ⟨j, by omega, by dsimp only; rw [if_pos hj]; exact hy⟩, fun i hi => ?_⟩
      have h1 := h0 i hi
      unfold dot at h1 ⊢
      show xsum c _ ^^^ _ = 0
      dsimp only
      rw [xsum_congr (g := fun j => mul (A i j) (y j)) fun j hj => by rw [if_pos hj], h1, if_neg (by omega), mul_zero]; rfl
    · have ha := redTo_at (A := A) (B := fun _ _ => 0) (r := r) c
      have hd := red_diag A (fun _ _ => 0) r c (by omega)
      have hm := redTo_mul (B := fun _ _ => 0) A (fun j _ => if j = c then 1 else if j < c then (redTo r A (fun _ _ => 0) c).A j c else 0) r (c + 1) c
      have hi := redTo_iff A (mulM (c + 1) A (fun j _ => if j = c then 1 else if j < c then (redTo r A (fun _ _ => 0) c).A j c else 0)) (fun _ _ => 0) r 0 c
      rw [← hm, redTo_zero] at hi
      have hz : ∀ i, i < r → c ≤ i → (redTo r A (fun _ _ => 0) c).A i c = 0 := by
        intro i h1 h2
        unfold redTo redStep at h
        by_cases hf : find (redTo r A (fun _ _ => 0) c).A r c (redTo r A (fun _ _ => 0) c).at_ < r
        · rw [if_pos hf] at h
          have : (redTo r A (fun _ _ => 0) c).at_ + 1 < c + 1 := h
          omega
        · exact find_zero (A := (redTo r A (fun _ _ => 0) c).A) (r := r) (k := c) (i := (redTo r A (fun _ _ => 0) c).at_) (by omega) (by omega)
      clear hm ih h
      generalize redTo r A (fun _ _ => 0) c = s at ha hd hi hz
      refine ⟨fun j => if j = c then 1 else if j < c then s.A j c else 0, ⟨c, by omega, by (try dsimp only); rw [if_pos rfl]; decide⟩, fun i hir => hi.1 (fun i hir => ?_) i hir⟩
      show xsum c _ ^^^ _ = 0
      (try dsimp only)
      rw [if_pos rfl, mul_one]
      by_cases e : i < c
      · rw [xsum_one e fun j hj hne => by (try dsimp only); rw [hd j hj i hir, if_neg (Ne.symm hne), zero_mul]]
        (try dsimp only)
        rw [hd i e i hir, if_pos rfl, one_mul, if_neg (by omega), if_pos e, UInt8.xor_self]
      · rw [xsum_zero fun j hj => by (try dsimp only); rw [hd j hj i hir, if_neg (by omega), zero_mul], hz i hir (by omega)]; rfl
/-- More unknowns than equations. -/
theorem more_unknowns (C : M) {d t : Nat} (h : d < t) : ∃ y : Nat → UInt8, (∃ j, j < t ∧ y j ≠ 0) ∧ ∀ i, i < d → dot t (C i) y = 0 := by
  have := (redTo_at (A := C) (B := fun _ _ => 0) (r := d) t).1
  exact ker_any C d t (by omega)
theorem dot_sum (c t : Nat) (f : Nat → UInt8) (p : Nat → Nat) (z : Nat → UInt8) (hp : ∀ l, l < t → p l < c) : dot c f (fun k => xsum t fun l => if p l = k then z l else 0) = dot t (fun l => f (p l)) z := by
  unfold dot
  rw [xsum_congr fun k _ => mul_xsum (f k) t fun l => if p l = k then z l else 0, xsum_swap]
  refine xsum_congr fun l hl => ?_
  rw [xsum_one (hp l hl) fun k _ hk => by rw [if_neg (Ne.symm hk), mul_zero], if_pos rfl]
/-- Where d rows send to nought only what r rows do, there are no more pivots than d. -/
theorem rank_le {d : Nat} (A D : M) (r c : Nat) (h : ∀ y, (∀ i, i < d → dot c (D i) y = 0) → ∀ i, i < r → dot c (A i) y = 0) : (redTo r A (fun _ _ => 0) c).at_ ≤ d := by
  refine Nat.le_of_not_lt fun hlt => ?_
  have hr := red_any A (fun _ _ => 0) r c
  have ha := redTo_at (A := A) (B := fun _ _ => 0) (r := r) c
  have hmul := fun x => redTo_mul (B := fun _ _ => 0) A x r c c
  have hif := fun B => redTo_iff A B (fun _ _ => 0) r 0 c
  rw [redTo_zero] at hif
  generalize redTo r A (fun _ _ => 0) c = s at hlt hr ha hmul hif
  obtain ⟨p, hp⟩ : ∃ p : Nat → Nat, ∀ j, j < s.at_ → p j < c ∧ ∀ i, i < r → s.A i (p j) = if i = j then 1 else 0 := by
    refine ⟨fun j => if hj : j < s.at_ then (hr.piv j hj).choose else 0, fun j hj => ?_⟩
    (try dsimp only)
    rw [dif_pos hj]
    exact (hr.piv j hj).choose_spec
  obtain ⟨z, ⟨j, hj, hz⟩, h0⟩ := more_unknowns (fun i l => D i (p l)) hlt
  have h1 := h (fun k => xsum s.at_ fun l => if p l = k then z l else 0) fun i hi => by
    rw [dot_sum c s.at_ (D i) p z fun l hl => (hp l hl).1]; exact h0 i hi
  have h2 := (hif (mulM c A fun k _ => xsum s.at_ fun l => if p l = k then z l else 0)).2 fun i hi => h1 i hi
  rw [← hmul] at h2
  have h3 : dot c (s.A j) (fun k => xsum s.at_ fun l => if p l = k then z l else 0) = 0 := h2 j (by omega)
  rw [dot_sum c s.at_ (s.A j) p z fun l hl => (hp l hl).1] at h3
  unfold dot at h3
  rw [xsum_one hj fun l hl hne => by (try dsimp only); rw [(hp l hl).2 j (by omega), if_neg (Ne.symm hne), zero_mul]] at h3
  dsimp only at h3
  rw [(hp j hj).2 j (by omega), if_pos rfl, one_mul] at h3
  exact hz h3
/-- Solutions: what is found is one, and what is one is found. -/
theorem sol_unique {x : M} {k : Nat} (ha : (redTo r A B c).at_ = c) (h : ∀ i, i < r → mulM c A x i k = B i k) : (∀ i, i < c → (redTo r A B c).B i k = x i k) ∧ ∀ i, c ≤ i → i < r → (redTo r A B c).B i k = 0 := by
  have h1 := (redTo_iff A (mulM c A x) B r k c).2 h
  rw [← redTo_mul (B := B)] at h1
  have h2 := red_diag A B r c ha
  have h3 := redTo_at (A := A) (B := B) (r := r) c
  refine ⟨fun i hi => ?_, fun i hi hir => ?_⟩
  · rw [← h1 i (by omega)]
    unfold mulM
    rw [xsum_one hi fun j hj hne => by (try dsimp only); rw [h2 j hj i (by omega), if_neg (Ne.symm hne), zero_mul]]
    (try dsimp only)
    rw [h2 i hi i (by omega), if_pos rfl, one_mul]
  · rw [← h1 i hir]
    unfold mulM
    exact xsum_zero fun j hj => by rw [h2 j hj i hir, if_neg (by omega), zero_mul]
theorem sol_is {k : Nat} (ha : (redTo r A B c).at_ = c) (hz : ∀ i, c ≤ i → i < r → (redTo r A B c).B i k = 0) : ∀ i, i < r → mulM c A (redTo r A B c).B i k = B i k := by
  refine (redTo_iff A (mulM c A (redTo r A B c).B) B r k c).1 ?_
  rw [← redTo_mul (B := B)]
  have h2 := red_diag A B r c ha
  have h3 := redTo_at (A := A) (B := B) (r := r) c
  intro i hir
  unfold mulM
  by_cases e : i < c
  · rw [xsum_one e fun j hj hne => by (try dsimp only); rw [h2 j hj i (by omega), if_neg (Ne.symm hne), zero_mul]]
    (try dsimp only)
    rw [h2 i e i (by omega), if_pos rfl, one_mul]
  · rw [hz i (by omega) hir]
    exact xsum_zero fun j hj => by rw [h2 j hj i hir, if_neg (by omega), zero_mul]
end
end Go.Proofs.Ythdapoipfnnaeaa.Mx
/- Powers at places: how many pivots there are. -/
namespace Go.Proofs.Ythdapoipfnnaeaa.Mx
open Gf Pl
set_option linter.unusedVariables false
set_option linter.unusedSectionVars false

theorem pow_rp (a : UInt8) (n : Nat) : pow a (n : Int) = rp a n := by
  by_cases h : a = 0
  · subst h
    cases n with
    | zero => rfl
    | succ n => rw [zero_pow (by omega)]; show 0 = mul (rp 0 n) 0; rw [mul_zero]
  · rw [pow_pw h, rp_pw h]
    refine pw_cong ?_
    rw [show ((n : Int) % 255).toNat = n % 255 by omega, Nat.mul_mod, Nat.mod_mod, ← Nat.mul_mod]
theorem row_succ (n : Nat) (y : Nat → UInt8) : row (n + 1) y = row n y ++ [y n] := by unfold row; rw [List.range_succ, List.map_append]; rfl
theorem dot_ev (x : UInt8) (y : Nat → UInt8) : ∀ n, dot n (fun k => pow x (k : Int)) y = ev (row n y) x
  | 0 => rfl
  | n + 1 => by
    rw [row_succ, ev_snoc, ← dot_ev x y n, row_len, ← pow_rp, mul_comm]; rfl
/-- The unlike ones among the first m. -/
def unl (xs : List UInt8) : Nat → List UInt8
  | 0 => []
  | m + 1 => if xs.getD m 0 ∈ unl xs m then unl xs m else unl xs m ++ [xs.getD m 0]
theorem unl_len (xs : List UInt8) : ∀ m, (unl xs m).length ≤ m
  | 0 => Nat.le_refl _
  | m + 1 => by
    have := unl_len xs m
    unfold unl
    split
    · omega
    · rw [List.length_append, List.length_singleton]; omega
theorem unl_mem (xs : List UInt8) (x : UInt8) : ∀ m, x ∈ unl xs m ↔ ∃ i, i < m ∧ xs.getD i 0 = x
  | 0 => ⟨fun h => absurd h (by unfold unl; exact List.not_mem_nil), fun ⟨i, hi, _⟩ => absurd hi (Nat.not_lt_zero _)⟩
  | m + 1 => by
    have ih := unl_mem xs x m
    unfold unl
    constructor
    · intro h
      split at h
      · obtain ⟨i, hi, e⟩ := ih.1 h; exact ⟨i, by omega, e⟩
      · rcases List.mem_append.1 h with h | h
        · obtain ⟨i, hi, e⟩ := ih.1 h; exact ⟨i, by omega, e⟩
        · exact ⟨m, by omega, (List.mem_singleton.1 h).symm⟩
    · rintro ⟨i, hi, e⟩
      by_cases e2 : i = m
      · subst e2
        split
        · next h => rw [← e]; exact h
        · rw [← e]; exact List.mem_append.2 (.inr (List.mem_singleton.2 rfl))
      · have := ih.2 ⟨i, by omega, e⟩
        split
        · exact this
        · exact List.mem_append.2 (.inl this)
theorem unl_nodup (xs : List UInt8) : ∀ m, (unl xs m).Nodup
  | 0 => by unfold unl; exact List.nodup_nil
  | m + 1 => by
    have ih := unl_nodup xs m
    unfold unl
    split
    · exact ih
    · next h =>
      refine List.nodup_append.2 ⟨ih, by simp, fun a ha b hb => ?_⟩
      rw [List.mem_singleton.1 hb]
      exact fun e => h (e ▸ ha)
/-- Rows of powers have as many pivots as there are unlike places. -/
theorem van_rank (xs : List UInt8) (n : Nat) : (redTo n (fun i k => pow (xs.getD i 0) (k : Int)) (fun _ _ => 0) n).at_ = (unl xs n).length := by
  apply Nat.le_antisymm
  · refine rank_le (d := (unl xs n).length) _ (fun i k => pow ((unl xs n).getD i 0) (k : Int)) n n fun y h i hi => ?_
    have hm : xs.getD i 0 ∈ unl xs n := (unl_mem xs _ n).2 ⟨i, hi, rfl⟩
    obtain ⟨j, hj, e⟩ := List.mem_iff_getElem.1 hm
    have h1 := h j hj
    (try dsimp only at h1)
    rw [List.getD_eq_getElem?_getD, List.getElem?_eq_getElem hj, Option.getD_some, e] at h1
    exact h1
  · refine Nat.le_trans (Nat.le_of_not_lt fun hlt => ?_) (at_mono (unl_len xs n))
    obtain ⟨y, ⟨j, hj, hy⟩, h0⟩ := ker_any _ n _ hlt
    have hl : len (row (unl xs n).length y) ≠ 0 := fun e => hy (by
      have := len_zero.1 e j
      rwa [cf, List.getD_eq_getElem?_getD, row_get hj, Option.getD_some] at this)
    have h1 := roots_le (unl xs n) (row (unl xs n).length y) (unl_nodup xs n) hl fun x hx => by
      obtain ⟨i, hi, e⟩ := (unl_mem xs x n).1 hx
      rw [← dot_ev, ← e]
      exact h0 i hi
    have h2 := len_le (row (unl xs n).length y)
    rw [row_len] at h2
    omega
end Go.Proofs.Ythdapoipfnnaeaa.Mx
