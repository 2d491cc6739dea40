/- Solve. -/
import Derived.Test.YthdapoipfnnaeaaMxSv
namespace Go.Proofs.Ythdapoipfnnaeaa.MxW
open Go.RowKit Go.Shelf Mem Gf FdW Mx Rng
open PlW (In)
set_option linter.unusedVariables false

/-- Behind the parameters. -/
structure SolP (w W : World) (ga gb g0 : Nat) (ca cb : Array Value) : Prop where
  below : Below w.heap.size w W
  a : Blk W ga 27 ca
  b : Blk W gb 27 cb
  res : Blk W g0 27 zmx
  nums : w.heap.size = ga ∧ gb = ga + 1 ∧ g0 = ga + 2 ∧ ga + 3 ≤ W.heap.size
theorem SolP.keep {w W W' : World} {ga gb g0 : Nat} {ca cb : Array Value} (h : SolP w W ga gb g0 ca cb) (hb : Below W.heap.size W W') : SolP w W' ga gb g0 ca cb :=
  ⟨next h.below hb, h.a.keep hb, h.b.keep hb, h.res.keep hb, by have := h.nums; have := hb.size; omega⟩
theorem solP_start (w : World) (ca cb : Array Value) : ∃ w1, SolP w w1 w.heap.size (w.heap.size + 1) (w.heap.size + 1 + 1) ca cb ∧
    ((w.alloc (.cells ca 27)).alloc (.cells cb 27)).alloc (.cells zmx 27) = w1 := by
  obtain ⟨x2, g2, h2, e2, n2⟩ := boxed w ca
  obtain ⟨x3, g3, h3, e3, n3⟩ := boxed x2 cb
  obtain ⟨x4, g4, h4, e4, n4⟩ := boxed x3 zmx
  refine ⟨x4, ?_, by rw [e2, e3, e4]⟩
  have k2 := h2.2.2; have k3 := h3.2.2; have k4 := h4.2.2
  rw [n2]
  obtain rfl : g3 = g2 + 1 := by omega
  obtain rfl : g4 = g2 + 1 + 1 := by omega
  exact ⟨next (next h2.1 h3.1) h4.1, (h2.2.1.keep h3.1).keep h4.1, h3.2.1.keep h4.1, h4.2.1, by omega⟩
/-- Refused, when the field may have been made. -/
def ErrF (w : World) (p : Nat) (code : Int) (e : Ending) (w' : World) : Prop := e = .returned (.tuple #[.agg #[.int .i64 0, .int .i64 0, .slice none 0 0], .int .i64 code]) ∧ Fld w' p ∧ Fr (fun k => k = p) w w'
theorem solve_apart {w : World} {p B gx : Nat} {XA X : Option Addr} (hp : p < w.heap.size) (hB : w.heap.size ≤ B) (hX : ∀ k, Bk X k → B ≤ k ∧ k < gx) (hA : ∀ k, Bk XA k → gx < k) (hBx : B ≤ gx) :
    (∀ k, Bk XA k → k ≠ p ∧ ¬ Bk X k) ∧ (∀ k, Bk X k → k ≠ p) ∧ ∀ k, RS' XA X p k → k = p ∨ (B ≤ k ∧ k ≠ gx) := by
  refine ⟨fun k h => ⟨by have := hA k h; omega, fun h2 => by have := hA k h; have := hX k h2; omega⟩, fun k h => by have := hX k h; omega, fun k hs => ?_⟩
  rcases hs with h | h | h
  · have := hA k h; omega
  · have := hX k h; omega
  · exact .inl h
set_option maxRecDepth 100000 in
set_option maxHeartbeats 8000000 in
theorem solve_bad1 (w : World) (F : Value) (R C R' C' : Int) (A A' : Option Addr) (n cap n' cap' : Nat) (hrt : rightB R C n = false) :
    Calls Try.prog 21 #[F, .agg #[.int .i64 R, .int .i64 C, .slice A n cap], .agg #[.int .i64 R', .int .i64 C', .slice A' n' cap']] w (ErrM w 50) := by
  obtain ⟨w1, h1, hw1⟩ := solP_start w #[.int .i64 R, .int .i64 C, .slice A n cap] #[.int .i64 R', .int .i64 C', .slice A' n' cap']
  obtain ⟨ga, hga⟩ : ∃ x, w.heap.size = x := ⟨_, rfl⟩
  rw [hga] at h1
  have HW1 := Lib.hid (show ((w.alloc (.cells #[.int .i64 R, .int .i64 C, .slice A n cap] 27)).alloc (.cells #[.int .i64 R', .int .i64 C', .slice A' n' cap'] 27)).alloc (.cells #[.int .i64 0, .int .i64 0, .slice none 0 0] 27) = w1 from hw1)
  have H1 := Lib.hid h1
  have HG := Lib.hid hga
  have HRT := Lib.hid hrt
  clear h1 hw1 hga hrt
  go_enter Try.func21, Try.ntmps21
  go_wp2_with fail
  rw [HW1.out, HG.out]
  refine (right_any w1 _ _ A n cap).mono ?_
  rintro e wA ⟨rfl, hb⟩
  rw [HRT.out]
  have HA := Lib.hid hb
  clear hb
  have hres := (show SolP w wA ga (ga + 1) (ga + 1 + 1) _ _ from H1.out.keep HA.out).res
  obtain ⟨⟨d0, d1, d2⟩, f0, f1, f2⟩ := cells3 hres
  go_wp2_with fail
  have h3 := set3 hres (.int .i64 0) (.int .i64 0) (.slice none 0 0)
  obtain ⟨w30, hw30⟩ : ∃ x : World, ((wA.setCell ⟨ga + 1 + 1, 0, none⟩ (.int .i64 0)).setCell ⟨ga + 1 + 1, 1, none⟩ (.int .i64 0)).setCell ⟨ga + 1 + 1, 2, none⟩ (.slice none 0 0) = x := ⟨_, rfl⟩
  rw [hw30] at h3 ⊢
  obtain ⟨⟨e0, e1, e2⟩, _⟩ := cells3 h3.1
  refine bodyPost_ret (v := .tuple #[.agg #[.int .i64 0, .int .i64 0, .slice none 0 0], .int .i64 50]) (by simp [results, Try.results21, go_sem, e0, e1, e2]) rfl ?_
  have hb := (H1.out.keep HA.out).below
  have hn := H1.out.nums
  exact ⟨rfl, hb.trans (h3.2.below hb.size fun k e => by rw [e]; omega)⟩
set_option maxRecDepth 100000 in
set_option maxHeartbeats 8000000 in
theorem solve_bad2 (w : World) (F : Value) (R C R' C' : Int) (A A' : Option Addr) (n cap n' cap' : Nat) (hrt : rightB R C n = true) (hrt2 : rightB R' C' n' = false) :
    Calls Try.prog 21 #[F, .agg #[.int .i64 R, .int .i64 C, .slice A n cap], .agg #[.int .i64 R', .int .i64 C', .slice A' n' cap']] w (ErrM w 50) := by
  obtain ⟨w1, h1, hw1⟩ := solP_start w #[.int .i64 R, .int .i64 C, .slice A n cap] #[.int .i64 R', .int .i64 C', .slice A' n' cap']
  obtain ⟨ga, hga⟩ : ∃ x, w.heap.size = x := ⟨_, rfl⟩
  rw [hga] at h1
  have HW1 := Lib.hid (show ((w.alloc (.cells #[.int .i64 R, .int .i64 C, .slice A n cap] 27)).alloc (.cells #[.int .i64 R', .int .i64 C', .slice A' n' cap'] 27)).alloc (.cells #[.int .i64 0, .int .i64 0, .slice none 0 0] 27) = w1 from hw1)
  have H1 := Lib.hid h1
  have HG := Lib.hid hga
  have HRT := Lib.hid hrt
  have HRT2 := Lib.hid hrt2
  clear h1 hw1 hga hrt hrt2
  go_enter Try.func21, Try.ntmps21
  go_wp2_with fail
  rw [HW1.out, HG.out]
  refine (right_any w1 _ _ A n cap).mono ?_
  rintro e wA ⟨rfl, hb⟩
  rw [HRT.out]
  have HA := Lib.hid hb
  have hpa := H1.out.keep hb
  obtain ⟨⟨a0, a1, a2⟩, _⟩ := cells3 hpa.a
  obtain ⟨⟨b0, b1, b2⟩, _⟩ := cells3 hpa.b
  clear hb hpa
  go_wp2_with fail
  refine (right_any wA _ _ A' n' cap').mono ?_
  rintro e wB ⟨rfl, hb⟩
  rw [HRT2.out]
  have HB := Lib.hid (next HA.out hb)
  have hpa := H1.out.keep HB.out
  clear a0 a1 a2 b0 b1 b2
  obtain ⟨⟨a0, a1, a2⟩, _⟩ := cells3 hpa.a
  obtain ⟨⟨b0, b1, b2⟩, _⟩ := cells3 hpa.b
  clear hb hpa
  have hres := (show SolP w wB ga (ga + 1) (ga + 1 + 1) _ _ from H1.out.keep HB.out).res
  obtain ⟨⟨d0, d1, d2⟩, f0, f1, f2⟩ := cells3 hres
  go_wp2_with fail
  have h3 := set3 hres (.int .i64 0) (.int .i64 0) (.slice none 0 0)
  obtain ⟨w30, hw30⟩ : ∃ x : World, ((wB.setCell ⟨ga + 1 + 1, 0, none⟩ (.int .i64 0)).setCell ⟨ga + 1 + 1, 1, none⟩ (.int .i64 0)).setCell ⟨ga + 1 + 1, 2, none⟩ (.slice none 0 0) = x := ⟨_, rfl⟩
  rw [hw30] at h3 ⊢
  obtain ⟨⟨e0, e1, e2⟩, _⟩ := cells3 h3.1
  refine bodyPost_ret (v := .tuple #[.agg #[.int .i64 0, .int .i64 0, .slice none 0 0], .int .i64 50]) (by simp [results, Try.results21, go_sem, e0, e1, e2]) rfl ?_
  have hb := (H1.out.keep HB.out).below
  have hn := H1.out.nums
  exact ⟨rfl, hb.trans (h3.2.below hb.size fun k e => by rw [e]; omega)⟩
set_option maxRecDepth 100000 in
set_option maxHeartbeats 8000000 in
theorem solve_bad3 (w : World) (F : Value) (R C R' C' : Int) (A A' : Option Addr) (n cap n' cap' : Nat) (hrt : rightB R C n = true) (hrt2 : rightB R' C' n' = true) (hne : (R != R') = true) :
    Calls Try.prog 21 #[F, .agg #[.int .i64 R, .int .i64 C, .slice A n cap], .agg #[.int .i64 R', .int .i64 C', .slice A' n' cap']] w (ErrM w 50) := by
  obtain ⟨w1, h1, hw1⟩ := solP_start w #[.int .i64 R, .int .i64 C, .slice A n cap] #[.int .i64 R', .int .i64 C', .slice A' n' cap']
  obtain ⟨ga, hga⟩ : ∃ x, w.heap.size = x := ⟨_, rfl⟩
  rw [hga] at h1
  have HW1 := Lib.hid (show ((w.alloc (.cells #[.int .i64 R, .int .i64 C, .slice A n cap] 27)).alloc (.cells #[.int .i64 R', .int .i64 C', .slice A' n' cap'] 27)).alloc (.cells #[.int .i64 0, .int .i64 0, .slice none 0 0] 27) = w1 from hw1)
  have H1 := Lib.hid h1
  have HG := Lib.hid hga
  have HRT := Lib.hid hrt
  have HRT2 := Lib.hid hrt2
  have HNE := Lib.hid hne
  clear h1 hw1 hga hrt hrt2 hne
  go_enter Try.func21, Try.ntmps21
  go_wp2_with fail
  rw [HW1.out, HG.out]
  refine (right_any w1 _ _ A n cap).mono ?_
  rintro e wA ⟨rfl, hb⟩
  rw [HRT.out]
  have HA := Lib.hid hb
  have hpa := H1.out.keep hb
  obtain ⟨⟨a0, a1, a2⟩, _⟩ := cells3 hpa.a
  obtain ⟨⟨b0, b1, b2⟩, _⟩ := cells3 hpa.b
  clear hb hpa
  go_wp2_with fail
  refine (right_any wA _ _ A' n' cap').mono ?_
  rintro e wB ⟨rfl, hb⟩
  rw [HRT2.out]
  have HB := Lib.hid (next HA.out hb)
  have hpa := H1.out.keep HB.out
  clear a0 a1 a2 b0 b1 b2
  obtain ⟨⟨a0, a1, a2⟩, _⟩ := cells3 hpa.a
  obtain ⟨⟨b0, b1, b2⟩, _⟩ := cells3 hpa.b
  clear hb hpa
  have hne := HNE.out
  have hres := (show SolP w wB ga (ga + 1) (ga + 1 + 1) _ _ from H1.out.keep HB.out).res
  obtain ⟨⟨d0, d1, d2⟩, f0, f1, f2⟩ := cells3 hres
  go_wp2_with fail
  have h3 := set3 hres (.int .i64 0) (.int .i64 0) (.slice none 0 0)
  obtain ⟨w30, hw30⟩ : ∃ x : World, ((wB.setCell ⟨ga + 1 + 1, 0, none⟩ (.int .i64 0)).setCell ⟨ga + 1 + 1, 1, none⟩ (.int .i64 0)).setCell ⟨ga + 1 + 1, 2, none⟩ (.slice none 0 0) = x := ⟨_, rfl⟩
  rw [hw30] at h3 ⊢
  obtain ⟨⟨e0, e1, e2⟩, _⟩ := cells3 h3.1
  refine bodyPost_ret (v := .tuple #[.agg #[.int .i64 0, .int .i64 0, .slice none 0 0], .int .i64 50]) (by simp [results, Try.results21, go_sem, e0, e1, e2]) rfl ?_
  have hb := (H1.out.keep HB.out).below
  have hn := H1.out.nums
  exact ⟨rfl, hb.trans (h3.2.below hb.size fun k e => by rw [e]; omega)⟩
set_option maxRecDepth 100000 in
set_option maxHeartbeats 8000000 in
theorem solve_no1 (w : World) (p : Nat) (hp : Fld w p) (r c d : Nat) (A A' : Option Addr) (n cap n' cap' : Nat) (a b : M) (hrt : rightB r c n = true) (hrt2 : rightB r d n' = true) (hrd : r ≤ 100 ∧ c ≤ 100 ∧ d ≤ 100) (hA : In w p A (flat r c a)) (hB : In w p A' (flat r d b)) (hk : (redTo r a b c).at_ < c) :
    Calls Try.prog 21 #[fptr (some p), .agg #[.int .i64 (r : Int), .int .i64 (c : Int), .slice A n cap], .agg #[.int .i64 (r : Int), .int .i64 (d : Int), .slice A' n' cap']] w (ErrF w p 51) := by
  have hn : n = r * c := by obtain ⟨r', c', e1, e2, _, _, e⟩ := right_nat hrt; rw [e, Int.ofNat.inj e1, Int.ofNat.inj e2]
  have hn' : n' = r * d := by obtain ⟨r', c', e1, e2, _, _, e⟩ := right_nat hrt2; rw [e, Int.ofNat.inj e1, Int.ofNat.inj e2]
  have hl : r * c ≤ 10000 ∧ r * d ≤ 10000 ∧ c * d ≤ 10000 := ⟨Nat.mul_le_mul hrd.1 hrd.2.1, Nat.mul_le_mul hrd.1 hrd.2.2, Nat.mul_le_mul hrd.2.1 hrd.2.2⟩
  obtain ⟨w1, h1, hw1⟩ := solP_start w #[.int .i64 (r : Int), .int .i64 (c : Int), .slice A n cap] #[.int .i64 (r : Int), .int .i64 (d : Int), .slice A' n' cap']
  obtain ⟨ga, hga⟩ : ∃ x, w.heap.size = x := ⟨_, rfl⟩
  rw [hga] at h1
  have HW1 := Lib.hid (show ((w.alloc (.cells #[.int .i64 (r : Int), .int .i64 (c : Int), .slice A n cap] 27)).alloc (.cells #[.int .i64 (r : Int), .int .i64 (d : Int), .slice A' n' cap'] 27)).alloc (.cells #[.int .i64 0, .int .i64 0, .slice none 0 0] 27) = w1 from hw1)
  have H1 := Lib.hid h1
  have HG := Lib.hid hga
  have HP := Lib.hid hp
  have HRT := Lib.hid hrt
  have HRT2 := Lib.hid hrt2
  have HRD := Lib.hid hrd
  have HAA := Lib.hid hA
  have HBB := Lib.hid hB
  have HN := Lib.hid hn
  have HN2 := Lib.hid hn'
  have HL := Lib.hid hl
  have HK := Lib.hid hk
  clear h1 hw1 hga hp hrt hrt2 hrd hA hB hn hn' hl hk
  go_enter Try.func21, Try.ntmps21
  go_wp2_with fail
  rw [HW1.out, HG.out]
  refine (right_any w1 _ _ A n cap).mono ?_
  rintro e wA ⟨rfl, hb⟩
  rw [HRT.out]
  have HA := Lib.hid hb
  have hpa := H1.out.keep hb
  obtain ⟨⟨a0, a1, a2⟩, _⟩ := cells3 hpa.a
  obtain ⟨⟨b0, b1, b2⟩, _⟩ := cells3 hpa.b
  clear hb hpa
  go_wp2_with fail
  refine (right_any wA _ _ A' n' cap').mono ?_
  rintro e wB ⟨rfl, hb⟩
  rw [HRT2.out]
  have HB := Lib.hid (next HA.out hb)
  have hpa := H1.out.keep HB.out
  clear a0 a1 a2 b0 b1 b2
  obtain ⟨⟨a0, a1, a2⟩, _⟩ := cells3 hpa.a
  obtain ⟨⟨b0, b1, b2⟩, _⟩ := cells3 hpa.b
  clear hb hpa
  have H2 := Lib.hid (H1.out.keep HB.out)
  go_wp2_with fail
  refine (own_any wB _ _ A' (flat r d b) n' cap' (by rw [flat_len]; exact HN2.out.symm) (by have := HN2.out; have := HL.out; omega) ((HBB.out.1.below H2.out.below).up H2.out.below.size)).mono ?_
  rintro e w3 ⟨X, cx, rfl, ho, hb⟩
  rw [flat_len]
  have H3 := Lib.hid (And.intro (H2.out.keep hb) (show Mem.Own w3 wB.heap.size 5 X cx ((flat r d b).map u8v) from ho))
  obtain ⟨w4, gx, h4, hw4, hgx⟩ := boxed w3 (mcells r d X (r * d) cx)
  have HW4 := Lib.hid (show w3.alloc (.cells #[.int .i64 (r : Int), .int .i64 (d : Int), .slice X (r * d) cx] 27) = w4 from hw4)
  have H4 := Lib.hid (And.intro (H3.out.1.keep h4.1) (And.intro (H3.out.2.keep h4.1) h4.2))
  have HSX := Lib.hid (show wB.heap.size ≤ gx from by rw [← hgx]; exact hb.size)
  have HGX := Lib.hid hgx
  clear ho hb h4 hw4 hgx a0 a1 a2 b0 b1 b2
  go_wp2_with fail
  rw [HW4.out, HGX.out]
  --HELD solve_no1r
  refine wp_region_noPanic ?_
  refine wp_heldG (fun w' => Blk w' ga 27 (mcells r c A n cap) ∧ Blk w' gx 27 (mcells r d X (r * d) cx)) [] (by kernel_rfl) ?hs0 ?rg0
  case hs0 =>
    exact ⟨H4.out.1.a, H4.out.2.2.1⟩
  case rg0 =>
  intro hHeld
  refine wpAnyG_pure (i := 0) (oi := { dst := some 28, op := Op.move (Operand.tmp 0), type := 24, pos := _, after := #[], guard := none }) (v := ?_) rfl (by kernel_rfl) (by kernel_rfl) (by kernel_rfl) (by kernel_rfl) (fun _ _ _ h => h) (Or.inl ⟨by rfl, ?_⟩) (fun _ => by assumption) ?_
  rotate_left
  · intro w hSw
    try dsimp only at hSw
    go_simp
    try with_reducible rfl
  try simp only [Act.put, List.setIfInBounds_toArray, List.set_cons_zero, List.set_cons_succ]
  refine wpAnyG_take (i := 1) (oi := { dst := some 29, op := Op.load 27 (Operand.tmp 4), type := 27, pos := _, after := #[], guard := none }) (v := ?_) rfl (by kernel_rfl) (by kernel_rfl) (by kernel_rfl) (by kernel_rfl) (fun _ _ _ h => h) (Or.inl ⟨by rfl, ?_⟩) (by assumption) ?_
  rotate_left
  · intro w hSw
    try dsimp only at hSw
    obtain ⟨⟨c0, c1, c2⟩, _⟩ := cells3 hSw.1
    go_simp
    try with_reducible rfl
  try simp only [Act.put, List.setIfInBounds_toArray, List.set_cons_zero, List.set_cons_succ]
  refine wpAnyG_take (i := 3) (oi := { dst := some 31, op := Op.load 27 (Operand.tmp 8), type := 27, pos := _, after := #[], guard := none }) (v := ?_) rfl (by kernel_rfl) (by kernel_rfl) (by kernel_rfl) (by kernel_rfl) (fun _ _ _ h => h) (Or.inl ⟨by rfl, ?_⟩) (by assumption) ?_
  rotate_left
  · intro w hSw
    try dsimp only at hSw
    obtain ⟨⟨c0, c1, c2⟩, _⟩ := cells3 hSw.2
    go_simp
    try with_reducible rfl
  try simp only [Act.put, List.setIfInBounds_toArray, List.set_cons_zero, List.set_cons_succ]
  refine wpAnyG_pure (i := 5) (oi := { dst := some 33, op := Op.fieldAddr 27 (Operand.tmp 4) 1, type := 0, pos := _, after := #[], guard := none }) (v := ?_) rfl (by kernel_rfl) (by kernel_rfl) (by kernel_rfl) (by kernel_rfl) (fun _ _ _ h => h) (Or.inl ⟨by rfl, ?_⟩) (fun _ => by assumption) ?_
  rotate_left
  · intro w hSw
    try dsimp only at hSw
    go_simp
    try with_reducible rfl
  try simp only [Act.put, List.setIfInBounds_toArray, List.set_cons_zero, List.set_cons_succ]
  refine wpAnyG_take (i := 6) (oi := { dst := some 34, op := Op.load 3 (Operand.tmp 33), type := 3, pos := _, after := #[{ on := 5, ground := Ground.data }], guard := none }) (v := ?_) rfl (by kernel_rfl) (by kernel_rfl) (by kernel_rfl) (by kernel_rfl) (fun _ _ _ h => h) (Or.inl ⟨by rfl, ?_⟩) (by assumption) ?_
  rotate_left
  · intro w hSw
    try dsimp only at hSw
    obtain ⟨⟨c0, c1, c2⟩, _⟩ := cells3 hSw.1
    go_simp
    try with_reducible rfl
  try simp only [Act.put, List.setIfInBounds_toArray, List.set_cons_zero, List.set_cons_succ]
  refine wpAnyG_one (i := 2) (o := { dst := some 30, op := Op.call { callee := Callee.value (Operand.func 47), args := #[Operand.tmp 29], argTypes := #[27] }, type := 27, pos := _, after := #[{ on := 1, ground := Ground.data }], guard := none }) (by kernel_rfl) rfl (fun K hK => ?_)
  go_simp
  have hb4 := next H4.out.1.below (nextN (Mem.start w4) 1)
  refine (own_any _ _ _ A (flat r c a) n cap (by rw [flat_len]; exact HN.out.symm) (by have := HN.out; have := HL.out; omega) ((HAA.out.1.below hb4).up hb4.size)).mono ?_
  rintro e w5 ⟨XA, ca, rfl, ho, hb⟩
  rw [flat_len]
  have H5 := Lib.hid (And.intro (show Mem.Own w5 w4.heap.size 5 XA ca ((flat r c a).map u8v) from ho) (And.intro (H4.out.1.keep (next (nextN (Mem.start w4) 1) hb)) (And.intro (H4.out.2.1.keep (next (nextN (Mem.start w4) 1) hb)) (H4.out.2.2.1.keep (next (nextN (Mem.start w4) 1) hb)))))
  clear ho hb4
  try dsimp only
  refine hK.out _ _ ?_ (fun hHeld => ?_)
  · intro _
    try dsimp only
    exact ⟨hHeld.1.keep hb, hHeld.2.keep hb⟩
  clear hK K
  try simp only [Act.put, List.setIfInBounds_toArray, List.set_cons_zero, List.set_cons_succ]
  have hHeld := hHeld (by kernel_rfl)
  refine wpAnyG_one (i := 4) (o := { dst := some 32, op := Op.call { callee := Callee.value (Operand.func 46), args := #[Operand.tmp 28, Operand.tmp 30, Operand.tmp 31], argTypes := #[24, 27, 27] }, type := 3, pos := _, after := #[{ on := 0, ground := Ground.data }, { on := 2, ground := Ground.data }, { on := 3, ground := Ground.data }, { on := 2, ground := Ground.chain }], guard := none }) (by kernel_rfl) rfl (fun K hK => ?_)
  clear hb
  go_simp
  have hap := solve_apart (X := X) (XA := XA) HP.out.lt (show w.heap.size ≤ wB.heap.size from H2.out.below.size) (fun k h => ⟨(own_bk H3.out.2 h).1, by have := (own_bk H3.out.2 h).2; have := HGX.out; omega⟩) (fun k h => by have := (own_bk H5.out.1 h).1; have := H4.out.2.2.2; omega) HSX.out
  refine (reduce_any w5 p (HP.out.keep H5.out.2.1.below) r c d (by have := HRD.out; omega) XA X (r * c) (r * d) ca cx rfl rfl a b (Own.down H5.out.1 (Nat.zero_le _)) (Own.down H5.out.2.2.1 (Nat.zero_le _)) ⟨hap.1, hap.2.1⟩).mono ?_
  rintro e w6 ⟨rfl, _, hx6, hF6, hf6⟩
  have H6 := Lib.hid (And.intro hx6 (And.intro hF6 hf6))
  have HAP := Lib.hid hap.2.2
  clear hap hx6 hF6
  try dsimp only
  refine hK.out _ _ ?_ (fun hHeld => ?_)
  · intro _
    try dsimp only
    have hn := H2.out.nums
    have hpl := HP.out.lt
    have hxl := HGX.out
    have hsx := H3.out.1.nums
    have hszx : wB.heap.size ≤ gx := HSX.out
    exact ⟨hHeld.1.fr hf6 (fun hs => by have := HAP.out _ hs; omega), hHeld.2.fr hf6 (fun hs => by have := HAP.out _ hs; omega)⟩
  clear hK K
  try simp only [Act.put, List.setIfInBounds_toArray, List.set_cons_zero, List.set_cons_succ]
  have hHeld := hHeld (by kernel_rfl)
  refine wpAnyG_pure (i := 7) (oi := { dst := some 35, op := Op.binOp BinOp.lss 3 (Operand.tmp 32) (Operand.tmp 34) 3, type := 4, pos := _, after := #[{ on := 4, ground := Ground.data }, { on := 6, ground := Ground.data }], guard := none }) (v := ?_) rfl (by kernel_rfl) (by kernel_rfl) (by kernel_rfl) (by kernel_rfl) (fun _ _ _ h => h) (Or.inl ⟨by rfl, ?_⟩) (fun _ => by assumption) ?_
  rotate_left
  · intro w hSw
    try dsimp only at hSw
    go_simp
    try with_reducible rfl
  try simp only [Act.put, List.setIfInBounds_toArray, List.set_cons_zero, List.set_cons_succ]
  refine wpAnyG_done (by kernel_rfl) ?_ _
  refine NoPanic.normal ?_
  --END solve_no1r
  have hf7 : Fr (fun k => k = p) w w6 := (Fr.quiet (S := fun k => k = p) H5.out.2.1.below).trans H6.out.2.2 fun k hk hs => by
    have h1 := HAP.out k hs
    have h2 := H2.out.below.size
    omega
  have hn := H2.out.nums
  have hpl := HP.out.lt
  have hgr := HG.out
  have hsx := HSX.out
  have hne : ∀ k, k ≠ p → (k < wB.heap.size ∨ k = gx) → ¬ RS' XA X p k := fun k h1 h2 hs => by have := HAP.out k hs; omega
  have H7 := Lib.hid (show Blk w6 ga 27 (mcells r c A n cap) ∧ Blk w6 (ga + 1) 27 (mcells r d A' n' cap') ∧ Blk w6 (ga + 1 + 1) 27 zmx ∧ Blk w6 gx 27 (mcells r d X (r * d) cx) ∧ Fr (fun k => k = p) w w6 from
    ⟨H5.out.2.1.a.fr H6.out.2.2 (hne _ (by omega) (by omega)), H5.out.2.1.b.fr H6.out.2.2 (hne _ (by omega) (by omega)), H5.out.2.1.res.fr H6.out.2.2 (hne _ (by omega) (by omega)), H5.out.2.2.2.fr H6.out.2.2 (hne _ (by omega) (by omega)), hf7⟩)
  clear hf7 hn hpl hgr hsx hne hf6
  have hkk := HK.out
  have hres := H7.out.2.2.1
  obtain ⟨⟨d0, d1, d2⟩, f0, f1, f2⟩ := cells3 hres
  go_wp2_with fail
  have h3 := set3 hres (.int .i64 0) (.int .i64 0) (.slice none 0 0)
  obtain ⟨w30, hw30⟩ : ∃ x : World, ((w6.setCell ⟨ga + 1 + 1, 0, none⟩ (.int .i64 0)).setCell ⟨ga + 1 + 1, 1, none⟩ (.int .i64 0)).setCell ⟨ga + 1 + 1, 2, none⟩ (.slice none 0 0) = x := ⟨_, rfl⟩
  rw [hw30] at h3 ⊢
  obtain ⟨⟨e0, e1, e2⟩, _⟩ := cells3 h3.1
  refine bodyPost_ret (v := .tuple #[.agg #[.int .i64 0, .int .i64 0, .slice none 0 0], .int .i64 51]) (by simp [results, Try.results21, go_sem, e0, e1, e2]) rfl ?_
  exact ⟨rfl, H6.out.2.1.fr h3.2 (by have := HG.out; have := HP.out.lt; omega), H7.out.2.2.2.2.trans h3.2 fun k hk e => by have := HG.out; omega⟩
theorem rest_bytes {w : World} {X : Option Addr} {cap r c q : Nat} {m : M} (h : Wo w X cap r c m) (hq : q < cap) : Bytes w w.heap.size (X.map (·.add q)) ((flat r c m).drop q) := by
  have hb : Bytes w w.heap.size X (flat r c m) := Own.bytes h
  have hle : (flat r c m).length ≤ cap := by rw [flat_len]; exact h.le
  rcases Own.form h with ⟨_, e, _⟩ | ⟨g, rfl, _⟩
  · omega
  · have := hb.cut (g := g) (fun a e => by injection e with e; exact e.symm) q (cap - q)
    rw [if_neg (by omega), List.take_of_length_le (by rw [List.length_drop]; omega)] at this
    exact this
theorem head_bytes {w : World} {X : Option Addr} {cap r c : Nat} {m : M} (h : Wo w X cap r c m) (q : Nat) : Bytes w w.heap.size X ((flat r c m).take q) := Bytes.take (Own.bytes h) q
set_option maxRecDepth 100000 in
set_option maxHeartbeats 8000000 in
theorem solve_no2 (w : World) (p : Nat) (hp : Fld w p) (r c d : Nat) (A A' : Option Addr) (n cap n' cap' : Nat) (a b : M) (hrt : rightB r c n = true) (hrt2 : rightB r d n' = true) (hrd : r ≤ 100 ∧ c ≤ 100 ∧ d ≤ 100) (hA : In w p A (flat r c a)) (hB : In w p A' (flat r d b)) (hk : (redTo r a b c).at_ = c) (hz : anyNz ((flat r d (redTo r a b c).B).drop (c * d)) = true) :
    Calls Try.prog 21 #[fptr (some p), .agg #[.int .i64 (r : Int), .int .i64 (c : Int), .slice A n cap], .agg #[.int .i64 (r : Int), .int .i64 (d : Int), .slice A' n' cap']] w (ErrF w p 51) := by
  have hn : n = r * c := by obtain ⟨r', c', e1, e2, _, _, e⟩ := right_nat hrt; rw [e, Int.ofNat.inj e1, Int.ofNat.inj e2]
  have hn' : n' = r * d := by obtain ⟨r', c', e1, e2, _, _, e⟩ := right_nat hrt2; rw [e, Int.ofNat.inj e1, Int.ofNat.inj e2]
  have hl : r * c ≤ 10000 ∧ r * d ≤ 10000 ∧ c * d ≤ 10000 := ⟨Nat.mul_le_mul hrd.1 hrd.2.1, Nat.mul_le_mul hrd.1 hrd.2.2, Nat.mul_le_mul hrd.2.1 hrd.2.2⟩
  obtain ⟨w1, h1, hw1⟩ := solP_start w #[.int .i64 (r : Int), .int .i64 (c : Int), .slice A n cap] #[.int .i64 (r : Int), .int .i64 (d : Int), .slice A' n' cap']
  obtain ⟨ga, hga⟩ : ∃ x, w.heap.size = x := ⟨_, rfl⟩
  rw [hga] at h1
  have HW1 := Lib.hid (show ((w.alloc (.cells #[.int .i64 (r : Int), .int .i64 (c : Int), .slice A n cap] 27)).alloc (.cells #[.int .i64 (r : Int), .int .i64 (d : Int), .slice A' n' cap'] 27)).alloc (.cells #[.int .i64 0, .int .i64 0, .slice none 0 0] 27) = w1 from hw1)
  have H1 := Lib.hid h1
  have HG := Lib.hid hga
  have HP := Lib.hid hp
  have HRT := Lib.hid hrt
  have HRT2 := Lib.hid hrt2
  have HRD := Lib.hid hrd
  have HAA := Lib.hid hA
  have HBB := Lib.hid hB
  have HN := Lib.hid hn
  have HN2 := Lib.hid hn'
  have HL := Lib.hid hl
  have HK := Lib.hid hk
  have HZ := Lib.hid hz
  clear h1 hw1 hga hp hrt hrt2 hrd hA hB hn hn' hl hk hz
  go_enter Try.func21, Try.ntmps21
  go_wp2_with fail
  rw [HW1.out, HG.out]
  refine (right_any w1 _ _ A n cap).mono ?_
  rintro e wA ⟨rfl, hb⟩
  rw [HRT.out]
  have HA := Lib.hid hb
  have hpa := H1.out.keep hb
  obtain ⟨⟨a0, a1, a2⟩, _⟩ := cells3 hpa.a
  obtain ⟨⟨b0, b1, b2⟩, _⟩ := cells3 hpa.b
  clear hb hpa
  go_wp2_with fail
  refine (right_any wA _ _ A' n' cap').mono ?_
  rintro e wB ⟨rfl, hb⟩
  rw [HRT2.out]
  have HB := Lib.hid (next HA.out hb)
  have hpa := H1.out.keep HB.out
  clear a0 a1 a2 b0 b1 b2
  obtain ⟨⟨a0, a1, a2⟩, _⟩ := cells3 hpa.a
  obtain ⟨⟨b0, b1, b2⟩, _⟩ := cells3 hpa.b
  clear hb hpa
  have H2 := Lib.hid (H1.out.keep HB.out)
  go_wp2_with fail
  refine (own_any wB _ _ A' (flat r d b) n' cap' (by rw [flat_len]; exact HN2.out.symm) (by have := HN2.out; have := HL.out; omega) ((HBB.out.1.below H2.out.below).up H2.out.below.size)).mono ?_
  rintro e w3 ⟨X, cx, rfl, ho, hb⟩
  rw [flat_len]
  have H3 := Lib.hid (And.intro (H2.out.keep hb) (show Mem.Own w3 wB.heap.size 5 X cx ((flat r d b).map u8v) from ho))
  obtain ⟨w4, gx, h4, hw4, hgx⟩ := boxed w3 (mcells r d X (r * d) cx)
  have HW4 := Lib.hid (show w3.alloc (.cells #[.int .i64 (r : Int), .int .i64 (d : Int), .slice X (r * d) cx] 27) = w4 from hw4)
  have H4 := Lib.hid (And.intro (H3.out.1.keep h4.1) (And.intro (H3.out.2.keep h4.1) h4.2))
  have HSX := Lib.hid (show wB.heap.size ≤ gx from by rw [← hgx]; exact hb.size)
  have HGX := Lib.hid hgx
  clear ho hb h4 hw4 hgx a0 a1 a2 b0 b1 b2
  go_wp2_with fail
  rw [HW4.out, HGX.out]
  --HELD solve_no2r
  refine wp_region_noPanic ?_
  refine wp_heldG (fun w' => Blk w' ga 27 (mcells r c A n cap) ∧ Blk w' gx 27 (mcells r d X (r * d) cx)) [] (by kernel_rfl) ?hs0 ?rg0
  case hs0 =>
    exact ⟨H4.out.1.a, H4.out.2.2.1⟩
  case rg0 =>
  intro hHeld
  refine wpAnyG_pure (i := 0) (oi := { dst := some 28, op := Op.move (Operand.tmp 0), type := 24, pos := _, after := #[], guard := none }) (v := ?_) rfl (by kernel_rfl) (by kernel_rfl) (by kernel_rfl) (by kernel_rfl) (fun _ _ _ h => h) (Or.inl ⟨by rfl, ?_⟩) (fun _ => by assumption) ?_
  rotate_left
  · intro w hSw
    try dsimp only at hSw
    go_simp
    try with_reducible rfl
  try simp only [Act.put, List.setIfInBounds_toArray, List.set_cons_zero, List.set_cons_succ]
  refine wpAnyG_take (i := 1) (oi := { dst := some 29, op := Op.load 27 (Operand.tmp 4), type := 27, pos := _, after := #[], guard := none }) (v := ?_) rfl (by kernel_rfl) (by kernel_rfl) (by kernel_rfl) (by kernel_rfl) (fun _ _ _ h => h) (Or.inl ⟨by rfl, ?_⟩) (by assumption) ?_
  rotate_left
  · intro w hSw
    try dsimp only at hSw
    obtain ⟨⟨c0, c1, c2⟩, _⟩ := cells3 hSw.1
    go_simp
    try with_reducible rfl
  try simp only [Act.put, List.setIfInBounds_toArray, List.set_cons_zero, List.set_cons_succ]
  refine wpAnyG_take (i := 3) (oi := { dst := some 31, op := Op.load 27 (Operand.tmp 8), type := 27, pos := _, after := #[], guard := none }) (v := ?_) rfl (by kernel_rfl) (by kernel_rfl) (by kernel_rfl) (by kernel_rfl) (fun _ _ _ h => h) (Or.inl ⟨by rfl, ?_⟩) (by assumption) ?_
  rotate_left
  · intro w hSw
    try dsimp only at hSw
    obtain ⟨⟨c0, c1, c2⟩, _⟩ := cells3 hSw.2
    go_simp
    try with_reducible rfl
  try simp only [Act.put, List.setIfInBounds_toArray, List.set_cons_zero, List.set_cons_succ]
  refine wpAnyG_pure (i := 5) (oi := { dst := some 33, op := Op.fieldAddr 27 (Operand.tmp 4) 1, type := 0, pos := _, after := #[], guard := none }) (v := ?_) rfl (by kernel_rfl) (by kernel_rfl) (by kernel_rfl) (by kernel_rfl) (fun _ _ _ h => h) (Or.inl ⟨by rfl, ?_⟩) (fun _ => by assumption) ?_
  rotate_left
  · intro w hSw
    try dsimp only at hSw
    go_simp
    try with_reducible rfl
  try simp only [Act.put, List.setIfInBounds_toArray, List.set_cons_zero, List.set_cons_succ]
  refine wpAnyG_take (i := 6) (oi := { dst := some 34, op := Op.load 3 (Operand.tmp 33), type := 3, pos := _, after := #[{ on := 5, ground := Ground.data }], guard := none }) (v := ?_) rfl (by kernel_rfl) (by kernel_rfl) (by kernel_rfl) (by kernel_rfl) (fun _ _ _ h => h) (Or.inl ⟨by rfl, ?_⟩) (by assumption) ?_
  rotate_left
  · intro w hSw
    try dsimp only at hSw
    obtain ⟨⟨c0, c1, c2⟩, _⟩ := cells3 hSw.1
    go_simp
    try with_reducible rfl
  try simp only [Act.put, List.setIfInBounds_toArray, List.set_cons_zero, List.set_cons_succ]
  refine wpAnyG_one (i := 2) (o := { dst := some 30, op := Op.call { callee := Callee.value (Operand.func 47), args := #[Operand.tmp 29], argTypes := #[27] }, type := 27, pos := _, after := #[{ on := 1, ground := Ground.data }], guard := none }) (by kernel_rfl) rfl (fun K hK => ?_)
  go_simp
  have hb4 := next H4.out.1.below (nextN (Mem.start w4) 1)
  refine (own_any _ _ _ A (flat r c a) n cap (by rw [flat_len]; exact HN.out.symm) (by have := HN.out; have := HL.out; omega) ((HAA.out.1.below hb4).up hb4.size)).mono ?_
  rintro e w5 ⟨XA, ca, rfl, ho, hb⟩
  rw [flat_len]
  have H5 := Lib.hid (And.intro (show Mem.Own w5 w4.heap.size 5 XA ca ((flat r c a).map u8v) from ho) (And.intro (H4.out.1.keep (next (nextN (Mem.start w4) 1) hb)) (And.intro (H4.out.2.1.keep (next (nextN (Mem.start w4) 1) hb)) (H4.out.2.2.1.keep (next (nextN (Mem.start w4) 1) hb)))))
  clear ho hb4
  try dsimp only
  refine hK.out _ _ ?_ (fun hHeld => ?_)
  · intro _
    try dsimp only
    exact ⟨hHeld.1.keep hb, hHeld.2.keep hb⟩
  clear hK K
  try simp only [Act.put, List.setIfInBounds_toArray, List.set_cons_zero, List.set_cons_succ]
  have hHeld := hHeld (by kernel_rfl)
  refine wpAnyG_one (i := 4) (o := { dst := some 32, op := Op.call { callee := Callee.value (Operand.func 46), args := #[Operand.tmp 28, Operand.tmp 30, Operand.tmp 31], argTypes := #[24, 27, 27] }, type := 3, pos := _, after := #[{ on := 0, ground := Ground.data }, { on := 2, ground := Ground.data }, { on := 3, ground := Ground.data }, { on := 2, ground := Ground.chain }], guard := none }) (by kernel_rfl) rfl (fun K hK => ?_)
  clear hb
  go_simp
  have hap := solve_apart (X := X) (XA := XA) HP.out.lt (show w.heap.size ≤ wB.heap.size from H2.out.below.size) (fun k h => ⟨(own_bk H3.out.2 h).1, by have := (own_bk H3.out.2 h).2; have := HGX.out; omega⟩) (fun k h => by have := (own_bk H5.out.1 h).1; have := H4.out.2.2.2; omega) HSX.out
  refine (reduce_any w5 p (HP.out.keep H5.out.2.1.below) r c d (by have := HRD.out; omega) XA X (r * c) (r * d) ca cx rfl rfl a b (Own.down H5.out.1 (Nat.zero_le _)) (Own.down H5.out.2.2.1 (Nat.zero_le _)) ⟨hap.1, hap.2.1⟩).mono ?_
  rintro e w6 ⟨rfl, _, hx6, hF6, hf6⟩
  have H6 := Lib.hid (And.intro hx6 (And.intro hF6 hf6))
  have HAP := Lib.hid hap.2.2
  clear hap hx6 hF6
  try dsimp only
  refine hK.out _ _ ?_ (fun hHeld => ?_)
  · intro _
    try dsimp only
    have hn := H2.out.nums
    have hpl := HP.out.lt
    have hxl := HGX.out
    have hsx := H3.out.1.nums
    have hszx : wB.heap.size ≤ gx := HSX.out
    exact ⟨hHeld.1.fr hf6 (fun hs => by have := HAP.out _ hs; omega), hHeld.2.fr hf6 (fun hs => by have := HAP.out _ hs; omega)⟩
  clear hK K
  try simp only [Act.put, List.setIfInBounds_toArray, List.set_cons_zero, List.set_cons_succ]
  have hHeld := hHeld (by kernel_rfl)
  refine wpAnyG_pure (i := 7) (oi := { dst := some 35, op := Op.binOp BinOp.lss 3 (Operand.tmp 32) (Operand.tmp 34) 3, type := 4, pos := _, after := #[{ on := 4, ground := Ground.data }, { on := 6, ground := Ground.data }], guard := none }) (v := ?_) rfl (by kernel_rfl) (by kernel_rfl) (by kernel_rfl) (by kernel_rfl) (fun _ _ _ h => h) (Or.inl ⟨by rfl, ?_⟩) (fun _ => by assumption) ?_
  rotate_left
  · intro w hSw
    try dsimp only at hSw
    go_simp
    try with_reducible rfl
  try simp only [Act.put, List.setIfInBounds_toArray, List.set_cons_zero, List.set_cons_succ]
  refine wpAnyG_done (by kernel_rfl) ?_ _
  refine NoPanic.normal ?_
  --END solve_no2r
  have hf7 : Fr (fun k => k = p) w w6 := (Fr.quiet (S := fun k => k = p) H5.out.2.1.below).trans H6.out.2.2 fun k hk hs => by
    have h1 := HAP.out k hs
    have h2 := H2.out.below.size
    omega
  have hn := H2.out.nums
  have hpl := HP.out.lt
  have hgr := HG.out
  have hsx := HSX.out
  have hne : ∀ k, k ≠ p → (k < wB.heap.size ∨ k = gx) → ¬ RS' XA X p k := fun k h1 h2 hs => by have := HAP.out k hs; omega
  have H7 := Lib.hid (show Blk w6 ga 27 (mcells r c A n cap) ∧ Blk w6 (ga + 1) 27 (mcells r d A' n' cap') ∧ Blk w6 (ga + 1 + 1) 27 zmx ∧ Blk w6 gx 27 (mcells r d X (r * d) cx) ∧ Fr (fun k => k = p) w w6 from
    ⟨H5.out.2.1.a.fr H6.out.2.2 (hne _ (by omega) (by omega)), H5.out.2.1.b.fr H6.out.2.2 (hne _ (by omega) (by omega)), H5.out.2.1.res.fr H6.out.2.2 (hne _ (by omega) (by omega)), H5.out.2.2.2.fr H6.out.2.2 (hne _ (by omega) (by omega)), hf7⟩)
  clear hf7 hn hpl hgr hsx hne hf6
  obtain ⟨L, hL⟩ : ∃ L, r * d = L := ⟨_, rfl⟩
  obtain ⟨q, hq⟩ : ∃ q, c * d = q := ⟨_, rfl⟩
  have hqi : (c : Int) * (d : Int) = (q : Int) := by rw [← hq]; simp
  have hqL : q ≤ L := by
    have h1 := redTo_at (A := a) (B := b) (r := r) c
    rw [HK.out] at h1
    rw [← hq, ← hL]
    exact Nat.mul_le_mul_right d h1.1
  have hLc : L ≤ cx := by rw [← hL]; exact H6.out.1.le
  have hL9 : L ≤ 10000 := by rw [← hL]; exact HL.out.2.1
  have hh7 := H7.out
  rw [hL] at hh7 ⊢
  have H7L := Lib.hid hh7
  have H6L := Lib.hid (show Bytes w6 w6.heap.size X (flat r d (redTo r a b c).B) ∧ (flat r d (redTo r a b c).B).length = L ∧ (flat c d (redTo r a b c).B) = (flat r d (redTo r a b c).B).take q from
    ⟨Own.bytes H6.out.1, by rw [flat_len, hL], by rw [← hq]; exact flat_take (by have h1 := redTo_at (A := a) (B := b) (r := r) c; rw [HK.out] at h1; exact h1.1)⟩)
  have hq0 : (0 : Int) ≤ (q : Int) := by omega
  have hqLi : (q : Int) ≤ (L : Int) := by omega
  have hLci : (L : Int) ≤ (cx : Int) := by omega
  have hqc : (q : Int) ≤ (cx : Int) := by omega
  have hq9 : (q : Int) ≤ 10000 := by omega
  have hw1 : wrap64 (q : Int) = (q : Int) := by unfold wrap64; omega
  have HQ := Lib.hid (And.intro hq (And.intro hqL (And.intro hLc hL9)))
  have hkk : ¬ (redTo r a b c).at_ < c := by rw [HK.out]; exact Nat.lt_irrefl _
  obtain ⟨⟨a0, a1, a2⟩, _⟩ := cells3 H7L.out.1
  obtain ⟨⟨b0, b1, b2⟩, _⟩ := cells3 H7L.out.2.1
  obtain ⟨⟨x0, x1, x2⟩, _⟩ := cells3 H7L.out.2.2.2.1
  clear hL hq hqL hLc hL9 hh7 H7
  have hcx : q < cx := by
    rcases Nat.lt_or_ge q cx with h | h
    · exact h
    · have h1 := HZ.out
      rw [HQ.out.1, List.drop_of_length_le (by rw [H6L.out.2.1]; have := HQ.out; omega)] at h1
      cases h1
  have HCX := Lib.hid hcx
  have hcn : ¬ cx = q := by omega
  clear hcx
  go_wp2_with fail
  refine (contains_any w6 _ ((flat r d (redTo r a b c).B).drop q) (L - q) (cx - q) (by rw [List.length_drop, H6L.out.2.1]) (by have := HQ.out; omega) (rest_bytes H6.out.1 HCX.out)).mono ?_
  rintro e w' ⟨rfl, rfl⟩
  rw [show anyNz ((flat r d (redTo r a b c).B).drop q) = true from by rw [← HQ.out.1]; exact HZ.out]
  have hres := H7L.out.2.2.1
  obtain ⟨⟨d0, d1, d2⟩, f0, f1, f2⟩ := cells3 hres
  go_wp2_with fail
  have h3 := set3 hres (.int .i64 0) (.int .i64 0) (.slice none 0 0)
  obtain ⟨w30, hw30⟩ : ∃ x : World, ((w6.setCell ⟨ga + 1 + 1, 0, none⟩ (.int .i64 0)).setCell ⟨ga + 1 + 1, 1, none⟩ (.int .i64 0)).setCell ⟨ga + 1 + 1, 2, none⟩ (.slice none 0 0) = x := ⟨_, rfl⟩
  rw [hw30] at h3 ⊢
  obtain ⟨⟨e0, e1, e2⟩, _⟩ := cells3 h3.1
  refine bodyPost_ret (v := .tuple #[.agg #[.int .i64 0, .int .i64 0, .slice none 0 0], .int .i64 51]) (by simp [results, Try.results21, go_sem, e0, e1, e2]) rfl ?_
  exact ⟨rfl, H6.out.2.1.fr h3.2 (by have := HG.out; have := HP.out.lt; omega), H7L.out.2.2.2.2.trans h3.2 fun k hk e => by have := HG.out; omega⟩
set_option maxRecDepth 100000 in
set_option maxHeartbeats 8000000 in
theorem solve_yes (w : World) (p : Nat) (hp : Fld w p) (r c d : Nat) (A A' : Option Addr) (n cap n' cap' : Nat) (a b : M) (hrt : rightB r c n = true) (hrt2 : rightB r d n' = true) (hrd : r ≤ 100 ∧ c ≤ 100 ∧ d ≤ 100) (hA : In w p A (flat r c a)) (hB : In w p A' (flat r d b)) (hk : (redTo r a b c).at_ = c) (hz : anyNz ((flat r d (redTo r a b c).B).drop (c * d)) = false) :
    Calls Try.prog 21 #[fptr (some p), .agg #[.int .i64 (r : Int), .int .i64 (c : Int), .slice A n cap], .agg #[.int .i64 (r : Int), .int .i64 (d : Int), .slice A' n' cap']] w (NewF w p c d (redTo r a b c).B) := by
  have hn : n = r * c := by obtain ⟨r', c', e1, e2, _, _, e⟩ := right_nat hrt; rw [e, Int.ofNat.inj e1, Int.ofNat.inj e2]
  have hn' : n' = r * d := by obtain ⟨r', c', e1, e2, _, _, e⟩ := right_nat hrt2; rw [e, Int.ofNat.inj e1, Int.ofNat.inj e2]
  have hl : r * c ≤ 10000 ∧ r * d ≤ 10000 ∧ c * d ≤ 10000 := ⟨Nat.mul_le_mul hrd.1 hrd.2.1, Nat.mul_le_mul hrd.1 hrd.2.2, Nat.mul_le_mul hrd.2.1 hrd.2.2⟩
  obtain ⟨w1, h1, hw1⟩ := solP_start w #[.int .i64 (r : Int), .int .i64 (c : Int), .slice A n cap] #[.int .i64 (r : Int), .int .i64 (d : Int), .slice A' n' cap']
  obtain ⟨ga, hga⟩ : ∃ x, w.heap.size = x := ⟨_, rfl⟩
  rw [hga] at h1
  have HW1 := Lib.hid (show ((w.alloc (.cells #[.int .i64 (r : Int), .int .i64 (c : Int), .slice A n cap] 27)).alloc (.cells #[.int .i64 (r : Int), .int .i64 (d : Int), .slice A' n' cap'] 27)).alloc (.cells #[.int .i64 0, .int .i64 0, .slice none 0 0] 27) = w1 from hw1)
  have H1 := Lib.hid h1
  have HG := Lib.hid hga
  have HP := Lib.hid hp
  have HRT := Lib.hid hrt
  have HRT2 := Lib.hid hrt2
  have HRD := Lib.hid hrd
  have HAA := Lib.hid hA
  have HBB := Lib.hid hB
  have HN := Lib.hid hn
  have HN2 := Lib.hid hn'
  have HL := Lib.hid hl
  have HK := Lib.hid hk
  have HZ := Lib.hid hz
  clear h1 hw1 hga hp hrt hrt2 hrd hA hB hn hn' hl hk hz
  go_enter Try.func21, Try.ntmps21
  go_wp2_with fail
  rw [HW1.out, HG.out]
  refine (right_any w1 _ _ A n cap).mono ?_
  rintro e wA ⟨rfl, hb⟩
  rw [HRT.out]
  have HA := Lib.hid hb
  have hpa := H1.out.keep hb
  obtain ⟨⟨a0, a1, a2⟩, _⟩ := cells3 hpa.a
  obtain ⟨⟨b0, b1, b2⟩, _⟩ := cells3 hpa.b
  clear hb hpa
  go_wp2_with fail
  refine (right_any wA _ _ A' n' cap').mono ?_
  rintro e wB ⟨rfl, hb⟩
  rw [HRT2.out]
  have HB := Lib.hid (next HA.out hb)
  have hpa := H1.out.keep HB.out
  clear a0 a1 a2 b0 b1 b2
  obtain ⟨⟨a0, a1, a2⟩, _⟩ := cells3 hpa.a
  obtain ⟨⟨b0, b1, b2⟩, _⟩ := cells3 hpa.b
  clear hb hpa
  have H2 := Lib.hid (H1.out.keep HB.out)
  go_wp2_with fail
  refine (own_any wB _ _ A' (flat r d b) n' cap' (by rw [flat_len]; exact HN2.out.symm) (by have := HN2.out; have := HL.out; omega) ((HBB.out.1.below H2.out.below).up H2.out.below.size)).mono ?_
  rintro e w3 ⟨X, cx, rfl, ho, hb⟩
  rw [flat_len]
  have H3 := Lib.hid (And.intro (H2.out.keep hb) (show Mem.Own w3 wB.heap.size 5 X cx ((flat r d b).map u8v) from ho))
  obtain ⟨w4, gx, h4, hw4, hgx⟩ := boxed w3 (mcells r d X (r * d) cx)
  have HW4 := Lib.hid (show w3.alloc (.cells #[.int .i64 (r : Int), .int .i64 (d : Int), .slice X (r * d) cx] 27) = w4 from hw4)
  have H4 := Lib.hid (And.intro (H3.out.1.keep h4.1) (And.intro (H3.out.2.keep h4.1) h4.2))
  have HSX := Lib.hid (show wB.heap.size ≤ gx from by rw [← hgx]; exact hb.size)
  have HGX := Lib.hid hgx
  clear ho hb h4 hw4 hgx a0 a1 a2 b0 b1 b2
  go_wp2_with fail
  rw [HW4.out, HGX.out]
  --HELD solve_yesr
  refine wp_region_noPanic ?_
  refine wp_heldG (fun w' => Blk w' ga 27 (mcells r c A n cap) ∧ Blk w' gx 27 (mcells r d X (r * d) cx)) [] (by kernel_rfl) ?hs0 ?rg0
  case hs0 =>
    exact ⟨H4.out.1.a, H4.out.2.2.1⟩
  case rg0 =>
  intro hHeld
  refine wpAnyG_pure (i := 0) (oi := { dst := some 28, op := Op.move (Operand.tmp 0), type := 24, pos := _, after := #[], guard := none }) (v := ?_) rfl (by kernel_rfl) (by kernel_rfl) (by kernel_rfl) (by kernel_rfl) (fun _ _ _ h => h) (Or.inl ⟨by rfl, ?_⟩) (fun _ => by assumption) ?_
  rotate_left
  · intro w hSw
    try dsimp only at hSw
    go_simp
    try with_reducible rfl
  try simp only [Act.put, List.setIfInBounds_toArray, List.set_cons_zero, List.set_cons_succ]
  refine wpAnyG_take (i := 1) (oi := { dst := some 29, op := Op.load 27 (Operand.tmp 4), type := 27, pos := _, after := #[], guard := none }) (v := ?_) rfl (by kernel_rfl) (by kernel_rfl) (by kernel_rfl) (by kernel_rfl) (fun _ _ _ h => h) (Or.inl ⟨by rfl, ?_⟩) (by assumption) ?_
  rotate_left
  · intro w hSw
    try dsimp only at hSw
    obtain ⟨⟨c0, c1, c2⟩, _⟩ := cells3 hSw.1
    go_simp
    try with_reducible rfl
  try simp only [Act.put, List.setIfInBounds_toArray, List.set_cons_zero, List.set_cons_succ]
  refine wpAnyG_take (i := 3) (oi := { dst := some 31, op := Op.load 27 (Operand.tmp 8), type := 27, pos := _, after := #[], guard := none }) (v := ?_) rfl (by kernel_rfl) (by kernel_rfl) (by kernel_rfl) (by kernel_rfl) (fun _ _ _ h => h) (Or.inl ⟨by rfl, ?_⟩) (by assumption) ?_
  rotate_left
  · intro w hSw
    try dsimp only at hSw
    obtain ⟨⟨c0, c1, c2⟩, _⟩ := cells3 hSw.2
    go_simp
    try with_reducible rfl
  try simp only [Act.put, List.setIfInBounds_toArray, List.set_cons_zero, List.set_cons_succ]
  refine wpAnyG_pure (i := 5) (oi := { dst := some 33, op := Op.fieldAddr 27 (Operand.tmp 4) 1, type := 0, pos := _, after := #[], guard := none }) (v := ?_) rfl (by kernel_rfl) (by kernel_rfl) (by kernel_rfl) (by kernel_rfl) (fun _ _ _ h => h) (Or.inl ⟨by rfl, ?_⟩) (fun _ => by assumption) ?_
  rotate_left
  · intro w hSw
    try dsimp only at hSw
    go_simp
    try with_reducible rfl
  try simp only [Act.put, List.setIfInBounds_toArray, List.set_cons_zero, List.set_cons_succ]
  refine wpAnyG_take (i := 6) (oi := { dst := some 34, op := Op.load 3 (Operand.tmp 33), type := 3, pos := _, after := #[{ on := 5, ground := Ground.data }], guard := none }) (v := ?_) rfl (by kernel_rfl) (by kernel_rfl) (by kernel_rfl) (by kernel_rfl) (fun _ _ _ h => h) (Or.inl ⟨by rfl, ?_⟩) (by assumption) ?_
  rotate_left
  · intro w hSw
    try dsimp only at hSw
    obtain ⟨⟨c0, c1, c2⟩, _⟩ := cells3 hSw.1
    go_simp
    try with_reducible rfl
  try simp only [Act.put, List.setIfInBounds_toArray, List.set_cons_zero, List.set_cons_succ]
  refine wpAnyG_one (i := 2) (o := { dst := some 30, op := Op.call { callee := Callee.value (Operand.func 47), args := #[Operand.tmp 29], argTypes := #[27] }, type := 27, pos := _, after := #[{ on := 1, ground := Ground.data }], guard := none }) (by kernel_rfl) rfl (fun K hK => ?_)
  go_simp
  have hb4 := next H4.out.1.below (nextN (Mem.start w4) 1)
  refine (own_any _ _ _ A (flat r c a) n cap (by rw [flat_len]; exact HN.out.symm) (by have := HN.out; have := HL.out; omega) ((HAA.out.1.below hb4).up hb4.size)).mono ?_
  rintro e w5 ⟨XA, ca, rfl, ho, hb⟩
  rw [flat_len]
  have H5 := Lib.hid (And.intro (show Mem.Own w5 w4.heap.size 5 XA ca ((flat r c a).map u8v) from ho) (And.intro (H4.out.1.keep (next (nextN (Mem.start w4) 1) hb)) (And.intro (H4.out.2.1.keep (next (nextN (Mem.start w4) 1) hb)) (H4.out.2.2.1.keep (next (nextN (Mem.start w4) 1) hb)))))
  clear ho hb4
  try dsimp only
  refine hK.out _ _ ?_ (fun hHeld => ?_)
  · intro _
    try dsimp only
    exact ⟨hHeld.1.keep hb, hHeld.2.keep hb⟩
  clear hK K
  try simp only [Act.put, List.setIfInBounds_toArray, List.set_cons_zero, List.set_cons_succ]
  have hHeld := hHeld (by kernel_rfl)
  refine wpAnyG_one (i := 4) (o := { dst := some 32, op := Op.call { callee := Callee.value (Operand.func 46), args := #[Operand.tmp 28, Operand.tmp 30, Operand.tmp 31], argTypes := #[24, 27, 27] }, type := 3, pos := _, after := #[{ on := 0, ground := Ground.data }, { on := 2, ground := Ground.data }, { on := 3, ground := Ground.data }, { on := 2, ground := Ground.chain }], guard := none }) (by kernel_rfl) rfl (fun K hK => ?_)
  clear hb
  go_simp
  have hap := solve_apart (X := X) (XA := XA) HP.out.lt (show w.heap.size ≤ wB.heap.size from H2.out.below.size) (fun k h => ⟨(own_bk H3.out.2 h).1, by have := (own_bk H3.out.2 h).2; have := HGX.out; omega⟩) (fun k h => by have := (own_bk H5.out.1 h).1; have := H4.out.2.2.2; omega) HSX.out
  refine (reduce_any w5 p (HP.out.keep H5.out.2.1.below) r c d (by have := HRD.out; omega) XA X (r * c) (r * d) ca cx rfl rfl a b (Own.down H5.out.1 (Nat.zero_le _)) (Own.down H5.out.2.2.1 (Nat.zero_le _)) ⟨hap.1, hap.2.1⟩).mono ?_
  rintro e w6 ⟨rfl, _, hx6, hF6, hf6⟩
  have H6 := Lib.hid (And.intro hx6 (And.intro hF6 hf6))
  have HAP := Lib.hid hap.2.2
  clear hap hx6 hF6
  try dsimp only
  refine hK.out _ _ ?_ (fun hHeld => ?_)
  · intro _
    try dsimp only
    have hn := H2.out.nums
    have hpl := HP.out.lt
    have hxl := HGX.out
    have hsx := H3.out.1.nums
    have hszx : wB.heap.size ≤ gx := HSX.out
    exact ⟨hHeld.1.fr hf6 (fun hs => by have := HAP.out _ hs; omega), hHeld.2.fr hf6 (fun hs => by have := HAP.out _ hs; omega)⟩
  clear hK K
  try simp only [Act.put, List.setIfInBounds_toArray, List.set_cons_zero, List.set_cons_succ]
  have hHeld := hHeld (by kernel_rfl)
  refine wpAnyG_pure (i := 7) (oi := { dst := some 35, op := Op.binOp BinOp.lss 3 (Operand.tmp 32) (Operand.tmp 34) 3, type := 4, pos := _, after := #[{ on := 4, ground := Ground.data }, { on := 6, ground := Ground.data }], guard := none }) (v := ?_) rfl (by kernel_rfl) (by kernel_rfl) (by kernel_rfl) (by kernel_rfl) (fun _ _ _ h => h) (Or.inl ⟨by rfl, ?_⟩) (fun _ => by assumption) ?_
  rotate_left
  · intro w hSw
    try dsimp only at hSw
    go_simp
    try with_reducible rfl
  try simp only [Act.put, List.setIfInBounds_toArray, List.set_cons_zero, List.set_cons_succ]
  refine wpAnyG_done (by kernel_rfl) ?_ _
  refine NoPanic.normal ?_
  --END solve_yesr
  have hf7 : Fr (fun k => k = p) w w6 := (Fr.quiet (S := fun k => k = p) H5.out.2.1.below).trans H6.out.2.2 fun k hk hs => by
    have h1 := HAP.out k hs
    have h2 := H2.out.below.size
    omega
  have hn := H2.out.nums
  have hpl := HP.out.lt
  have hgr := HG.out
  have hsx := HSX.out
  have hne : ∀ k, k ≠ p → (k < wB.heap.size ∨ k = gx) → ¬ RS' XA X p k := fun k h1 h2 hs => by have := HAP.out k hs; omega
  have H7 := Lib.hid (show Blk w6 ga 27 (mcells r c A n cap) ∧ Blk w6 (ga + 1) 27 (mcells r d A' n' cap') ∧ Blk w6 (ga + 1 + 1) 27 zmx ∧ Blk w6 gx 27 (mcells r d X (r * d) cx) ∧ Fr (fun k => k = p) w w6 from
    ⟨H5.out.2.1.a.fr H6.out.2.2 (hne _ (by omega) (by omega)), H5.out.2.1.b.fr H6.out.2.2 (hne _ (by omega) (by omega)), H5.out.2.1.res.fr H6.out.2.2 (hne _ (by omega) (by omega)), H5.out.2.2.2.fr H6.out.2.2 (hne _ (by omega) (by omega)), hf7⟩)
  clear hf7 hn hpl hgr hsx hne hf6
  obtain ⟨L, hL⟩ : ∃ L, r * d = L := ⟨_, rfl⟩
  obtain ⟨q, hq⟩ : ∃ q, c * d = q := ⟨_, rfl⟩
  have hqi : (c : Int) * (d : Int) = (q : Int) := by rw [← hq]; simp
  have hqL : q ≤ L := by
    have h1 := redTo_at (A := a) (B := b) (r := r) c
    rw [HK.out] at h1
    rw [← hq, ← hL]
    exact Nat.mul_le_mul_right d h1.1
  have hLc : L ≤ cx := by rw [← hL]; exact H6.out.1.le
  have hL9 : L ≤ 10000 := by rw [← hL]; exact HL.out.2.1
  have hh7 := H7.out
  rw [hL] at hh7 ⊢
  have H7L := Lib.hid hh7
  have H6L := Lib.hid (show Bytes w6 w6.heap.size X (flat r d (redTo r a b c).B) ∧ (flat r d (redTo r a b c).B).length = L ∧ (flat c d (redTo r a b c).B) = (flat r d (redTo r a b c).B).take q from
    ⟨Own.bytes H6.out.1, by rw [flat_len, hL], by rw [← hq]; exact flat_take (by have h1 := redTo_at (A := a) (B := b) (r := r) c; rw [HK.out] at h1; exact h1.1)⟩)
  have hq0 : (0 : Int) ≤ (q : Int) := by omega
  have hqLi : (q : Int) ≤ (L : Int) := by omega
  have hLci : (L : Int) ≤ (cx : Int) := by omega
  have hqc : (q : Int) ≤ (cx : Int) := by omega
  have hq9 : (q : Int) ≤ 10000 := by omega
  have hw1 : wrap64 (q : Int) = (q : Int) := by unfold wrap64; omega
  have HQ := Lib.hid (And.intro hq (And.intro hqL (And.intro hLc hL9)))
  have hkk : ¬ (redTo r a b c).at_ < c := by rw [HK.out]; exact Nat.lt_irrefl _
  obtain ⟨⟨a0, a1, a2⟩, _⟩ := cells3 H7L.out.1
  obtain ⟨⟨b0, b1, b2⟩, _⟩ := cells3 H7L.out.2.1
  obtain ⟨⟨x0, x1, x2⟩, _⟩ := cells3 H7L.out.2.2.2.1
  clear hL hq hqL hLc hL9 hh7 H7
  by_cases hcx : q < cx
  · have HCX := Lib.hid hcx
    have hcn : ¬ cx = q := by omega
    clear hcx
    go_wp2_with fail
    refine (contains_any w6 _ ((flat r d (redTo r a b c).B).drop q) (L - q) (cx - q) (by rw [List.length_drop, H6L.out.2.1]) (by have := HQ.out; omega) (rest_bytes H6.out.1 HCX.out)).mono ?_
    rintro e w' ⟨rfl, rfl⟩
    rw [show anyNz ((flat r d (redTo r a b c).B).drop q) = false from by rw [← HQ.out.1]; exact HZ.out]
    go_wp2_with fail
    --HELD solve_yes19
    refine wp_region_noPanic ?_
    refine wp_heldG (fun w' => Blk w' ga 27 (mcells r c A n cap) ∧ Blk w' (ga + 1) 27 (mcells r d A' n' cap') ∧ Blk w' gx 27 (mcells r d X L cx)) [10] (by kernel_rfl) ?hs0 ?rg0
    case hs0 =>
      exact ⟨H7L.out.1, H7L.out.2.1, H7L.out.2.2.2.1⟩
    case rg0 =>
    intro hHeld
    refine wpAnyG_pure (i := 0) (oi := { dst := some 48, op := Op.fieldAddr 27 (Operand.tmp 4) 1, type := 0, pos := _, after := #[], guard := none }) (v := ?_) rfl (by kernel_rfl) (by kernel_rfl) (by kernel_rfl) (by kernel_rfl) (fun _ _ _ h => h) (Or.inl ⟨by rfl, ?_⟩) (fun _ => by assumption) ?_
    rotate_left
    · intro w hSw
      try dsimp only at hSw
      go_simp
      try with_reducible rfl
    try simp only [Act.put, List.setIfInBounds_toArray, List.set_cons_zero, List.set_cons_succ]
    refine wpAnyG_take (i := 1) (oi := { dst := some 49, op := Op.load 3 (Operand.tmp 48), type := 3, pos := _, after := #[{ on := 0, ground := Ground.data }], guard := none }) (v := ?_) rfl (by kernel_rfl) (by kernel_rfl) (by kernel_rfl) (by kernel_rfl) (fun _ _ _ h => h) (Or.inl ⟨by rfl, ?_⟩) (by assumption) ?_
    rotate_left
    · intro w hSw
      try dsimp only at hSw
      obtain ⟨⟨c0, c1, c2⟩, _⟩ := cells3 hSw.1
      go_simp
      try with_reducible rfl
    try simp only [Act.put, List.setIfInBounds_toArray, List.set_cons_zero, List.set_cons_succ]
    refine wpAnyG_pure (i := 2) (oi := { dst := some 50, op := Op.fieldAddr 27 (Operand.tmp 5) 1, type := 0, pos := _, after := #[], guard := none }) (v := ?_) rfl (by kernel_rfl) (by kernel_rfl) (by kernel_rfl) (by kernel_rfl) (fun _ _ _ h => h) (Or.inl ⟨by rfl, ?_⟩) (fun _ => by assumption) ?_
    rotate_left
    · intro w hSw
      try dsimp only at hSw
      go_simp
      try with_reducible rfl
    try simp only [Act.put, List.setIfInBounds_toArray, List.set_cons_zero, List.set_cons_succ]
    refine wpAnyG_take (i := 3) (oi := { dst := some 51, op := Op.load 3 (Operand.tmp 50), type := 3, pos := _, after := #[{ on := 2, ground := Ground.data }], guard := none }) (v := ?_) rfl (by kernel_rfl) (by kernel_rfl) (by kernel_rfl) (by kernel_rfl) (fun _ _ _ h => h) (Or.inl ⟨by rfl, ?_⟩) (by assumption) ?_
    rotate_left
    · intro w hSw
      try dsimp only at hSw
      obtain ⟨⟨c0, c1, c2⟩, _⟩ := cells3 hSw.2.1
      go_simp
      try with_reducible rfl
    try simp only [Act.put, List.setIfInBounds_toArray, List.set_cons_zero, List.set_cons_succ]
    refine wpAnyG_pure (i := 4) (oi := { dst := some 52, op := Op.fieldAddr 27 (Operand.tmp 8) 2, type := 0, pos := _, after := #[], guard := none }) (v := ?_) rfl (by kernel_rfl) (by kernel_rfl) (by kernel_rfl) (by kernel_rfl) (fun _ _ _ h => h) (Or.inl ⟨by rfl, ?_⟩) (fun _ => by assumption) ?_
    rotate_left
    · intro w hSw
      try dsimp only at hSw
      go_simp
      try with_reducible rfl
    try simp only [Act.put, List.setIfInBounds_toArray, List.set_cons_zero, List.set_cons_succ]
    refine wpAnyG_take (i := 5) (oi := { dst := some 53, op := Op.load 22 (Operand.tmp 52), type := 22, pos := _, after := #[{ on := 4, ground := Ground.data }], guard := none }) (v := ?_) rfl (by kernel_rfl) (by kernel_rfl) (by kernel_rfl) (by kernel_rfl) (fun _ _ _ h => h) (Or.inl ⟨by rfl, ?_⟩) (by assumption) ?_
    rotate_left
    · intro w hSw
      try dsimp only at hSw
      obtain ⟨⟨c0, c1, c2⟩, _⟩ := cells3 hSw.2.2
      go_simp
      try with_reducible rfl
    try simp only [Act.put, List.setIfInBounds_toArray, List.set_cons_zero, List.set_cons_succ]
    refine wpAnyG_pure (i := 6) (oi := { dst := some 54, op := Op.move (Operand.tmp 9), type := 3, pos := _, after := #[], guard := none }) (v := ?_) rfl (by kernel_rfl) (by kernel_rfl) (by kernel_rfl) (by kernel_rfl) (fun _ _ _ h => h) (Or.inl ⟨by rfl, ?_⟩) (fun _ => by assumption) ?_
    rotate_left
    · intro w hSw
      try dsimp only at hSw
      go_simp
      try with_reducible rfl
    try simp only [Act.put, List.setIfInBounds_toArray, List.set_cons_zero, List.set_cons_succ]
    refine wpAnyG_pure (i := 7) (oi := { dst := some 55, op := Op.move (Operand.tmp 9), type := 3, pos := _, after := #[], guard := none }) (v := ?_) rfl (by kernel_rfl) (by kernel_rfl) (by kernel_rfl) (by kernel_rfl) (fun _ _ _ h => h) (Or.inl ⟨by rfl, ?_⟩) (fun _ => by assumption) ?_
    rotate_left
    · intro w hSw
      try dsimp only at hSw
      go_simp
      try with_reducible rfl
    try simp only [Act.put, List.setIfInBounds_toArray, List.set_cons_zero, List.set_cons_succ]
    refine wpAnyG_pure (i := 8) (oi := { dst := some 56, op := Op.slice 22 (Operand.tmp 53) none (some (Operand.tmp 54)) (some (Operand.tmp 55)), type := 22, pos := _, after := #[{ on := 5, ground := Ground.data }, { on := 6, ground := Ground.data }, { on := 7, ground := Ground.data }], guard := none }) (v := ?_) rfl (by kernel_rfl) (by kernel_rfl) (by kernel_rfl) (by kernel_rfl) (fun _ _ _ h => h) (Or.inl ⟨by rfl, ?_⟩) (fun _ => by assumption) ?_
    rotate_left
    · intro w hSw
      try dsimp only at hSw
      go_simp
      try with_reducible rfl
    try simp only [Act.put, List.setIfInBounds_toArray, List.set_cons_zero, List.set_cons_succ]
    refine wpAnyG_pure (i := 9) (oi := { dst := some 57, op := Op.build 27 #[(0, Operand.tmp 49), (1, Operand.tmp 51), (2, Operand.tmp 56)], type := 27, pos := _, after := #[{ on := 1, ground := Ground.data }, { on := 3, ground := Ground.data }, { on := 8, ground := Ground.data }], guard := none }) (v := ?_) rfl (by kernel_rfl) (by kernel_rfl) (by kernel_rfl) (by kernel_rfl) (fun _ _ _ h => h) (Or.inl ⟨by rfl, ?_⟩) (fun _ => by assumption) ?_
    rotate_left
    · intro w hSw
      try dsimp only at hSw
      go_simp
      try with_reducible rfl
    try simp only [Act.put, List.setIfInBounds_toArray, List.set_cons_zero, List.set_cons_succ]
    refine wpAnyG_one (i := 10) (o := { dst := none, op := Op.store 27 (Operand.tmp 6) (Operand.tmp 57), type := 0, pos := _, after := #[{ on := 9, ground := Ground.data }, { on := 0, ground := Ground.phase }, { on := 1, ground := Ground.phase }, { on := 2, ground := Ground.phase }, { on := 3, ground := Ground.phase }, { on := 4, ground := Ground.phase }, { on := 5, ground := Ground.phase }, { on := 6, ground := Ground.phase }, { on := 7, ground := Ground.phase }, { on := 8, ground := Ground.phase }, { on := 9, ground := Ground.phase }], guard := none }) (by kernel_rfl) rfl (fun K hK => ?_)
    obtain ⟨⟨d0, d1, d2⟩, f0, f1, f2⟩ := cells3 H7L.out.2.2.1
    go_simp
    try dsimp only
    refine hK.out _ _ ?_ (fun hHeld => ?_)
    · exact fun h => (st_no (by kernel_rfl) h).elim
    clear hK K
    try simp only [Act.put, List.setIfInBounds_toArray, List.set_cons_zero, List.set_cons_succ]
    clear hHeld
    refine wpAnyG_pure (i := 11) (oi := { dst := some 7, op := Op.assign (Operand.const (Value.int IntKind.i64 0)), type := 29, pos := _, after := #[{ on := 10, ground := Ground.chain }, { on := 0, ground := Ground.phase }, { on := 1, ground := Ground.phase }, { on := 2, ground := Ground.phase }, { on := 3, ground := Ground.phase }, { on := 4, ground := Ground.phase }, { on := 5, ground := Ground.phase }, { on := 6, ground := Ground.phase }, { on := 7, ground := Ground.phase }, { on := 8, ground := Ground.phase }, { on := 9, ground := Ground.phase }, { on := 10, ground := Ground.phase }], guard := none }) (v := ?_) rfl (by kernel_rfl) (by kernel_rfl) (by kernel_rfl) (by kernel_rfl) (fun _ _ _ h => h) (Or.inl ⟨by rfl, ?_⟩) (fun h => (st_no (by kernel_rfl) h).elim) ?_
    rotate_left
    · intro w hSw
      try dsimp only at hSw
      go_simp
      try with_reducible rfl
    try simp only [Act.put, List.setIfInBounds_toArray, List.set_cons_zero, List.set_cons_succ]
    refine wpAnyG_done (by kernel_rfl) ?_ _
    refine NoPanic.normal ?_
    --END solve_yes19
    have h3 := set3 H7L.out.2.2.1 (.int .i64 (c : Int)) (.int .i64 (d : Int)) (.slice X q q)
    obtain ⟨w29, hw29⟩ : ∃ x : World, ((w6.setCell ⟨ga + 1 + 1, 0, none⟩ (.int .i64 (c : Int))).setCell ⟨ga + 1 + 1, 1, none⟩ (.int .i64 (d : Int))).setCell ⟨ga + 1 + 1, 2, none⟩ (.slice X q q) = x := ⟨_, rfl⟩
    rw [hw29] at h3 ⊢
    obtain ⟨⟨e0, e1, e2⟩, _⟩ := cells3 h3.1
    have H3R := Lib.hid h3
    clear h3 hw29
    go_wp2_with fail
    refine bodyPost_ret (v := .tuple #[.agg #[.int .i64 (c : Int), .int .i64 (d : Int), .slice X q q], .int .i64 0]) (by simp [results, Try.results21, go_sem, e0, e1, e2]) rfl ?_
    have hxo := fun k (h : Bk X k) => (own_bk H3.out.2 h).1
    have hn := H2.out.nums
    have hsz := H2.out.below.size
    have hbd := nextN (Mem.start w29) 1
    have hwo := (H6.out.1.fr H3R.out.2 (fun g e1 e2 => by have := hxo g e1; omega)).keep hbd
    refine ⟨X, q, by rw [HQ.out.1], by rw [HQ.out.1]; exact Nat.le_refl _, ⟨?_, fun b o e hl => ?_⟩, (H6.out.2.1.fr H3R.out.2 (by have := HG.out; have := HP.out.lt; omega)).keep hbd, (H7L.out.2.2.2.2.trans H3R.out.2 fun k hk e => by have := HG.out; omega).trans (Fr.quiet (S := fun _ => False) hbd) fun _ _ h => h.elim⟩
    · rw [H6L.out.2.2]; exact head_bytes hwo q
    · rcases Own.form H3.out.2 with ⟨e3, _⟩ | ⟨g', e3, hb, _⟩
      · rw [e] at e3; cases e3
      · rw [e] at e3; injection e3 with e3; have := congrArg Addr.block e3; dsimp only at this; omega
  · replace hcx : q = cx := by omega
    subst hcx
    have hLq : L = q := by have := HQ.out; omega
    subst hLq
    clear hqLi hLci hqc hw1
    go_wp2_with fail
    refine (contains_any w6 _ [] 0 0 rfl (by decide) Bytes.nil).mono ?_
    rintro e w' ⟨rfl, rfl⟩
    rw [show anyNz [] = false from rfl]
    go_wp2_with fail
    --HELD solve_yes09
    refine wp_region_noPanic ?_
    refine wp_heldG (fun w' => Blk w' ga 27 (mcells r c A n cap) ∧ Blk w' (ga + 1) 27 (mcells r d A' n' cap') ∧ Blk w' gx 27 (mcells r d X L L)) [10] (by kernel_rfl) ?hs0 ?rg0
    case hs0 =>
      exact ⟨H7L.out.1, H7L.out.2.1, H7L.out.2.2.2.1⟩
    case rg0 =>
    intro hHeld
    refine wpAnyG_pure (i := 0) (oi := { dst := some 48, op := Op.fieldAddr 27 (Operand.tmp 4) 1, type := 0, pos := _, after := #[], guard := none }) (v := ?_) rfl (by kernel_rfl) (by kernel_rfl) (by kernel_rfl) (by kernel_rfl) (fun _ _ _ h => h) (Or.inl ⟨by rfl, ?_⟩) (fun _ => by assumption) ?_
    rotate_left
    · intro w hSw
      try dsimp only at hSw
      go_simp
      try with_reducible rfl
    try simp only [Act.put, List.setIfInBounds_toArray, List.set_cons_zero, List.set_cons_succ]
    refine wpAnyG_take (i := 1) (oi := { dst := some 49, op := Op.load 3 (Operand.tmp 48), type := 3, pos := _, after := #[{ on := 0, ground := Ground.data }], guard := none }) (v := ?_) rfl (by kernel_rfl) (by kernel_rfl) (by kernel_rfl) (by kernel_rfl) (fun _ _ _ h => h) (Or.inl ⟨by rfl, ?_⟩) (by assumption) ?_
    rotate_left
    · intro w hSw
      try dsimp only at hSw
      obtain ⟨⟨c0, c1, c2⟩, _⟩ := cells3 hSw.1
      go_simp
      try with_reducible rfl
    try simp only [Act.put, List.setIfInBounds_toArray, List.set_cons_zero, List.set_cons_succ]
    refine wpAnyG_pure (i := 2) (oi := { dst := some 50, op := Op.fieldAddr 27 (Operand.tmp 5) 1, type := 0, pos := _, after := #[], guard := none }) (v := ?_) rfl (by kernel_rfl) (by kernel_rfl) (by kernel_rfl) (by kernel_rfl) (fun _ _ _ h => h) (Or.inl ⟨by rfl, ?_⟩) (fun _ => by assumption) ?_
    rotate_left
    · intro w hSw
      try dsimp only at hSw
      go_simp
      try with_reducible rfl
    try simp only [Act.put, List.setIfInBounds_toArray, List.set_cons_zero, List.set_cons_succ]
    refine wpAnyG_take (i := 3) (oi := { dst := some 51, op := Op.load 3 (Operand.tmp 50), type := 3, pos := _, after := #[{ on := 2, ground := Ground.data }], guard := none }) (v := ?_) rfl (by kernel_rfl) (by kernel_rfl) (by kernel_rfl) (by kernel_rfl) (fun _ _ _ h => h) (Or.inl ⟨by rfl, ?_⟩) (by assumption) ?_
    rotate_left
    · intro w hSw
      try dsimp only at hSw
      obtain ⟨⟨c0, c1, c2⟩, _⟩ := cells3 hSw.2.1
      go_simp
      try with_reducible rfl
    try simp only [Act.put, List.setIfInBounds_toArray, List.set_cons_zero, List.set_cons_succ]
    refine wpAnyG_pure (i := 4) (oi := { dst := some 52, op := Op.fieldAddr 27 (Operand.tmp 8) 2, type := 0, pos := _, after := #[], guard := none }) (v := ?_) rfl (by kernel_rfl) (by kernel_rfl) (by kernel_rfl) (by kernel_rfl) (fun _ _ _ h => h) (Or.inl ⟨by rfl, ?_⟩) (fun _ => by assumption) ?_
    rotate_left
    · intro w hSw
      try dsimp only at hSw
      go_simp
      try with_reducible rfl
    try simp only [Act.put, List.setIfInBounds_toArray, List.set_cons_zero, List.set_cons_succ]
    refine wpAnyG_take (i := 5) (oi := { dst := some 53, op := Op.load 22 (Operand.tmp 52), type := 22, pos := _, after := #[{ on := 4, ground := Ground.data }], guard := none }) (v := ?_) rfl (by kernel_rfl) (by kernel_rfl) (by kernel_rfl) (by kernel_rfl) (fun _ _ _ h => h) (Or.inl ⟨by rfl, ?_⟩) (by assumption) ?_
    rotate_left
    · intro w hSw
      try dsimp only at hSw
      obtain ⟨⟨c0, c1, c2⟩, _⟩ := cells3 hSw.2.2
      go_simp
      try with_reducible rfl
    try simp only [Act.put, List.setIfInBounds_toArray, List.set_cons_zero, List.set_cons_succ]
    refine wpAnyG_pure (i := 6) (oi := { dst := some 54, op := Op.move (Operand.tmp 9), type := 3, pos := _, after := #[], guard := none }) (v := ?_) rfl (by kernel_rfl) (by kernel_rfl) (by kernel_rfl) (by kernel_rfl) (fun _ _ _ h => h) (Or.inl ⟨by rfl, ?_⟩) (fun _ => by assumption) ?_
    rotate_left
    · intro w hSw
      try dsimp only at hSw
      go_simp
      try with_reducible rfl
    try simp only [Act.put, List.setIfInBounds_toArray, List.set_cons_zero, List.set_cons_succ]
    refine wpAnyG_pure (i := 7) (oi := { dst := some 55, op := Op.move (Operand.tmp 9), type := 3, pos := _, after := #[], guard := none }) (v := ?_) rfl (by kernel_rfl) (by kernel_rfl) (by kernel_rfl) (by kernel_rfl) (fun _ _ _ h => h) (Or.inl ⟨by rfl, ?_⟩) (fun _ => by assumption) ?_
    rotate_left
    · intro w hSw
      try dsimp only at hSw
      go_simp
      try with_reducible rfl
    try simp only [Act.put, List.setIfInBounds_toArray, List.set_cons_zero, List.set_cons_succ]
    refine wpAnyG_pure (i := 8) (oi := { dst := some 56, op := Op.slice 22 (Operand.tmp 53) none (some (Operand.tmp 54)) (some (Operand.tmp 55)), type := 22, pos := _, after := #[{ on := 5, ground := Ground.data }, { on := 6, ground := Ground.data }, { on := 7, ground := Ground.data }], guard := none }) (v := ?_) rfl (by kernel_rfl) (by kernel_rfl) (by kernel_rfl) (by kernel_rfl) (fun _ _ _ h => h) (Or.inl ⟨by rfl, ?_⟩) (fun _ => by assumption) ?_
    rotate_left
    · intro w hSw
      try dsimp only at hSw
      go_simp
      try with_reducible rfl
    try simp only [Act.put, List.setIfInBounds_toArray, List.set_cons_zero, List.set_cons_succ]
    refine wpAnyG_pure (i := 9) (oi := { dst := some 57, op := Op.build 27 #[(0, Operand.tmp 49), (1, Operand.tmp 51), (2, Operand.tmp 56)], type := 27, pos := _, after := #[{ on := 1, ground := Ground.data }, { on := 3, ground := Ground.data }, { on := 8, ground := Ground.data }], guard := none }) (v := ?_) rfl (by kernel_rfl) (by kernel_rfl) (by kernel_rfl) (by kernel_rfl) (fun _ _ _ h => h) (Or.inl ⟨by rfl, ?_⟩) (fun _ => by assumption) ?_
    rotate_left
    · intro w hSw
      try dsimp only at hSw
      go_simp
      try with_reducible rfl
    try simp only [Act.put, List.setIfInBounds_toArray, List.set_cons_zero, List.set_cons_succ]
    refine wpAnyG_one (i := 10) (o := { dst := none, op := Op.store 27 (Operand.tmp 6) (Operand.tmp 57), type := 0, pos := _, after := #[{ on := 9, ground := Ground.data }, { on := 0, ground := Ground.phase }, { on := 1, ground := Ground.phase }, { on := 2, ground := Ground.phase }, { on := 3, ground := Ground.phase }, { on := 4, ground := Ground.phase }, { on := 5, ground := Ground.phase }, { on := 6, ground := Ground.phase }, { on := 7, ground := Ground.phase }, { on := 8, ground := Ground.phase }, { on := 9, ground := Ground.phase }], guard := none }) (by kernel_rfl) rfl (fun K hK => ?_)
    obtain ⟨⟨d0, d1, d2⟩, f0, f1, f2⟩ := cells3 H7L.out.2.2.1
    go_simp
    try dsimp only
    refine hK.out _ _ ?_ (fun hHeld => ?_)
    · exact fun h => (st_no (by kernel_rfl) h).elim
    clear hK K
    try simp only [Act.put, List.setIfInBounds_toArray, List.set_cons_zero, List.set_cons_succ]
    clear hHeld
    refine wpAnyG_pure (i := 11) (oi := { dst := some 7, op := Op.assign (Operand.const (Value.int IntKind.i64 0)), type := 29, pos := _, after := #[{ on := 10, ground := Ground.chain }, { on := 0, ground := Ground.phase }, { on := 1, ground := Ground.phase }, { on := 2, ground := Ground.phase }, { on := 3, ground := Ground.phase }, { on := 4, ground := Ground.phase }, { on := 5, ground := Ground.phase }, { on := 6, ground := Ground.phase }, { on := 7, ground := Ground.phase }, { on := 8, ground := Ground.phase }, { on := 9, ground := Ground.phase }, { on := 10, ground := Ground.phase }], guard := none }) (v := ?_) rfl (by kernel_rfl) (by kernel_rfl) (by kernel_rfl) (by kernel_rfl) (fun _ _ _ h => h) (Or.inl ⟨by rfl, ?_⟩) (fun h => (st_no (by kernel_rfl) h).elim) ?_
    rotate_left
    · intro w hSw
      try dsimp only at hSw
      go_simp
      try with_reducible rfl
    try simp only [Act.put, List.setIfInBounds_toArray, List.set_cons_zero, List.set_cons_succ]
    refine wpAnyG_done (by kernel_rfl) ?_ _
    refine NoPanic.normal ?_
    --END solve_yes09
    have h3 := set3 H7L.out.2.2.1 (.int .i64 (c : Int)) (.int .i64 (d : Int)) (.slice X L L)
    obtain ⟨w29, hw29⟩ : ∃ x : World, ((w6.setCell ⟨ga + 1 + 1, 0, none⟩ (.int .i64 (c : Int))).setCell ⟨ga + 1 + 1, 1, none⟩ (.int .i64 (d : Int))).setCell ⟨ga + 1 + 1, 2, none⟩ (.slice X L L) = x := ⟨_, rfl⟩
    rw [hw29] at h3 ⊢
    obtain ⟨⟨e0, e1, e2⟩, _⟩ := cells3 h3.1
    have H3R := Lib.hid h3
    clear h3 hw29
    go_wp2_with fail
    refine bodyPost_ret (v := .tuple #[.agg #[.int .i64 (c : Int), .int .i64 (d : Int), .slice X L L], .int .i64 0]) (by simp [results, Try.results21, go_sem, e0, e1, e2]) rfl ?_
    have hxo := fun k (h : Bk X k) => (own_bk H3.out.2 h).1
    have hn := H2.out.nums
    have hsz := H2.out.below.size
    have hbd := nextN (Mem.start w29) 1
    have hwo := (H6.out.1.fr H3R.out.2 (fun g e1 e2 => by have := hxo g e1; omega)).keep hbd
    refine ⟨X, L, by rw [HQ.out.1], by rw [HQ.out.1]; exact Nat.le_refl _, ⟨?_, fun b o e hl => ?_⟩, (H6.out.2.1.fr H3R.out.2 (by have := HG.out; have := HP.out.lt; omega)).keep hbd, (H7L.out.2.2.2.2.trans H3R.out.2 fun k hk e => by have := HG.out; omega).trans (Fr.quiet (S := fun _ => False) hbd) fun _ _ h => h.elim⟩
    · rw [H6L.out.2.2]; exact head_bytes hwo L
    · rcases Own.form H3.out.2 with ⟨e3, _⟩ | ⟨g', e3, hb, _⟩
      · rw [e] at e3; cases e3
      · rw [e] at e3; injection e3 with e3; have := congrArg Addr.block e3; dsimp only at this; omega
/-- Does Solve refuse for its sizes? -/
def solB (R C : Int) (n : Nat) (R' C' : Int) (n' : Nat) : Bool := rightB R C n && rightB R' C' n' && R == R'
theorem solve_bad (w : World) (F : Value) (R C R' C' : Int) (A A' : Option Addr) (n cap n' cap' : Nat) (h : solB R C n R' C' n' = false) :
    Calls Try.prog 21 #[F, .agg #[.int .i64 R, .int .i64 C, .slice A n cap], .agg #[.int .i64 R', .int .i64 C', .slice A' n' cap']] w (ErrM w 50) := by
  cases h1 : rightB R C n with
  | false => exact solve_bad1 w F R C R' C' A A' n cap n' cap' h1
  | true =>
    cases h2 : rightB R' C' n' with
    | false => exact solve_bad2 w F R C R' C' A A' n cap n' cap' h1 h2
    | true =>
      refine solve_bad3 w F R C R' C' A A' n cap n' cap' h1 h2 ?_
      unfold solB at h
      rw [h1, h2] at h
      simpa using h
/-- Is there a solution? -/
def solves (r c d : Nat) (a b : M) : Bool := decide ((redTo r a b c).at_ = c) && !anyNz ((flat r d (redTo r a b c).B).drop (c * d))
theorem solve_no (w : World) (p : Nat) (hp : Fld w p) (r c d : Nat) (A A' : Option Addr) (n cap n' cap' : Nat) (a b : M) (hrt : rightB r c n = true) (hrt2 : rightB r d n' = true) (hrd : r ≤ 100 ∧ c ≤ 100 ∧ d ≤ 100) (hA : In w p A (flat r c a)) (hB : In w p A' (flat r d b)) (h : solves r c d a b = false) :
    Calls Try.prog 21 #[fptr (some p), .agg #[.int .i64 (r : Int), .int .i64 (c : Int), .slice A n cap], .agg #[.int .i64 (r : Int), .int .i64 (d : Int), .slice A' n' cap']] w (ErrF w p 51) := by
  have hat := redTo_at (A := a) (B := b) (r := r) c
  by_cases hk : (redTo r a b c).at_ = c
  · refine solve_no2 w p hp r c d A A' n cap n' cap' a b hrt hrt2 hrd hA hB hk ?_
    unfold solves at h
    rw [decide_eq_true hk] at h
    simpa using h
  · exact solve_no1 w p hp r c d A A' n cap n' cap' a b hrt hrt2 hrd hA hB (by omega)
theorem solve_ok (w : World) (p : Nat) (hp : Fld w p) (r c d : Nat) (A A' : Option Addr) (n cap n' cap' : Nat) (a b : M) (hrt : rightB r c n = true) (hrt2 : rightB r d n' = true) (hrd : r ≤ 100 ∧ c ≤ 100 ∧ d ≤ 100) (hA : In w p A (flat r c a)) (hB : In w p A' (flat r d b)) (h : solves r c d a b = true) :
    Calls Try.prog 21 #[fptr (some p), .agg #[.int .i64 (r : Int), .int .i64 (c : Int), .slice A n cap], .agg #[.int .i64 (r : Int), .int .i64 (d : Int), .slice A' n' cap']] w (NewF w p c d (redTo r a b c).B) := by
  unfold solves at h
  rw [Bool.and_eq_true, decide_eq_true_iff, Bool.not_eq_true'] at h
  exact solve_yes w p hp r c d A A' n cap n' cap' a b hrt hrt2 hrd hA hB h.1 h.2
end Go.Proofs.Ythdapoipfnnaeaa.MxW
