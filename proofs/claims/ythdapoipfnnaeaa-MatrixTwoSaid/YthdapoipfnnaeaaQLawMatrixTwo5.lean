/- Texts of a claim, one behind another. -/
import Derived.Test.YthdapoipfnnaeaaSq
import Derived.Test.YthdapoipfnnaeaaQLawMatrixOne4
import Derived.Test.YthdapoipfnnaeaaOpenMx
/- The document's Reduced. -/
namespace Go.Proofs.Ythdapoipfnnaeaa.MxW
open Go.RowKit Go.Shelf Mem Gf FdW Mx Rng
open PlW (In)
set_option linter.unusedVariables false
set_option linter.unusedSectionVars false
attribute [local go_sem] Oper.semAt_some wide_fn

/-- The matrix that is being reduced, and in which columns its rows begin. -/
structure RdS (w0 : World) (Y : List (Nat × TypeId × Array Value)) (g r C : Nat) (m : M) (L : Option Addr) (cap t : Nat) (w : World) : Prop where
  ws : WS w0 Y g (r * C) r C m w
  bg : ∃ vs : List Value, vs.length = t ∧ Mem.Own w w0.heap.size 3 L cap vs
section
variable {w0 w w' : World} {Y : List (Nat × TypeId × Array Value)} {g r C : Nat} {m m' : M} {L : Option Addr} {cap t : Nat}
theorem RdS.keep (h : RdS w0 Y g r C m L cap t w) (hb : Below w.heap.size w w') : RdS w0 Y g r C m L cap t w' := ⟨h.ws.keep hb, h.bg.imp fun _ k => ⟨k.1, k.2.keep hb⟩⟩
theorem RdS.ne (h : RdS w0 Y g r C m L cap t w) : ∀ g', L = some ⟨g', 0, none⟩ → g' ≠ g := by
  obtain ⟨vs, _, ho⟩ := h.bg
  have hb := (own_blk h.ws.row (by rw [List.length_map, flat_len])).1
  exact fun g' e e2 => hb.ne_own ho (by decide) g' e e2
theorem RdS.set (h : RdS w0 Y g r C m L cap t w) {i k : Nat} (hi : i < r) (hk : k < C) (x : UInt8) : RdS w0 Y g r C (upd m i k x) L cap t (w.setCell ⟨g, i * C + k, none⟩ (.int .u8 (x.toNat : Int))) := by
  obtain ⟨vs, hv, ho⟩ := h.bg
  exact ⟨h.ws.set hi hk x, vs, hv, ho.set_far fun g' e => fun e2 => h.ne g' e e2.symm⟩
theorem RdS.congr (h : RdS w0 Y g r C m L cap t w) (hm : ∀ i, i < r → ∀ k, k < C → m i k = m' i k) : RdS w0 Y g r C m' L cap t w := ⟨h.ws.congr hm, h.bg⟩
theorem RdS.drew (h : RdS w0 Y g r C m L cap t w) : RdS w0 Y g r C m L cap t w.drew := h.keep (nextN (Mem.start w) 1)
theorem RdS.swap (h : RdS w0 Y g r C m L cap t w) (hr : Wm w' w0.heap.size g (r * C) r C m') (hf : Fr (fun k => k = g) w w') : RdS w0 Y g r C m' L cap t w' := by
  have hg := h.ws.row.form.1
  refine ⟨⟨h.ws.below.trans (hf.below h.ws.below.size fun k hk => by rw [hk]; exact hg), fun y hy => ⟨(h.ws.box y hy).1.fr hf fun e => ?_, (h.ws.box y hy).2⟩, hr⟩, ?_⟩
  · exact (h.ws.box y hy).1.ne_own h.ws.row (h.ws.box y hy).2.1 g rfl e.symm
  · obtain ⟨vs, hv, ho⟩ := h.bg
    exact ⟨vs, hv, Own.fr ho hf fun g' e => h.ne g' e⟩
end
theorem RdS.grow {w0 w w' : World} {Y : List (Nat × TypeId × Array Value)} {g r C : Nat} {m : M} {L L' : Option Addr} {cap cap' t t' : Nat} {vs vs' : List Value} (h : RdS w0 Y g r C m L cap t w) (hL : Mem.Own w w0.heap.size 3 L cap vs) (ho : Mem.Own w' w0.heap.size 3 L' cap' vs') (hb : Below w0.heap.size w w') (hg : w.grownBy w' (L.map (·.block))) (hv : vs'.length = t') : RdS w0 (Y.filter fun y => decide (y.2.1 ≠ 3)) g r C m L' cap' t' w' := by
  refine ⟨⟨h.ws.below.trans hb, fun y hy => ?_, ?_⟩, vs', hv, ho⟩
  · obtain ⟨hy, hT⟩ := List.mem_filter.1 hy
    exact ⟨(h.ws.box y hy).1.app hL (of_decide_eq_true hT) hg, (h.ws.box y hy).2⟩
  · refine Own.grown h.ws.row hg fun g' e e2 => ?_
    injection e with e
    have hgg := congrArg Addr.block e
    dsimp only at hgg
    subst hgg
    rcases hL.form with ⟨e3, _⟩ | ⟨g3, e3, _⟩
    · rw [e3] at e2; cases e2
    · rw [e3] at e2
      injection e2 with e2
      exact h.ne g3 e3 e2.symm
def copyUp (m : M) (C j : Nat) : M := fun x y => if x * C + y < j then m x y else 0
theorem copyUp_step {r C x y : Nat} (m : M) (hx : x < r) (hy : y < C) : ∀ i, i < r → ∀ k, k < C → upd (copyUp m C (x * C + y)) x y (m x y) i k = copyUp m C (x * C + y + 1) i k := by
  intro i hi k hk
  unfold upd copyUp
  by_cases h : i = x ∧ k = y
  · obtain ⟨rfl, rfl⟩ := h
    rw [if_pos ⟨rfl, rfl⟩, if_pos (by omega)]
  · rw [if_neg h]
    by_cases h2 : i * C + k < x * C + y
    · rw [if_pos h2, if_pos (by omega)]
    · rw [if_neg h2, if_neg]
      intro h3
      have e : i * C + k = x * C + y := by omega
      have e1 := congrArg (· / C) e
      have e2 := congrArg (· % C) e
      simp only [idx_div hk, idx_div hy, idx_mod hk, idx_mod hy] at e1 e2
      exact h ⟨e1, e2⟩
/-- Rows ahead of i reckoned, row i ahead of column k. -/
def el2 (t : Nat → UInt8) (A : M) (a i k : Nat) : M := fun x y => if x = i ∧ y < k then A x y ^^^ mul (A a y) (t x) else elimUp t A a i x y
theorem el2_step {t : Nat → UInt8} {A : M} {a i k : Nat} (hia : i ≠ a) (x y : Nat) : upd (el2 t A a i k) i k (el2 t A a i k i k ^^^ mul (t i) (el2 t A a i k a k)) x y = el2 t A a i (k + 1) x y := by
  have h1 : el2 t A a i k i k = A i k := by unfold el2; rw [if_neg (by omega), elimUp_ge _ _ _ (Nat.le_refl _)]
  have h2 : el2 t A a i k a k = A a k := by unfold el2; rw [if_neg (by omega), elimUp_at]
  rw [h1, h2]
  unfold upd
  by_cases h : x = i ∧ y = k
  · obtain ⟨rfl, rfl⟩ := h
    rw [if_pos ⟨rfl, rfl⟩]
    unfold el2
    rw [if_pos ⟨rfl, by omega⟩, mul_comm]
  · rw [if_neg h]
    unfold el2
    by_cases h3 : x = i ∧ y < k
    · rw [if_pos h3, if_pos (by omega)]
    · rw [if_neg h3, if_neg (by omega)]
theorem el2_done {t : Nat → UInt8} {A : M} {a i C : Nat} (hia : i ≠ a) (x y : Nat) (hy : y < C) : el2 t A a i C x y = elimUp t A a (i + 1) x y := by
  unfold el2
  by_cases h : x = i
  · subst h
    rw [if_pos ⟨rfl, hy⟩]
    unfold elimUp elim
    rw [if_pos (by omega), if_neg hia]
  · rw [if_neg (by omega)]
    unfold elimUp
    by_cases h2 : x < i
    · rw [if_pos h2, if_pos (by omega)]
    · rw [if_neg h2, if_neg (by omega)]
theorem el2_zero (t : Nat → UInt8) (A : M) (a i x y : Nat) : el2 t A a i 0 x y = elimUp t A a i x y := by unfold el2; rw [if_neg (by omega)]
def RRedOk (w : World) (r C : Nat) (m : M) (t : Nat) (e : Ending) (w' : World) : Prop := ∃ g L cap, e = .returned (.tuple #[.agg #[.int .i64 (r : Int), .int .i64 (C : Int), .slice (some ⟨g, 0, none⟩) (r * C) (r * C)], .slice L t cap]) ∧ Nw w.heap.size w' (some ⟨g, 0, none⟩) (flat r C m) ∧ Below w.heap.size w w'
theorem intinfo : (Try.prog.info? 3).map (fun i => (i.zero, i.size, i.bytes)) = some (some (.int .i64 0), 1, 8) := by kernel_rfl
theorem int_parts : ∃ i : TypeInfo, Try.prog.info? 3 = some i ∧ i.zero = some (.int .i64 0) ∧ i.size = 1 ∧ i.bytes = 8 := by
  have h := intinfo
  rcases hi : Try.prog.info? 3 with _ | i
  · rw [hi] at h; cases h
  · rw [hi] at h
    simp only [Option.map_some, Option.some.injEq, Prod.mk.injEq] at h
    exact ⟨i, rfl, h.1, h.2.1, h.2.2⟩
theorem Mx_buildI (W : World) (a : Int) : (Instr.buildSlice 48 1 #[(0, .int .i64 a)]).run Try.prog W = .ok (.slice (some ⟨W.heap.size, 0, none⟩) 1 1) (W.alloc (.cells #[.int .i64 a] 3)) := by kernel_rfl
set_option maxRecDepth 100000 in
set_option maxHeartbeats 4000000 in
theorem rreduced_any (w : World) (r C cols : Nat) (A : Option Addr) (n cap : Nat) (m : M) (hn : n = r * C) (hd : r ≤ 100 ∧ C ≤ 300) (hcols : cols ≤ C) (hA : Bytes w w.heap.size A (flat r C m)) :
    Calls Try.prog 54 #[.agg #[.int .i64 (r : Int), .int .i64 (C : Int), .slice A n cap], .int .i64 (cols : Int)] w (RRedOk w r C (redTo r m m cols).A (redTo r m m cols).at_) := by
  have HN := Lib.hid (And.intro hd.1 (And.intro hd.2 (And.intro hcols hn)))
  have HA := Lib.hid hA
  have H0 := Lib.hid (((BS.start w).put (mcells r C A n cap) 38 (by decide)).put #[.int .i64 0, .int .i64 0, .slice none 0 0] 38 (by decide))
  clear hA hn hd hcols
  go_enter Try.func54, Try.ntmps54
  obtain ⟨⟨a0, a1, a2⟩, _⟩ := H0.out.cells (.tail _ (.head _))
  go_wp2_with fail
  clear a0 a1 a2
  obtain ⟨w1, hw1⟩ : ∃ x : World, (w.alloc (.cells #[.int .i64 (r : Int), .int .i64 (C : Int), .slice A n cap] 38)).alloc (.cells #[.int .i64 0, .int .i64 0, .slice none 0 0] 38) = x := ⟨_, rfl⟩
  have hw1' : (w.alloc (.cells (mcells r C A n cap) 38)).alloc (.cells #[.int .i64 0, .int .i64 0, .slice none 0 0] 38) = w1 := hw1
  rw [hw1', World.size_alloc] at H0
  rw [hw1]
  clear hw1 hw1'
  obtain ⟨ga, hga⟩ : ∃ x, w.heap.size = x := ⟨_, rfl⟩
  obtain ⟨g0, hg0⟩ : ∃ x, ga + 1 = x := ⟨_, rfl⟩
  rw [hga, hg0] at H0 ⊢
  have H1 := H0
  clear H0
  refine (rnone_any w1 (r) (C) (by have h1 : r * C ≤ 100 * 300 := Nat.mul_le_mul HN.out.1 HN.out.2.1; omega)).mono ?_
  rintro e w2 ⟨g, rfl, ho, hb⟩
  have H2 := Lib.hid (H1.out.none_ (g := g) (cap := r * C) (r := r) (c := C) (m := fun _ _ => 0) (show Wm w2 w.heap.size g (r * C) (r) (C) _ from ho.down H1.out.below.size) hb)
  clear ho hb 
  have H3 := Lib.hid (H2.out.put (mcells (r) (C) (some ⟨g, 0, none⟩) (r * C) (r * C)) 38 (by decide))
  go_wp2_with fail
  obtain ⟨gm, hgm⟩ : ∃ x, w2.heap.size = x := ⟨_, rfl⟩
  obtain ⟨w3, hw3⟩ : ∃ x : World, w2.alloc (.cells #[.int .i64 (r : Int), .int .i64 (C : Int), .slice (some ⟨g, 0, none⟩) (r * C) (r * C)] 38) = x := ⟨_, rfl⟩
  have hw3' : w2.alloc (.cells (mcells (r) (C) (some ⟨g, 0, none⟩) (r * C) (r * C)) 38) = w3 := hw3
  rw [hw3', hgm] at H3
  rw [hw3, hgm]
  clear hw3 hw3' hgm
  go_loopw [7] (fun i wr => ∃ j : Nat, i = .int .i64 (j : Int) ∧ j ≤ r * C ∧ WS w [(gm, 38, mcells r C (some ⟨g, 0, none⟩) (r * C) (r * C)), (g0, 38, #[.int .i64 0, .int .i64 0, .slice none 0 0]), (ga, 38, mcells r C A n cap)] g (r * C) r C (copyUp m C j) wr) (fun i _ => r * C - (intOf i).toNat)
  case atStart => exact ⟨0, rfl, Nat.zero_le _, H3.out.congr fun x _ y _ => by unfold copyUp; rw [if_neg (Nat.not_lt_zero _)]⟩
  case round =>
    obtain ⟨j, rfl, hj, h⟩ := hrel
    have H4 := Lib.hid h
    clear h H3
    obtain ⟨w4, rfl⟩ : ∃ w4 : World, w4 = wr := ⟨_, rfl⟩
    obtain ⟨⟨a0, a1, a2⟩, _⟩ := H4.out.cells (.tail _ (.tail _ (.head _)))
    by_cases hjn : j < r * C
    · have hsz : r * C ≤ 100 * 300 := Nat.mul_le_mul HN.out.1 HN.out.2.1
      have hj1 : (j : Int) < (n : Int) := by have := HN.out.2.2.2; omega
      have hj0 : (0 : Int) ≤ (j : Int) := by omega
      have hj2 : (j : Int) < (r : Int) * (C : Int) := by rw [show (r : Int) * (C : Int) = ((r * C : Nat) : Int) by simp]; omega
      have hnj : IntKind.i64.wrap ((j : Int) + 1) = ((j + 1 : Nat) : Int) := by rw [IntWalk.i64_in _ (by omega)]; omega
      obtain ⟨i, k, hi, hk, hik⟩ := idx_of hjn
      have HIK := Lib.hid (And.intro hi (And.intro hk (And.intro hik hjn)))
      obtain ⟨ab, ao, eA, -, -⟩ := HA.out.at_ (k := j) (by rw [flat_len]; exact hjn)
      obtain ⟨x, hx⟩ : ∃ x, m i k = x := ⟨_, rfl⟩
      have HX := Lib.hid (show ∀ W : World, Below w.heap.size w W → W.cell? ⟨ab, ao + j, none⟩ = some (.int .u8 (x.toNat : Int)) from fun W hW => by
        obtain ⟨b', o', e', _, hc⟩ := (HA.out.below hW).at_ (k := j) (by rw [flat_len]; exact hjn)
        rw [eA] at e'; injection e' with e'; injection e' with e1 e2; subst e1; subst e2
        rw [hc]; simp only [hik, flat_getE hi hk, hx])
      subst eA
      have HXE := Lib.hid hx
      have H4D := Lib.hid (show WS w [(gm, 38, mcells r C (some ⟨g, 0, none⟩) (r * C) (r * C)), (g0, 38, #[.int .i64 0, .int .i64 0, .slice none 0 0]), (ga, 38, mcells r C (some ⟨ab, ao, none⟩) n cap)] g (r * C) r C (copyUp m C j) w4.drew from H4.out.keep (nextN (Mem.start w4) 1))
      have HC := Lib.hid (H4D.out.row.at2 hi hk hik.symm (x := copyUp m C j i k) rfl)
      clear hx hi hk hik hjn hsz
      go_wp2_with fail
      clear a0 a1 a2
      refine wp_region_noPanic ?_
      refine wp_heldG (fun w' => (w'.cell? ⟨gm, 0, none⟩ = some (.int .i64 (r : Int)) ∧ w'.cell? ⟨gm, 1, none⟩ = some (.int .i64 (C : Int)) ∧ w'.cell? ⟨gm, 2, none⟩ = some (.slice (some ⟨g, 0, none⟩) (r * C) (r * C))) ∧ (w'.cell? ⟨ga, 0, none⟩ = some (.int .i64 (r : Int)) ∧ w'.cell? ⟨ga, 1, none⟩ = some (.int .i64 (C : Int)) ∧ w'.cell? ⟨ga, 2, none⟩ = some (.slice (some ⟨ab, ao, none⟩) n cap)) ∧ w'.cell? ⟨ab, ao + j, none⟩ = some (.int .u8 (x.toNat : Int))) [9] (by kernel_rfl) ?hs0 ?rg0
      case hs0 =>
        exact ⟨(H4D.out.cells (.head _)).1, (H4D.out.cells (.tail _ (.tail _ (.head _)))).1, HX.out _ H4D.out.below⟩
      case rg0 =>
      intro hHeld
      refine puG 0 ⟨some 30, .fieldAddr 38 (.tmp 6) 2, 0, _, #[], none⟩ (v := ?_) ?_ (fun _ => by assumption) ?_
      rotate_left
      · intro w hSw
        try dsimp only at hSw
        go_simp
        try with_reducible rfl
      try simp only [Act.put, List.setIfInBounds_toArray, List.set_cons_zero, List.set_cons_succ]
      refine tkG 1 ⟨some 31, .load 22 (.tmp 30), 22, _, #[⟨0, .data⟩], none⟩ (v := ?_) ?_ (by assumption) ?_
      rotate_left
      · intro w hSw
        try dsimp only at hSw
        obtain ⟨⟨k0, k1, k2⟩, ⟨l0, l1, l2⟩, t0⟩ := hSw
        go_simp
        try with_reducible rfl
      try simp only [Act.put, List.setIfInBounds_toArray, List.set_cons_zero, List.set_cons_succ]
      refine puG 2 ⟨some 32, .move (.tmp 7), 3, _, #[], none⟩ (v := ?_) ?_ (fun _ => by assumption) ?_
      rotate_left
      · intro w hSw
        try dsimp only at hSw
        go_simp
        try with_reducible rfl
      try simp only [Act.put, List.setIfInBounds_toArray, List.set_cons_zero, List.set_cons_succ]
      refine puG 3 ⟨some 33, .fieldAddr 38 (.tmp 2) 2, 0, _, #[], none⟩ (v := ?_) ?_ (fun _ => by assumption) ?_
      rotate_left
      · intro w hSw
        try dsimp only at hSw
        go_simp
        try with_reducible rfl
      try simp only [Act.put, List.setIfInBounds_toArray, List.set_cons_zero, List.set_cons_succ]
      refine tkG 4 ⟨some 34, .load 22 (.tmp 33), 22, _, #[⟨3, .data⟩], none⟩ (v := ?_) ?_ (by assumption) ?_
      rotate_left
      · intro w hSw
        try dsimp only at hSw
        obtain ⟨⟨k0, k1, k2⟩, ⟨l0, l1, l2⟩, t0⟩ := hSw
        go_simp
        try with_reducible rfl
      try simp only [Act.put, List.setIfInBounds_toArray, List.set_cons_zero, List.set_cons_succ]
      refine puG 5 ⟨some 35, .move (.tmp 7), 3, _, #[], none⟩ (v := ?_) ?_ (fun _ => by assumption) ?_
      rotate_left
      · intro w hSw
        try dsimp only at hSw
        go_simp
        try with_reducible rfl
      try simp only [Act.put, List.setIfInBounds_toArray, List.set_cons_zero, List.set_cons_succ]
      refine puG 6 ⟨some 36, .indexAddr 22 (.tmp 34) (.tmp 35), 0, _, #[⟨4, .data⟩, ⟨5, .data⟩], none⟩ (v := ?_) ?_ (fun _ => by assumption) ?_
      rotate_left
      · intro w hSw
        try dsimp only at hSw
        go_simp
        try with_reducible rfl
      try simp only [Act.put, List.setIfInBounds_toArray, List.set_cons_zero, List.set_cons_succ]
      refine tkG 7 ⟨some 37, .load 5 (.tmp 36), 5, _, #[⟨6, .data⟩], none⟩ (v := ?_) ?_ (by assumption) ?_
      rotate_left
      · intro w hSw
        try dsimp only at hSw
        obtain ⟨⟨k0, k1, k2⟩, ⟨l0, l1, l2⟩, t0⟩ := hSw
        go_simp
        try with_reducible rfl
      try simp only [Act.put, List.setIfInBounds_toArray, List.set_cons_zero, List.set_cons_succ]
      refine puG 8 ⟨some 38, .indexAddr 22 (.tmp 31) (.tmp 32), 0, _, #[⟨1, .data⟩, ⟨2, .data⟩, ⟨0, .phase⟩, ⟨1, .phase⟩, ⟨2, .phase⟩, ⟨3, .phase⟩, ⟨4, .phase⟩, ⟨5, .phase⟩, ⟨6, .phase⟩, ⟨7, .phase⟩], none⟩ (v := ?_) ?_ (fun _ => by assumption) ?_
      rotate_left
      · intro w hSw
        try dsimp only at hSw
        go_simp
        try with_reducible rfl
      try simp only [Act.put, List.setIfInBounds_toArray, List.set_cons_zero, List.set_cons_succ]
      refine onG 9 ⟨none, .store 5 (.tmp 38) (.tmp 37), 0, _, #[⟨8, .data⟩, ⟨7, .data⟩, ⟨0, .phase⟩, ⟨1, .phase⟩, ⟨2, .phase⟩, ⟨3, .phase⟩, ⟨4, .phase⟩, ⟨5, .phase⟩, ⟨6, .phase⟩, ⟨7, .phase⟩], none⟩ (fun K hK => ?_)
      obtain ⟨s3, s4⟩ := HC.out
      go_simp
      try dsimp only
      refine hK.out _ _ ?_ (fun hHeld => ?_)
      · exact fun h => (st_no (by kernel_rfl) h).elim
      clear hK K
      try simp only [Act.put, List.setIfInBounds_toArray, List.set_cons_zero, List.set_cons_succ]
      clear hHeld
      refine wpAnyG_done (by kernel_rfl) ?_ _
      refine NoPanic.normal ?_
      clear hHeld
      have h5 := H4.out.set HIK.out.1 HIK.out.2.1 x
      rw [← HIK.out.2.2.1] at h5
      have H5 := Lib.hid (h5.keep (nextN (Mem.start _) 1))
      clear h5
      go_wp2_with fail
      go_roundw
      case rel =>
        refine ⟨j + 1, by simp, HIK.out.2.2.2, H5.out.congr fun a ha b hb => ?_⟩
        have h := copyUp_step m HIK.out.1 HIK.out.2.1 a ha b hb
        rw [HXE.out, ← HIK.out.2.2.1] at h
        exact h
      case measure => simp [intOf]; omega
    · obtain rfl : j = r * C := by omega
      have hjx : ¬ ((r * C : Nat) : Int) < (n : Int) := by have := HN.out.2.2.2; omega
      have H5 := Lib.hid (show RdS w [(gm, 38, mcells r C (some ⟨g, 0, none⟩) (r * C) (r * C)), (g0, 38, #[.int .i64 0, .int .i64 0, .slice none 0 0]), (ga, 38, mcells r C A n cap)] g r C ((redTo r m m 0).A) none 0 ((redTo r m m 0).at_) w4 from ⟨H4.out.congr fun x hx y hy => by unfold copyUp; rw [if_pos (idx_lt hx hy)]; rfl, [], rfl, Mem.Own.nil⟩)
      clear H4
      go_wp2_with fail
      clear a0 a1 a2
      go_loopw [8, 9] (fun b c wr => ∃ (k : Nat) (L : Option Addr) (capL : Nat), c = .int .i64 (k : Int) ∧ b = .slice L (redTo r m m k).at_ capL ∧ k ≤ cols ∧ RdS w [(gm, 38, mcells r C (some ⟨g, 0, none⟩) (r * C) (r * C)), (g0, 38, #[.int .i64 0, .int .i64 0, .slice none 0 0]), (ga, 38, mcells r C A n cap)] g r C ((redTo r m m k).A) L capL ((redTo r m m k).at_) wr) (fun _ c _ => cols - (intOf c).toNat)
      case atStart => exact ⟨0, none, 0, rfl, rfl, Nat.zero_le _, H5.out⟩
      case round =>
        obtain ⟨k, L, capL, rfl, rfl, hk, h⟩ := hrel
        have H6 := Lib.hid h
        clear h H5
        obtain ⟨w6, rfl⟩ : ∃ w6 : World, w6 = wr := ⟨_, rfl⟩
        by_cases hkc : k < cols
        · have hk1 : (k : Int) < (cols : Int) := by omega
          have HK := Lib.hid hkc
          have HKC := Lib.hid (show k < C from by have := HN.out.2.2.1; omega)
          have hnk : IntKind.i64.wrap ((k : Int) + 1) = ((k + 1 : Nat) : Int) := by have h9 := HN.out; rw [IntWalk.i64_in _ (by omega)]; omega
          have hat9 := redTo_at (A := m) (B := m) (r := r) k
          obtain ⟨s, hs⟩ : ∃ s, redTo r m m k = s := ⟨_, rfl⟩
          have HST := Lib.hid (show redTo r m m (k + 1) = redStep r k s from by rw [← hs]; rfl)
          rw [hs] at H6 hat9 ⊢
          clear hs
          obtain ⟨at_, hat⟩ : ∃ a, s.at_ = a := ⟨_, rfl⟩
          have HAE := Lib.hid hat
          rw [hat] at H6 hat9 ⊢
          clear hat
          have HAT := Lib.hid hat9
          clear hk hkc hat9
          go_wp2_with fail
          go_loopw [11] (fun fr wr => ∃ f : Nat, fr = .int .i64 (f : Int) ∧ at_ ≤ f ∧ f ≤ r ∧ (∀ j, at_ ≤ j → j < f → s.A j k = 0) ∧ w6 = wr) (fun fr _ => r - (intOf fr).toNat)
          case atStart => exact ⟨at_, rfl, Nat.le_refl _, HAT.out.1, fun j h1 h2 => absurd h2 (by omega), rfl⟩
          case round =>
            obtain ⟨f, rfl, hf1, hf2, hz, rfl⟩ := hrel
            obtain ⟨⟨a0, a1, a2⟩, _⟩ := H6.out.ws.cells (.head _)
            by_cases hfr : f < r
            · have hf3 : (f : Int) < (r : Int) := by omega
              have hnf : IntKind.i64.wrap ((f : Int) + 1) = ((f + 1 : Nat) : Int) := by have h9 := HN.out; rw [IntWalk.i64_in _ (by omega)]; omega
              have hpl1 := idx_lt (c := C) hfr HKC.out
              obtain ⟨p1, hp1⟩ : ∃ p, f * C + k = p := ⟨_, rfl⟩
              have HP1 := Lib.hid hp1
              have hsz1 : r * C ≤ 100 * 300 := Nat.mul_le_mul HN.out.1 HN.out.2.1
              have hwa1 : IntKind.i64.wrap ((f : Int) * (C : Int)) = ((f * C : Nat) : Int) := by rw [show (f : Int) * (C : Int) = ((f * C : Nat) : Int) by simp, IntWalk.i64_in _ (by omega)]
              obtain ⟨q1, hq1⟩ : ∃ q, f * C = q := ⟨_, rfl⟩
              rw [hq1] at hwa1 hp1 hpl1
              have hwb1 : IntKind.i64.wrap ((q1 : Int) + (k : Int)) = (p1 : Int) := by rw [IntWalk.i64_in _ (by omega)]; omega
              have hp01 : (0 : Int) ≤ (p1 : Int) := by omega
              have hp21 : (p1 : Int) < (r : Int) * (C : Int) := by rw [show (r : Int) * (C : Int) = ((r * C : Nat) : Int) by simp]; omega
              clear hpl1 hsz1 hq1 hp1
              obtain ⟨x, hx⟩ : ∃ x, s.A f k = x := ⟨_, rfl⟩
              obtain ⟨e0, e1⟩ := H6.out.ws.row.at2 hfr HKC.out HP1.out hx
              by_cases hx0 : x = 0
              · have hxz : (((x.toNat : Nat) : Int) == 0) = true := by rw [hx0]; rfl
                have HZR := Lib.hid (show ∀ j, at_ ≤ j → j < f + 1 → s.A j k = 0 from fun j h1 h2 => by
                  by_cases e : j = f
                  · rw [e, hx, hx0]
                  · exact hz j h1 (by omega))
                have HF2 := Lib.hid (And.intro hf1 hfr)
                clear hz hx hx0
                go_wp2_with fail
                go_roundw
                case rel => exact ⟨f + 1, by simp, by have := HF2.out; omega, HF2.out.2, HZR.out, trivial⟩
                case measure => simp [intOf]; omega
              · have hxz : (((x.toNat : Nat) : Int) == 0) = false := u8_zero_no hx0
                have hfe : ((f : Int) == (r : Int)) = false := by simp; omega
                have HFI := Lib.hid (find_is (A := s.A) (r := r) (k := k) hf1 hz (fun _ => by rw [hx]; exact hx0) (Nat.le_of_lt hfr))
                have HFR := Lib.hid hfr
                have HAR := Lib.hid (show at_ < r from by omega)
                have HXE := Lib.hid hx
                have HX0 := Lib.hid hx0
                clear hz hx hx0 hf1 hf2 hfr
                go_wp2_with fail
                clear a0 a1 a2 e0 e1
                refine (swap_any w6 w.heap.size g r C s.A at_ f HAR.out HFR.out ⟨HN.out.1, HN.out.2.1⟩ H6.out.ws.row).mono ?_
                rintro e w7 ⟨rfl, hrow, hfr7⟩
                have H7 := Lib.hid (H6.out.swap hrow hfr7)
                clear hrow hfr7
                clear hwa1 hwb1 hp01 hp21
                obtain ⟨⟨a0, a1, a2⟩, _⟩ := H7.out.ws.cells (.head _)
                have hpl2 := idx_lt (c := C) HAR.out HKC.out
                obtain ⟨p2, hp2⟩ : ∃ p, at_ * C + k = p := ⟨_, rfl⟩
                have HP2 := Lib.hid hp2
                have hsz2 : r * C ≤ 100 * 300 := Nat.mul_le_mul HN.out.1 HN.out.2.1
                have hwa2 : IntKind.i64.wrap ((at_ : Int) * (C : Int)) = ((at_ * C : Nat) : Int) := by rw [show (at_ : Int) * (C : Int) = ((at_ * C : Nat) : Int) by simp, IntWalk.i64_in _ (by omega)]
                obtain ⟨q2, hq2⟩ : ∃ q, at_ * C = q := ⟨_, rfl⟩
                rw [hq2] at hwa2 hp2 hpl2
                have hwb2 : IntKind.i64.wrap ((q2 : Int) + (k : Int)) = (p2 : Int) := by rw [IntWalk.i64_in _ (by omega)]; omega
                have hp02 : (0 : Int) ≤ (p2 : Int) := by omega
                have hp22 : (p2 : Int) < (r : Int) * (C : Int) := by rw [show (r : Int) * (C : Int) = ((r * C : Nat) : Int) by simp]; omega
                clear hpl2 hsz2 hq2 hp2
                obtain ⟨e0, e1⟩ := H7.out.ws.row.at2 HAR.out HKC.out HP2.out (show (swapM s.A at_ f) at_ k = x from by unfold swapM; rw [if_pos rfl]; exact HXE.out)
                go_wp2_with fail
                clear a0 a1 a2 e0 e1
                refine (refInv_any _ x rfl _).mono ?_
                rintro e w' ⟨rfl, rfl⟩
                obtain ⟨v, hv⟩ : ∃ v, inv x = v := ⟨_, rfl⟩
                rw [hv]
                have HV := Lib.hid (show inv (s.A f k) = v from by rw [HXE.out]; exact hv)
                clear hv
                clear hwa2 hwb2 hp02 hp22
                go_wp2_with fail
                go_loopw [14] (fun j wr => ∃ j' : Nat, j = .int .i64 (j' : Int) ∧ j' ≤ C ∧ RdS w [(gm, 38, mcells r C (some ⟨g, 0, none⟩) (r * C) (r * C)), (g0, 38, #[.int .i64 0, .int .i64 0, .slice none 0 0]), (ga, 38, mcells r C A n cap)] g r C (scaleUp (swapM s.A at_ f) at_ v j') L capL (at_) wr) (fun j _ => C - (intOf j).toNat)
                case atStart => exact ⟨0, rfl, Nat.zero_le _, H7.out.congr fun a _ b _ => by unfold scaleUp; rw [if_neg (by omega)]⟩
                case round =>
                  clear H7
                  obtain ⟨j, rfl, hj, h⟩ := hrel
                  have H8 := Lib.hid h
                  clear h
                  obtain ⟨w8, rfl⟩ : ∃ w8 : World, w8 = wr := ⟨_, rfl⟩
                  obtain ⟨⟨a0, a1, a2⟩, _⟩ := H8.out.ws.cells (.head _)
                  by_cases hjC : j < C
                  · have hj1 : (j : Int) < (C : Int) := by omega
                    have HJ := Lib.hid hjC
                    have hnj : IntKind.i64.wrap ((j : Int) + 1) = ((j + 1 : Nat) : Int) := by have h9 := HN.out; rw [IntWalk.i64_in _ (by omega)]; omega
                    have hpl3 := idx_lt (c := C) HAR.out HJ.out
                    obtain ⟨p3, hp3⟩ : ∃ p, at_ * C + j = p := ⟨_, rfl⟩
                    have HP3 := Lib.hid hp3
                    have hsz3 : r * C ≤ 100 * 300 := Nat.mul_le_mul HN.out.1 HN.out.2.1
                    have hwa3 : IntKind.i64.wrap ((at_ : Int) * (C : Int)) = ((at_ * C : Nat) : Int) := by rw [show (at_ : Int) * (C : Int) = ((at_ * C : Nat) : Int) by simp, IntWalk.i64_in _ (by omega)]
                    obtain ⟨q3, hq3⟩ : ∃ q, at_ * C = q := ⟨_, rfl⟩
                    rw [hq3] at hwa3 hp3 hpl3
                    have hwb3 : IntKind.i64.wrap ((q3 : Int) + (j : Int)) = (p3 : Int) := by rw [IntWalk.i64_in _ (by omega)]; omega
                    have hp03 : (0 : Int) ≤ (p3 : Int) := by omega
                    have hp23 : (p3 : Int) < (r : Int) * (C : Int) := by rw [show (r : Int) * (C : Int) = ((r * C : Nat) : Int) by simp]; omega
                    clear hpl3 hsz3 hq3 hp3
                    obtain ⟨y, hy⟩ : ∃ y, (swapM s.A at_ f) at_ j = y := ⟨_, rfl⟩
                    have HJD := Lib.hid H8.out.drew
                    have HY := Lib.hid (HJD.out.ws.row.at2 HAR.out HJ.out HP3.out (show scaleUp (swapM s.A at_ f) at_ v j at_ j = y from by unfold scaleUp; rw [if_neg (by omega)]; exact hy))
                    have HYE := Lib.hid hy
                    clear hy
                    go_wp2_with fail
                    clear a0 a1 a2
                    refine wp_region_noPanic ?_
                    refine wp_heldG (fun w' => (w'.cell? ⟨gm, 0, none⟩ = some (.int .i64 (r : Int)) ∧ w'.cell? ⟨gm, 1, none⟩ = some (.int .i64 (C : Int)) ∧ w'.cell? ⟨gm, 2, none⟩ = some (.slice (some ⟨g, 0, none⟩) (r * C) (r * C))) ∧ w'.cell? ⟨g, p3, none⟩ = some (.int .u8 (y.toNat : Int))) [21] (by kernel_rfl) ?hs0 ?rg0
                    case hs0 =>
                      exact ⟨(HJD.out.ws.cells (.head _)).1, HY.out.1⟩
                    case rg0 =>
                    intro hHeld
                    refine puG 0 ⟨some 94, .fieldAddr 38 (.tmp 6) 2, 0, _, #[], none⟩ (v := ?_) ?_ (fun _ => by assumption) ?_
                    rotate_left
                    · intro w hSw
                      try dsimp only at hSw
                      go_simp
                      try with_reducible rfl
                    try simp only [Act.put, List.setIfInBounds_toArray, List.set_cons_zero, List.set_cons_succ]
                    refine tkG 1 ⟨some 95, .load 22 (.tmp 94), 22, _, #[⟨0, .data⟩], none⟩ (v := ?_) ?_ (by assumption) ?_
                    rotate_left
                    · intro w hSw
                      try dsimp only at hSw
                      obtain ⟨⟨k0, k1, k2⟩, t0⟩ := hSw
                      go_simp
                      try with_reducible rfl
                    try simp only [Act.put, List.setIfInBounds_toArray, List.set_cons_zero, List.set_cons_succ]
                    refine puG 2 ⟨some 96, .move (.tmp 10), 3, _, #[], none⟩ (v := ?_) ?_ (fun _ => by assumption) ?_
                    rotate_left
                    · intro w hSw
                      try dsimp only at hSw
                      go_simp
                      try with_reducible rfl
                    try simp only [Act.put, List.setIfInBounds_toArray, List.set_cons_zero, List.set_cons_succ]
                    refine puG 3 ⟨some 97, .fieldAddr 38 (.tmp 6) 1, 0, _, #[], none⟩ (v := ?_) ?_ (fun _ => by assumption) ?_
                    rotate_left
                    · intro w hSw
                      try dsimp only at hSw
                      go_simp
                      try with_reducible rfl
                    try simp only [Act.put, List.setIfInBounds_toArray, List.set_cons_zero, List.set_cons_succ]
                    refine tkG 4 ⟨some 98, .load 3 (.tmp 97), 3, _, #[⟨3, .data⟩], none⟩ (v := ?_) ?_ (by assumption) ?_
                    rotate_left
                    · intro w hSw
                      try dsimp only at hSw
                      obtain ⟨⟨k0, k1, k2⟩, t0⟩ := hSw
                      go_simp
                      try with_reducible rfl
                    try simp only [Act.put, List.setIfInBounds_toArray, List.set_cons_zero, List.set_cons_succ]
                    refine puG 5 ⟨some 99, .binOp BinOp.mul 3 (.tmp 96) (.tmp 98) 3, 3, _, #[⟨2, .data⟩, ⟨4, .data⟩], none⟩ (v := ?_) ?_ (fun _ => by assumption) ?_
                    rotate_left
                    · intro w hSw
                      try dsimp only at hSw
                      go_simp
                      try with_reducible rfl
                    try simp only [Act.put, List.setIfInBounds_toArray, List.set_cons_zero, List.set_cons_succ]
                    refine puG 6 ⟨some 100, .move (.tmp 14), 3, _, #[], none⟩ (v := ?_) ?_ (fun _ => by assumption) ?_
                    rotate_left
                    · intro w hSw
                      try dsimp only at hSw
                      go_simp
                      try with_reducible rfl
                    try simp only [Act.put, List.setIfInBounds_toArray, List.set_cons_zero, List.set_cons_succ]
                    refine puG 7 ⟨some 101, .binOp BinOp.add 3 (.tmp 99) (.tmp 100) 3, 3, _, #[⟨5, .data⟩, ⟨6, .data⟩], none⟩ (v := ?_) ?_ (fun _ => by assumption) ?_
                    rotate_left
                    · intro w hSw
                      try dsimp only at hSw
                      go_simp
                      try with_reducible rfl
                    try simp only [Act.put, List.setIfInBounds_toArray, List.set_cons_zero, List.set_cons_succ]
                    refine puG 8 ⟨some 102, .fieldAddr 38 (.tmp 6) 2, 0, _, #[], none⟩ (v := ?_) ?_ (fun _ => by assumption) ?_
                    rotate_left
                    · intro w hSw
                      try dsimp only at hSw
                      go_simp
                      try with_reducible rfl
                    try simp only [Act.put, List.setIfInBounds_toArray, List.set_cons_zero, List.set_cons_succ]
                    refine tkG 9 ⟨some 103, .load 22 (.tmp 102), 22, _, #[⟨8, .data⟩], none⟩ (v := ?_) ?_ (by assumption) ?_
                    rotate_left
                    · intro w hSw
                      try dsimp only at hSw
                      obtain ⟨⟨k0, k1, k2⟩, t0⟩ := hSw
                      go_simp
                      try with_reducible rfl
                    try simp only [Act.put, List.setIfInBounds_toArray, List.set_cons_zero, List.set_cons_succ]
                    refine puG 10 ⟨some 104, .move (.tmp 10), 3, _, #[], none⟩ (v := ?_) ?_ (fun _ => by assumption) ?_
                    rotate_left
                    · intro w hSw
                      try dsimp only at hSw
                      go_simp
                      try with_reducible rfl
                    try simp only [Act.put, List.setIfInBounds_toArray, List.set_cons_zero, List.set_cons_succ]
                    refine puG 11 ⟨some 105, .fieldAddr 38 (.tmp 6) 1, 0, _, #[], none⟩ (v := ?_) ?_ (fun _ => by assumption) ?_
                    rotate_left
                    · intro w hSw
                      try dsimp only at hSw
                      go_simp
                      try with_reducible rfl
                    try simp only [Act.put, List.setIfInBounds_toArray, List.set_cons_zero, List.set_cons_succ]
                    refine tkG 12 ⟨some 106, .load 3 (.tmp 105), 3, _, #[⟨11, .data⟩], none⟩ (v := ?_) ?_ (by assumption) ?_
                    rotate_left
                    · intro w hSw
                      try dsimp only at hSw
                      obtain ⟨⟨k0, k1, k2⟩, t0⟩ := hSw
                      go_simp
                      try with_reducible rfl
                    try simp only [Act.put, List.setIfInBounds_toArray, List.set_cons_zero, List.set_cons_succ]
                    refine puG 13 ⟨some 107, .binOp BinOp.mul 3 (.tmp 104) (.tmp 106) 3, 3, _, #[⟨10, .data⟩, ⟨12, .data⟩], none⟩ (v := ?_) ?_ (fun _ => by assumption) ?_
                    rotate_left
                    · intro w hSw
                      try dsimp only at hSw
                      go_simp
                      try with_reducible rfl
                    try simp only [Act.put, List.setIfInBounds_toArray, List.set_cons_zero, List.set_cons_succ]
                    refine puG 14 ⟨some 108, .move (.tmp 14), 3, _, #[], none⟩ (v := ?_) ?_ (fun _ => by assumption) ?_
                    rotate_left
                    · intro w hSw
                      try dsimp only at hSw
                      go_simp
                      try with_reducible rfl
                    try simp only [Act.put, List.setIfInBounds_toArray, List.set_cons_zero, List.set_cons_succ]
                    refine puG 15 ⟨some 109, .binOp BinOp.add 3 (.tmp 107) (.tmp 108) 3, 3, _, #[⟨13, .data⟩, ⟨14, .data⟩], none⟩ (v := ?_) ?_ (fun _ => by assumption) ?_
                    rotate_left
                    · intro w hSw
                      try dsimp only at hSw
                      go_simp
                      try with_reducible rfl
                    try simp only [Act.put, List.setIfInBounds_toArray, List.set_cons_zero, List.set_cons_succ]
                    refine puG 16 ⟨some 110, .indexAddr 22 (.tmp 103) (.tmp 109), 0, _, #[⟨9, .data⟩, ⟨15, .data⟩], none⟩ (v := ?_) ?_ (fun _ => by assumption) ?_
                    rotate_left
                    · intro w hSw
                      try dsimp only at hSw
                      go_simp
                      try with_reducible rfl
                    try simp only [Act.put, List.setIfInBounds_toArray, List.set_cons_zero, List.set_cons_succ]
                    refine tkG 17 ⟨some 111, .load 5 (.tmp 110), 5, _, #[⟨16, .data⟩], none⟩ (v := ?_) ?_ (by assumption) ?_
                    rotate_left
                    · intro w hSw
                      try dsimp only at hSw
                      obtain ⟨⟨k0, k1, k2⟩, t0⟩ := hSw
                      go_simp
                      try with_reducible rfl
                    try simp only [Act.put, List.setIfInBounds_toArray, List.set_cons_zero, List.set_cons_succ]
                    refine puG 18 ⟨some 112, .move (.tmp 12), 5, _, #[], none⟩ (v := ?_) ?_ (fun _ => by assumption) ?_
                    rotate_left
                    · intro w hSw
                      try dsimp only at hSw
                      go_simp
                      try with_reducible rfl
                    try simp only [Act.put, List.setIfInBounds_toArray, List.set_cons_zero, List.set_cons_succ]
                    refine onG 19 ⟨some 113, .call { callee := Callee.value (Operand.func 51), args := #[.tmp 111, .tmp 112], argTypes := #[5, 5] }, 5, _, #[⟨17, .data⟩, ⟨18, .data⟩], none⟩ (fun K hK => ?_)
                    go_simp
                    refine (refMul_any _ _ y v rfl rfl _).mono ?_
                    rintro e w' ⟨rfl, rfl⟩
                    try dsimp only
                    refine hK.out _ _ ?_ (fun hHeld => ?_)
                    · intro _
                      try dsimp only
                      exact hHeld
                    clear hK K
                    try simp only [Act.put, List.setIfInBounds_toArray, List.set_cons_zero, List.set_cons_succ]
                    have hHeld := hHeld (by kernel_rfl)
                    refine puG 20 ⟨some 114, .indexAddr 22 (.tmp 95) (.tmp 101), 0, _, #[⟨1, .data⟩, ⟨7, .data⟩, ⟨0, .phase⟩, ⟨1, .phase⟩, ⟨2, .phase⟩, ⟨3, .phase⟩, ⟨4, .phase⟩, ⟨5, .phase⟩, ⟨6, .phase⟩, ⟨7, .phase⟩, ⟨8, .phase⟩, ⟨9, .phase⟩, ⟨10, .phase⟩, ⟨11, .phase⟩, ⟨12, .phase⟩, ⟨13, .phase⟩, ⟨14, .phase⟩, ⟨15, .phase⟩, ⟨16, .phase⟩, ⟨17, .phase⟩, ⟨18, .phase⟩, ⟨19, .phase⟩], none⟩ (v := ?_) ?_ (fun _ => by assumption) ?_
                    rotate_left
                    · intro w hSw
                      try dsimp only at hSw
                      go_simp
                      try with_reducible rfl
                    try simp only [Act.put, List.setIfInBounds_toArray, List.set_cons_zero, List.set_cons_succ]
                    refine onG 21 ⟨none, .store 5 (.tmp 114) (.tmp 113), 0, _, #[⟨20, .data⟩, ⟨19, .data⟩, ⟨19, .chain⟩, ⟨0, .phase⟩, ⟨1, .phase⟩, ⟨2, .phase⟩, ⟨3, .phase⟩, ⟨4, .phase⟩, ⟨5, .phase⟩, ⟨6, .phase⟩, ⟨7, .phase⟩, ⟨8, .phase⟩, ⟨9, .phase⟩, ⟨10, .phase⟩, ⟨11, .phase⟩, ⟨12, .phase⟩, ⟨13, .phase⟩, ⟨14, .phase⟩, ⟨15, .phase⟩, ⟨16, .phase⟩, ⟨17, .phase⟩, ⟨18, .phase⟩, ⟨19, .phase⟩], none⟩ (fun K hK => ?_)
                    obtain ⟨s3, s4⟩ := HY.out
                    go_simp
                    try dsimp only
                    refine hK.out _ _ ?_ (fun hHeld => ?_)
                    · exact fun h => (st_no (by kernel_rfl) h).elim
                    clear hK K
                    try simp only [Act.put, List.setIfInBounds_toArray, List.set_cons_zero, List.set_cons_succ]
                    clear hHeld
                    refine wpAnyG_done (by kernel_rfl) ?_ _
                    refine NoPanic.normal ?_
                    clear hHeld
                    have h7 := H8.out.set HAR.out HJ.out (mul y v)
                    rw [HP3.out] at h7
                    have H9 := Lib.hid (h7.keep (nextN (Mem.start _) 1))
                    clear h7
                    go_wp2_with fail
                    go_roundw
                    case rel =>
                      refine ⟨j + 1, by simp, HJ.out, H9.out.congr fun a _ b _ => ?_⟩
                      have h := scaleUp_step (swapM s.A at_ f) at_ v j a b
                      rw [HYE.out] at h
                      exact h
                    case measure => simp [intOf]; omega
                  · obtain rfl : C = j := by omega
                    have H9 := Lib.hid (H8.out.congr (m' := scaleM (swapM s.A at_ f) at_ v) fun a _ b hb => by
                      unfold scaleUp scaleM
                      by_cases e : a = at_
                      · rw [if_pos ⟨e, hb⟩, if_pos e]
                      · rw [if_neg (fun h => e h.1), if_neg e])
                    go_wp2_with fail
                    clear a0 a1 a2
                    go_loopw [15] (fun i wr => ∃ i' : Nat, i = .int .i64 (i' : Int) ∧ i' ≤ r ∧ RdS w [(gm, 38, mcells r C (some ⟨g, 0, none⟩) (r * C) (r * C)), (g0, 38, #[.int .i64 0, .int .i64 0, .slice none 0 0]), (ga, 38, mcells r C A n cap)] g r C (elimUp (fun i => (scaleM (swapM s.A at_ f) at_ v) i k) (scaleM (swapM s.A at_ f) at_ v) at_ i') L capL (at_) wr) (fun i _ => r - (intOf i).toNat)
                    case atStart => exact ⟨0, rfl, Nat.zero_le _, H9.out.congr fun a _ b _ => (elimUp_ge _ _ _ (Nat.zero_le a) b).symm⟩
                    case round =>
                      clear H8 H9
                      obtain ⟨i, rfl, hi, h⟩ := hrel
                      have H9 := Lib.hid h
                      clear h
                      obtain ⟨w9, rfl⟩ : ∃ w9 : World, w9 = wr := ⟨_, rfl⟩
                      obtain ⟨⟨a0, a1, a2⟩, _⟩ := H9.out.ws.cells (.head _)
                      by_cases hir : i < r
                      · have hi1 : (i : Int) < (r : Int) := by omega
                        have HI := Lib.hid hir
                        have hni : IntKind.i64.wrap ((i : Int) + 1) = ((i + 1 : Nat) : Int) := by have h9 := HN.out; rw [IntWalk.i64_in _ (by omega)]; omega
                        have hpl4 := idx_lt (c := C) HI.out HKC.out
                        obtain ⟨p4, hp4⟩ : ∃ p, i * C + k = p := ⟨_, rfl⟩
                        have HP4 := Lib.hid hp4
                        have hsz4 : r * C ≤ 100 * 300 := Nat.mul_le_mul HN.out.1 HN.out.2.1
                        have hwa4 : IntKind.i64.wrap ((i : Int) * (C : Int)) = ((i * C : Nat) : Int) := by rw [show (i : Int) * (C : Int) = ((i * C : Nat) : Int) by simp, IntWalk.i64_in _ (by omega)]
                        obtain ⟨q4, hq4⟩ : ∃ q, i * C = q := ⟨_, rfl⟩
                        rw [hq4] at hwa4 hp4 hpl4
                        have hwb4 : IntKind.i64.wrap ((q4 : Int) + (k : Int)) = (p4 : Int) := by rw [IntWalk.i64_in _ (by omega)]; omega
                        have hp04 : (0 : Int) ≤ (p4 : Int) := by omega
                        have hp24 : (p4 : Int) < (r : Int) * (C : Int) := by rw [show (r : Int) * (C : Int) = ((r * C : Nat) : Int) by simp]; omega
                        clear hpl4 hsz4 hq4 hp4
                        obtain ⟨z, hz⟩ : ∃ z, (scaleM (swapM s.A at_ f) at_ v) i k = z := ⟨_, rfl⟩
                        have HZ := Lib.hid hz
                        obtain ⟨e0, e1⟩ := H9.out.ws.row.at2 HI.out HKC.out HP4.out (show elimUp (fun i => (scaleM (swapM s.A at_ f) at_ v) i k) (scaleM (swapM s.A at_ f) at_ v) at_ i i k = z from by rw [elimUp_ge _ _ _ (Nat.le_refl _)]; exact hz)
                        clear hz
                        by_cases hia : i = at_
                        · subst hia
                          have hie : ((i : Int) != (i : Int)) = false := by simp
                          have hC0 : (0 : Int) < (C : Int) := by have := HKC.out; omega
                          go_wp2_with fail
                          clear a0 a1 a2 e0 e1
                          clear hwa4 hwb4 hp04 hp24
                          go_loopw [17] (fun y wr => y = .int .i64 0 ∧ w9 = wr) (fun y _ => 0)
                          case atStart => exact ⟨rfl, rfl⟩
                          case round =>
                            obtain ⟨rfl, rfl⟩ := hrel
                            obtain ⟨⟨a0, a1, a2⟩, _⟩ := H9.out.ws.cells (.head _)
                            go_wp2_with fail
                            go_roundw
                            case rel => exact ⟨i + 1, by simp, HI.out, H9.out.congr fun a _ b _ => elimUp_skip _ _ i a b⟩
                            case measure => simp [intOf]; omega
                        · have HIA := Lib.hid hia
                          have hie : ((i : Int) != (at_ : Int)) = true := by rw [bne_iff_ne]; omega
                          go_wp2_with fail
                          clear a0 a1 a2 e0 e1
                          clear hwa4 hwb4 hp04 hp24
                          go_loopw [17] (fun y wr => ∃ j : Nat, y = .int .i64 (j : Int) ∧ j ≤ C ∧ RdS w [(gm, 38, mcells r C (some ⟨g, 0, none⟩) (r * C) (r * C)), (g0, 38, #[.int .i64 0, .int .i64 0, .slice none 0 0]), (ga, 38, mcells r C A n cap)] g r C (el2 (fun i => (scaleM (swapM s.A at_ f) at_ v) i k) (scaleM (swapM s.A at_ f) at_ v) at_ i j) L capL (at_) wr) (fun y _ => C - (intOf y).toNat)
                          case atStart => exact ⟨0, rfl, Nat.zero_le _, H9.out.congr fun a _ b _ => (el2_zero _ _ _ _ a b).symm⟩
                          case round =>
                            obtain ⟨j, rfl, hj, h⟩ := hrel
                            have HE := Lib.hid h
                            clear h
                            obtain ⟨we, rfl⟩ : ∃ we : World, we = wr := ⟨_, rfl⟩
                            obtain ⟨⟨a0, a1, a2⟩, _⟩ := HE.out.ws.cells (.head _)
                            by_cases hjC : j < C
                            · have hj1 : (j : Int) < (C : Int) := by omega
                              have HJ := Lib.hid hjC
                              have hnj : IntKind.i64.wrap ((j : Int) + 1) = ((j + 1 : Nat) : Int) := by have h9 := HN.out; rw [IntWalk.i64_in _ (by omega)]; omega
                              have hpl5 := idx_lt (c := C) HI.out HJ.out
                              obtain ⟨p5, hp5⟩ : ∃ p, i * C + j = p := ⟨_, rfl⟩
                              have HP5 := Lib.hid hp5
                              have hsz5 : r * C ≤ 100 * 300 := Nat.mul_le_mul HN.out.1 HN.out.2.1
                              have hwa5 : IntKind.i64.wrap ((i : Int) * (C : Int)) = ((i * C : Nat) : Int) := by rw [show (i : Int) * (C : Int) = ((i * C : Nat) : Int) by simp, IntWalk.i64_in _ (by omega)]
                              obtain ⟨q5, hq5⟩ : ∃ q, i * C = q := ⟨_, rfl⟩
                              rw [hq5] at hwa5 hp5 hpl5
                              have hwb5 : IntKind.i64.wrap ((q5 : Int) + (j : Int)) = (p5 : Int) := by rw [IntWalk.i64_in _ (by omega)]; omega
                              have hp05 : (0 : Int) ≤ (p5 : Int) := by omega
                              have hp25 : (p5 : Int) < (r : Int) * (C : Int) := by rw [show (r : Int) * (C : Int) = ((r * C : Nat) : Int) by simp]; omega
                              clear hpl5 hsz5 hq5 hp5
                              have hpl6 := idx_lt (c := C) HAR.out HJ.out
                              obtain ⟨p6, hp6⟩ : ∃ p, at_ * C + j = p := ⟨_, rfl⟩
                              have HP6 := Lib.hid hp6
                              have hsz6 : r * C ≤ 100 * 300 := Nat.mul_le_mul HN.out.1 HN.out.2.1
                              have hwa6 : IntKind.i64.wrap ((at_ : Int) * (C : Int)) = ((at_ * C : Nat) : Int) := by rw [show (at_ : Int) * (C : Int) = ((at_ * C : Nat) : Int) by simp, IntWalk.i64_in _ (by omega)]
                              obtain ⟨q6, hq6⟩ : ∃ q, at_ * C = q := ⟨_, rfl⟩
                              rw [hq6] at hwa6 hp6 hpl6
                              have hwb6 : IntKind.i64.wrap ((q6 : Int) + (j : Int)) = (p6 : Int) := by rw [IntWalk.i64_in _ (by omega)]; omega
                              have hp06 : (0 : Int) ≤ (p6 : Int) := by omega
                              have hp26 : (p6 : Int) < (r : Int) * (C : Int) := by rw [show (r : Int) * (C : Int) = ((r * C : Nat) : Int) by simp]; omega
                              clear hpl6 hsz6 hq6 hp6
                              obtain ⟨x5, hx5⟩ : ∃ x, el2 (fun i => (scaleM (swapM s.A at_ f) at_ v) i k) (scaleM (swapM s.A at_ f) at_ v) at_ i j i j = x := ⟨_, rfl⟩
                              obtain ⟨x6, hx6⟩ : ∃ x, el2 (fun i => (scaleM (swapM s.A at_ f) at_ v) i k) (scaleM (swapM s.A at_ f) at_ v) at_ i j at_ j = x := ⟨_, rfl⟩
                              have HED := Lib.hid HE.out.drew
                              have HX5 := Lib.hid (HED.out.ws.row.at2 HI.out HJ.out HP5.out hx5)
                              have HX6 := Lib.hid (HED.out.ws.row.at2 HAR.out HJ.out HP6.out hx6)
                              have HXE := Lib.hid (And.intro hx5 hx6)
                              have hxor := Mx_xor8 x5 (mul z x6)
                              clear hx5 hx6
                              go_wp2_with fail
                              clear a0 a1 a2
                              refine wp_region_noPanic ?_
                              refine wp_heldG (fun w' => (w'.cell? ⟨gm, 0, none⟩ = some (.int .i64 (r : Int)) ∧ w'.cell? ⟨gm, 1, none⟩ = some (.int .i64 (C : Int)) ∧ w'.cell? ⟨gm, 2, none⟩ = some (.slice (some ⟨g, 0, none⟩) (r * C) (r * C))) ∧ w'.cell? ⟨g, p5, none⟩ = some (.int .u8 (x5.toNat : Int)) ∧ w'.cell? ⟨g, p6, none⟩ = some (.int .u8 (x6.toNat : Int))) [32] (by kernel_rfl) ?hs0 ?rg0
                              case hs0 =>
                                exact ⟨(HED.out.ws.cells (.head _)).1, HX5.out.1, HX6.out.1⟩
                              case rg0 =>
                              intro hHeld
                              refine puG 0 ⟨some 142, .fieldAddr 38 (.tmp 6) 2, 0, _, #[], none⟩ (v := ?_) ?_ (fun _ => by assumption) ?_
                              rotate_left
                              · intro w hSw
                                try dsimp only at hSw
                                go_simp
                                try with_reducible rfl
                              try simp only [Act.put, List.setIfInBounds_toArray, List.set_cons_zero, List.set_cons_succ]
                              refine tkG 1 ⟨some 143, .load 22 (.tmp 142), 22, _, #[⟨0, .data⟩], none⟩ (v := ?_) ?_ (by assumption) ?_
                              rotate_left
                              · intro w hSw
                                try dsimp only at hSw
                                obtain ⟨⟨k0, k1, k2⟩, t0, t1⟩ := hSw
                                go_simp
                                try with_reducible rfl
                              try simp only [Act.put, List.setIfInBounds_toArray, List.set_cons_zero, List.set_cons_succ]
                              refine puG 2 ⟨some 144, .move (.tmp 15), 3, _, #[], none⟩ (v := ?_) ?_ (fun _ => by assumption) ?_
                              rotate_left
                              · intro w hSw
                                try dsimp only at hSw
                                go_simp
                                try with_reducible rfl
                              try simp only [Act.put, List.setIfInBounds_toArray, List.set_cons_zero, List.set_cons_succ]
                              refine puG 3 ⟨some 145, .fieldAddr 38 (.tmp 6) 1, 0, _, #[], none⟩ (v := ?_) ?_ (fun _ => by assumption) ?_
                              rotate_left
                              · intro w hSw
                                try dsimp only at hSw
                                go_simp
                                try with_reducible rfl
                              try simp only [Act.put, List.setIfInBounds_toArray, List.set_cons_zero, List.set_cons_succ]
                              refine tkG 4 ⟨some 146, .load 3 (.tmp 145), 3, _, #[⟨3, .data⟩], none⟩ (v := ?_) ?_ (by assumption) ?_
                              rotate_left
                              · intro w hSw
                                try dsimp only at hSw
                                obtain ⟨⟨k0, k1, k2⟩, t0, t1⟩ := hSw
                                go_simp
                                try with_reducible rfl
                              try simp only [Act.put, List.setIfInBounds_toArray, List.set_cons_zero, List.set_cons_succ]
                              refine puG 5 ⟨some 147, .binOp BinOp.mul 3 (.tmp 144) (.tmp 146) 3, 3, _, #[⟨2, .data⟩, ⟨4, .data⟩], none⟩ (v := ?_) ?_ (fun _ => by assumption) ?_
                              rotate_left
                              · intro w hSw
                                try dsimp only at hSw
                                go_simp
                                try with_reducible rfl
                              try simp only [Act.put, List.setIfInBounds_toArray, List.set_cons_zero, List.set_cons_succ]
                              refine puG 6 ⟨some 148, .move (.tmp 17), 3, _, #[], none⟩ (v := ?_) ?_ (fun _ => by assumption) ?_
                              rotate_left
                              · intro w hSw
                                try dsimp only at hSw
                                go_simp
                                try with_reducible rfl
                              try simp only [Act.put, List.setIfInBounds_toArray, List.set_cons_zero, List.set_cons_succ]
                              refine puG 7 ⟨some 149, .binOp BinOp.add 3 (.tmp 147) (.tmp 148) 3, 3, _, #[⟨5, .data⟩, ⟨6, .data⟩], none⟩ (v := ?_) ?_ (fun _ => by assumption) ?_
                              rotate_left
                              · intro w hSw
                                try dsimp only at hSw
                                go_simp
                                try with_reducible rfl
                              try simp only [Act.put, List.setIfInBounds_toArray, List.set_cons_zero, List.set_cons_succ]
                              refine puG 8 ⟨some 150, .fieldAddr 38 (.tmp 6) 2, 0, _, #[], none⟩ (v := ?_) ?_ (fun _ => by assumption) ?_
                              rotate_left
                              · intro w hSw
                                try dsimp only at hSw
                                go_simp
                                try with_reducible rfl
                              try simp only [Act.put, List.setIfInBounds_toArray, List.set_cons_zero, List.set_cons_succ]
                              refine tkG 9 ⟨some 151, .load 22 (.tmp 150), 22, _, #[⟨8, .data⟩], none⟩ (v := ?_) ?_ (by assumption) ?_
                              rotate_left
                              · intro w hSw
                                try dsimp only at hSw
                                obtain ⟨⟨k0, k1, k2⟩, t0, t1⟩ := hSw
                                go_simp
                                try with_reducible rfl
                              try simp only [Act.put, List.setIfInBounds_toArray, List.set_cons_zero, List.set_cons_succ]
                              refine puG 10 ⟨some 152, .move (.tmp 15), 3, _, #[], none⟩ (v := ?_) ?_ (fun _ => by assumption) ?_
                              rotate_left
                              · intro w hSw
                                try dsimp only at hSw
                                go_simp
                                try with_reducible rfl
                              try simp only [Act.put, List.setIfInBounds_toArray, List.set_cons_zero, List.set_cons_succ]
                              refine puG 11 ⟨some 153, .fieldAddr 38 (.tmp 6) 1, 0, _, #[], none⟩ (v := ?_) ?_ (fun _ => by assumption) ?_
                              rotate_left
                              · intro w hSw
                                try dsimp only at hSw
                                go_simp
                                try with_reducible rfl
                              try simp only [Act.put, List.setIfInBounds_toArray, List.set_cons_zero, List.set_cons_succ]
                              refine tkG 12 ⟨some 154, .load 3 (.tmp 153), 3, _, #[⟨11, .data⟩], none⟩ (v := ?_) ?_ (by assumption) ?_
                              rotate_left
                              · intro w hSw
                                try dsimp only at hSw
                                obtain ⟨⟨k0, k1, k2⟩, t0, t1⟩ := hSw
                                go_simp
                                try with_reducible rfl
                              try simp only [Act.put, List.setIfInBounds_toArray, List.set_cons_zero, List.set_cons_succ]
                              refine puG 13 ⟨some 155, .binOp BinOp.mul 3 (.tmp 152) (.tmp 154) 3, 3, _, #[⟨10, .data⟩, ⟨12, .data⟩], none⟩ (v := ?_) ?_ (fun _ => by assumption) ?_
                              rotate_left
                              · intro w hSw
                                try dsimp only at hSw
                                go_simp
                                try with_reducible rfl
                              try simp only [Act.put, List.setIfInBounds_toArray, List.set_cons_zero, List.set_cons_succ]
                              refine puG 14 ⟨some 156, .move (.tmp 17), 3, _, #[], none⟩ (v := ?_) ?_ (fun _ => by assumption) ?_
                              rotate_left
                              · intro w hSw
                                try dsimp only at hSw
                                go_simp
                                try with_reducible rfl
                              try simp only [Act.put, List.setIfInBounds_toArray, List.set_cons_zero, List.set_cons_succ]
                              refine puG 15 ⟨some 157, .binOp BinOp.add 3 (.tmp 155) (.tmp 156) 3, 3, _, #[⟨13, .data⟩, ⟨14, .data⟩], none⟩ (v := ?_) ?_ (fun _ => by assumption) ?_
                              rotate_left
                              · intro w hSw
                                try dsimp only at hSw
                                go_simp
                                try with_reducible rfl
                              try simp only [Act.put, List.setIfInBounds_toArray, List.set_cons_zero, List.set_cons_succ]
                              refine puG 16 ⟨some 158, .indexAddr 22 (.tmp 151) (.tmp 157), 0, _, #[⟨9, .data⟩, ⟨15, .data⟩], none⟩ (v := ?_) ?_ (fun _ => by assumption) ?_
                              rotate_left
                              · intro w hSw
                                try dsimp only at hSw
                                go_simp
                                try with_reducible rfl
                              try simp only [Act.put, List.setIfInBounds_toArray, List.set_cons_zero, List.set_cons_succ]
                              refine tkG 17 ⟨some 159, .load 5 (.tmp 158), 5, _, #[⟨16, .data⟩], none⟩ (v := ?_) ?_ (by assumption) ?_
                              rotate_left
                              · intro w hSw
                                try dsimp only at hSw
                                obtain ⟨⟨k0, k1, k2⟩, t0, t1⟩ := hSw
                                go_simp
                                try with_reducible rfl
                              try simp only [Act.put, List.setIfInBounds_toArray, List.set_cons_zero, List.set_cons_succ]
                              refine puG 18 ⟨some 160, .move (.tmp 16), 5, _, #[], none⟩ (v := ?_) ?_ (fun _ => by assumption) ?_
                              rotate_left
                              · intro w hSw
                                try dsimp only at hSw
                                go_simp
                                try with_reducible rfl
                              try simp only [Act.put, List.setIfInBounds_toArray, List.set_cons_zero, List.set_cons_succ]
                              refine puG 19 ⟨some 161, .fieldAddr 38 (.tmp 6) 2, 0, _, #[], none⟩ (v := ?_) ?_ (fun _ => by assumption) ?_
                              rotate_left
                              · intro w hSw
                                try dsimp only at hSw
                                go_simp
                                try with_reducible rfl
                              try simp only [Act.put, List.setIfInBounds_toArray, List.set_cons_zero, List.set_cons_succ]
                              refine tkG 20 ⟨some 162, .load 22 (.tmp 161), 22, _, #[⟨19, .data⟩], none⟩ (v := ?_) ?_ (by assumption) ?_
                              rotate_left
                              · intro w hSw
                                try dsimp only at hSw
                                obtain ⟨⟨k0, k1, k2⟩, t0, t1⟩ := hSw
                                go_simp
                                try with_reducible rfl
                              try simp only [Act.put, List.setIfInBounds_toArray, List.set_cons_zero, List.set_cons_succ]
                              refine puG 21 ⟨some 163, .move (.tmp 10), 3, _, #[], none⟩ (v := ?_) ?_ (fun _ => by assumption) ?_
                              rotate_left
                              · intro w hSw
                                try dsimp only at hSw
                                go_simp
                                try with_reducible rfl
                              try simp only [Act.put, List.setIfInBounds_toArray, List.set_cons_zero, List.set_cons_succ]
                              refine puG 22 ⟨some 164, .fieldAddr 38 (.tmp 6) 1, 0, _, #[], none⟩ (v := ?_) ?_ (fun _ => by assumption) ?_
                              rotate_left
                              · intro w hSw
                                try dsimp only at hSw
                                go_simp
                                try with_reducible rfl
                              try simp only [Act.put, List.setIfInBounds_toArray, List.set_cons_zero, List.set_cons_succ]
                              refine tkG 23 ⟨some 165, .load 3 (.tmp 164), 3, _, #[⟨22, .data⟩], none⟩ (v := ?_) ?_ (by assumption) ?_
                              rotate_left
                              · intro w hSw
                                try dsimp only at hSw
                                obtain ⟨⟨k0, k1, k2⟩, t0, t1⟩ := hSw
                                go_simp
                                try with_reducible rfl
                              try simp only [Act.put, List.setIfInBounds_toArray, List.set_cons_zero, List.set_cons_succ]
                              refine puG 24 ⟨some 166, .binOp BinOp.mul 3 (.tmp 163) (.tmp 165) 3, 3, _, #[⟨21, .data⟩, ⟨23, .data⟩], none⟩ (v := ?_) ?_ (fun _ => by assumption) ?_
                              rotate_left
                              · intro w hSw
                                try dsimp only at hSw
                                go_simp
                                try with_reducible rfl
                              try simp only [Act.put, List.setIfInBounds_toArray, List.set_cons_zero, List.set_cons_succ]
                              refine puG 25 ⟨some 167, .move (.tmp 17), 3, _, #[], none⟩ (v := ?_) ?_ (fun _ => by assumption) ?_
                              rotate_left
                              · intro w hSw
                                try dsimp only at hSw
                                go_simp
                                try with_reducible rfl
                              try simp only [Act.put, List.setIfInBounds_toArray, List.set_cons_zero, List.set_cons_succ]
                              refine puG 26 ⟨some 168, .binOp BinOp.add 3 (.tmp 166) (.tmp 167) 3, 3, _, #[⟨24, .data⟩, ⟨25, .data⟩], none⟩ (v := ?_) ?_ (fun _ => by assumption) ?_
                              rotate_left
                              · intro w hSw
                                try dsimp only at hSw
                                go_simp
                                try with_reducible rfl
                              try simp only [Act.put, List.setIfInBounds_toArray, List.set_cons_zero, List.set_cons_succ]
                              refine puG 27 ⟨some 169, .indexAddr 22 (.tmp 162) (.tmp 168), 0, _, #[⟨20, .data⟩, ⟨26, .data⟩], none⟩ (v := ?_) ?_ (fun _ => by assumption) ?_
                              rotate_left
                              · intro w hSw
                                try dsimp only at hSw
                                go_simp
                                try with_reducible rfl
                              try simp only [Act.put, List.setIfInBounds_toArray, List.set_cons_zero, List.set_cons_succ]
                              refine tkG 28 ⟨some 170, .load 5 (.tmp 169), 5, _, #[⟨27, .data⟩], none⟩ (v := ?_) ?_ (by assumption) ?_
                              rotate_left
                              · intro w hSw
                                try dsimp only at hSw
                                obtain ⟨⟨k0, k1, k2⟩, t0, t1⟩ := hSw
                                go_simp
                                try with_reducible rfl
                              try simp only [Act.put, List.setIfInBounds_toArray, List.set_cons_zero, List.set_cons_succ]
                              refine onG 29 ⟨some 171, .call { callee := Callee.value (Operand.func 51), args := #[.tmp 160, .tmp 170], argTypes := #[5, 5] }, 5, _, #[⟨18, .data⟩, ⟨28, .data⟩], none⟩ (fun K hK => ?_)
                              go_simp
                              refine (refMul_any _ _ z x6 rfl rfl _).mono ?_
                              rintro e w' ⟨rfl, rfl⟩
                              try dsimp only
                              refine hK.out _ _ ?_ (fun hHeld => ?_)
                              · intro _
                                try dsimp only
                                exact hHeld
                              clear hK K
                              try simp only [Act.put, List.setIfInBounds_toArray, List.set_cons_zero, List.set_cons_succ]
                              have hHeld := hHeld (by kernel_rfl)
                              refine puG 30 ⟨some 172, .binOp BinOp.xor 5 (.tmp 159) (.tmp 171) 5, 5, _, #[⟨17, .data⟩, ⟨29, .data⟩], none⟩ (v := ?_) ?_ (fun _ => by assumption) ?_
                              rotate_left
                              · intro w hSw
                                try dsimp only at hSw
                                go_simp
                                try with_reducible rfl
                              try simp only [Act.put, List.setIfInBounds_toArray, List.set_cons_zero, List.set_cons_succ]
                              refine puG 31 ⟨some 173, .indexAddr 22 (.tmp 143) (.tmp 149), 0, _, #[⟨1, .data⟩, ⟨7, .data⟩, ⟨0, .phase⟩, ⟨1, .phase⟩, ⟨2, .phase⟩, ⟨3, .phase⟩, ⟨4, .phase⟩, ⟨5, .phase⟩, ⟨6, .phase⟩, ⟨7, .phase⟩, ⟨8, .phase⟩, ⟨9, .phase⟩, ⟨10, .phase⟩, ⟨11, .phase⟩, ⟨12, .phase⟩, ⟨13, .phase⟩, ⟨14, .phase⟩, ⟨15, .phase⟩, ⟨16, .phase⟩, ⟨17, .phase⟩, ⟨18, .phase⟩, ⟨19, .phase⟩, ⟨20, .phase⟩, ⟨21, .phase⟩, ⟨22, .phase⟩, ⟨23, .phase⟩, ⟨24, .phase⟩, ⟨25, .phase⟩, ⟨26, .phase⟩, ⟨27, .phase⟩, ⟨28, .phase⟩, ⟨29, .phase⟩, ⟨30, .phase⟩], none⟩ (v := ?_) ?_ (fun _ => by assumption) ?_
                              rotate_left
                              · intro w hSw
                                try dsimp only at hSw
                                go_simp
                                try with_reducible rfl
                              try simp only [Act.put, List.setIfInBounds_toArray, List.set_cons_zero, List.set_cons_succ]
                              refine onG 32 ⟨none, .store 5 (.tmp 173) (.tmp 172), 0, _, #[⟨31, .data⟩, ⟨30, .data⟩, ⟨29, .chain⟩, ⟨0, .phase⟩, ⟨1, .phase⟩, ⟨2, .phase⟩, ⟨3, .phase⟩, ⟨4, .phase⟩, ⟨5, .phase⟩, ⟨6, .phase⟩, ⟨7, .phase⟩, ⟨8, .phase⟩, ⟨9, .phase⟩, ⟨10, .phase⟩, ⟨11, .phase⟩, ⟨12, .phase⟩, ⟨13, .phase⟩, ⟨14, .phase⟩, ⟨15, .phase⟩, ⟨16, .phase⟩, ⟨17, .phase⟩, ⟨18, .phase⟩, ⟨19, .phase⟩, ⟨20, .phase⟩, ⟨21, .phase⟩, ⟨22, .phase⟩, ⟨23, .phase⟩, ⟨24, .phase⟩, ⟨25, .phase⟩, ⟨26, .phase⟩, ⟨27, .phase⟩, ⟨28, .phase⟩, ⟨29, .phase⟩, ⟨30, .phase⟩], none⟩ (fun K hK => ?_)
                              obtain ⟨s3, s4⟩ := HX5.out
                              go_simp
                              try dsimp only
                              refine hK.out _ _ ?_ (fun hHeld => ?_)
                              · exact fun h => (st_no (by kernel_rfl) h).elim
                              clear hK K
                              try simp only [Act.put, List.setIfInBounds_toArray, List.set_cons_zero, List.set_cons_succ]
                              clear hHeld
                              refine wpAnyG_done (by kernel_rfl) ?_ _
                              refine NoPanic.normal ?_
                              clear hHeld
                              have h7 := HE.out.set HI.out HJ.out (x5 ^^^ mul z x6)
                              rw [HP5.out] at h7
                              have H7 := Lib.hid (h7.keep (nextN (Mem.start _) 1))
                              clear h7
                              go_wp2_with fail
                              go_roundw
                              case rel =>
                                refine ⟨j + 1, by simp, HJ.out, H7.out.congr fun a _ b _ => ?_⟩
                                have h := el2_step (t := (fun i => (scaleM (swapM s.A at_ f) at_ v) i k)) (A := scaleM (swapM s.A at_ f) at_ v) (k := j) HIA.out a b
                                rw [HXE.out.1, HXE.out.2] at h
                                rw [HZ.out] at h
                                exact h
                              case measure => simp [intOf]; omega
                            · obtain rfl : C = j := by omega
                              go_wp2_with fail
                              go_roundw
                              case rel => exact ⟨i + 1, by simp, HI.out, HE.out.congr fun a _ b hb => el2_done HIA.out a b hb⟩
                              case measure => simp [intOf]; omega
                      · obtain rfl : r = i := by omega
                        have HNX := Lib.hid (show redTo r m m (k + 1) = ⟨at_ + 1, stepX s.A s.A at_ f k, stepX s.A s.B at_ f k⟩ from by
                          rw [HST.out]; unfold redStep
                          rw [HAE.out, HFI.out, if_pos HFR.out])
                        have H10 := Lib.hid (H9.out.congr (m' := stepX s.A s.A at_ f k) fun a ha b _ => by rw [elimUp_done _ _ _ ha, ← HV.out]; rfl)
                        obtain ⟨vs, hvs, ho⟩ := H10.out.bg
                        have HO := Lib.hid ho
                        have HVS := Lib.hid (show at_ = vs.length ∧ at_ ≤ 100 from ⟨hvs.symm, by have h9 := HN.out; have h8 := HAR.out; omega⟩)
                        clear ho hvs
                        have hb1 := Mx_buildI w9 (k : Int)
                        have HCO := Lib.hid (cells_one w9 (.int .i64 (k : Int)) 3 (w9.heap.size + 1) (by omega))
                        have HOA := Lib.hid (HO.out.keep (nextA (Mem.start w9) (.cells #[.int .i64 (k : Int)] 3)))
                        have HSZ := Lib.hid (show w.heap.size ≤ (w9.alloc (.cells #[.int .i64 (k : Int)] 3)).heap.size from by rw [World.size_alloc]; have := H10.out.ws.below.size; omega)
                        obtain ⟨i0, hi0, hz0, hz1, hz2⟩ := int_parts
                        go_wp2_with ((with_reducible show wpList _ _ _ ((⟨some 177, _, _, _, _, _⟩ : Oper) :: _) _ _); refine wpList_app _ rfl _ _ _ rfl w.heap.size 3 i0 _ 8 Try.underlying48 hi0 hz0 hz1 hz2 rfl L capL _ vs rfl HVS.out.1 HOA.out _ _ _ 1 [.int .i64 (k : Int)] rfl rfl HCO.out (by simp [Value.oneCell']) (by rw [← HVS.out.1]; have := HVS.out.2; simp [maxLen]; omega) (by rw [← HVS.out.1]; have := HVS.out.2; simp; omega) HSZ.out (at_ + 1) rfl ?_; intro A5 c5 w11 ho5 hb5 hg5 _; have H11 := Lib.hid (show RdS w [(gm, 38, mcells r C (some ⟨g, 0, none⟩) (r * C) (r * C)), (g0, 38, #[.int .i64 0, .int .i64 0, .slice none 0 0]), (ga, 38, mcells r C A n cap)] g r C (stepX s.A s.A at_ f k) A5 c5 (at_ + 1) w11 from RdS.grow (H10.out.keep (nextA (Mem.start w9) (.cells #[.int .i64 (k : Int)] 3))) HOA.out ho5 hb5 hg5 (by rw [List.length_append, ← HVS.out.1]; rfl)); clear ho5 hb5 hg5)
                        go_roundw
                        case rel =>
                          exact ⟨k + 1, A5, c5, by simp, by rw [HNX.out], HK.out, by rw [HNX.out]; exact H11.out⟩
                        case measure => simp [intOf]; omega
            · obtain rfl : f = r := by omega
              have HFI := Lib.hid (find_is (A := s.A) (r := f) (k := k) hf1 hz (fun h => absurd h (Nat.lt_irrefl _)) (Nat.le_refl _))
              have HNX := Lib.hid (show redTo f m m (k + 1) = s from by
                rw [HST.out]; unfold redStep
                rw [HAE.out, HFI.out, if_neg (Nat.lt_irrefl _)])
              clear hz
              go_wp2_with fail
              go_roundw
              case rel =>
                exact ⟨k + 1, L, capL, by simp, by rw [HNX.out, HAE.out], HK.out, by rw [HNX.out, HAE.out]; exact H6.out⟩
              case measure => simp [intOf]; omega
        · obtain rfl : k = cols := by omega
          obtain ⟨⟨c0, c1, c2⟩, _⟩ := H6.out.ws.cells (.head _)
          obtain ⟨⟨d0, d1, d2⟩, f0, f1, f2⟩ := H6.out.ws.cells (.tail _ (.head _))
          have hfin := H6.out.ws.end_ (.tail _ (.head _)) (.int .i64 (r : Int)) (.int .i64 (C : Int)) (.slice (some ⟨g, 0, none⟩) (r * C) (r * C))
          go_wp2_with fail
          obtain ⟨h1, h2, e0, e1, e2⟩ := hfin
          refine bodyPost_ret (v := .tuple #[.agg #[.int .i64 (r : Int), .int .i64 (C : Int), .slice (some ⟨g, 0, none⟩) (r * C) (r * C)], .slice L (redTo r m m k).at_ capL]) (by simp [results, Try.results54, go_sem, e0, e1, e2]) rfl ?_
          exact ⟨g, L, capL, rfl, h2, h1⟩
end Go.Proofs.Ythdapoipfnnaeaa.MxW
/- The document's Solve. -/
namespace Go.Proofs.Ythdapoipfnnaeaa.MxW
open Go.RowKit Go.Shelf Mem Gf FdW Mx Rng
open PlW (In)
set_option linter.unusedVariables false
set_option linter.unusedSectionVars false
attribute [local go_sem] Oper.semAt_some wide_fn

theorem newMx5 : NewRun Try.prog 38 #[.int .i64 0, .int .i64 0, .slice none 0 0] := fun w => by kernel_rfl
def RedR (w0 : World) (p : Option Nat) (R : List Rw) (X : List (Nat × Array Value)) (r c : Int) (n : Nat) (l : List UInt8) (t : Nat) (e : Ending) (w' : World) : Prop :=
  ∃ A cap L capL, e = .returned (.tuple #[.agg #[.int .i64 r, .int .i64 c, .slice A n cap], .slice L t capL]) ∧ n ≤ cap ∧ MS w0 p (⟨A, l, cap⟩ :: R) X w'
section
variable {w0 w : World} {p : Option Nat} {R : List Rw} {X : List (Nat × Array Value)}
variable (h : MS w0 p R X w)
include h
variable {A B : Option Addr} {a b : List UInt8} {ca cb n m r c d : Nat} {ma mb : M}
theorem besR (ha : ⟨A, a, ca⟩ ∈ R) (hb : ⟨B, b, cb⟩ ∈ R) (hA : a = flat r c ma) (hB : b = flat r d mb) (hd : r ≤ 100 ∧ c ≤ 100 ∧ d ≤ 100) (q : Nat) (hq : q = c + d) :
    Calls Try.prog 55 #[.agg #[.int .i64 (r : Int), .int .i64 (c : Int), .slice A n ca], .agg #[.int .i64 (r : Int), .int .i64 (d : Int), .slice B m cb]] w (MatO w0 p R X r q (r * q) (flat r q (besM c ma mb))) := by
  subst hA; subst hB; subst hq
  have k1 := (h.row _ ha).2.2; have k2 := (h.row _ hb).2.2
  dsimp only at k1 k2
  rw [flat_len] at k1 k2
  exact (rbeside_any w r c d A B n ca m cb ma mb hd ⟨k1, k2⟩ (h.row _ ha).1 (h.row _ hb).1).mono fun e w' k => newO h ⟨rfl, rfl, rfl⟩ rfl k
theorem redR (ha : ⟨A, a, ca⟩ ∈ R) (hA : a = flat r c ma) (hn : n = r * c) (hd : r ≤ 100 ∧ c ≤ 300) (cols : Nat) (hc : cols ≤ c) :
    Calls Try.prog 54 #[.agg #[.int .i64 (r : Int), .int .i64 (c : Int), .slice A n ca], .int .i64 (cols : Int)] w (RedR w0 p R X r c (r * c) (flat r c (redTo r ma ma cols).A) (redTo r ma ma cols).at_) := by
  subst hA
  exact (rreduced_any w r c cols A n ca ma hn hd hc (h.row _ ha).1).mono fun e w' ⟨g, L, capL, he, hnw, hb⟩ => ⟨_, _, L, capL, he, Nat.le_refl _, (h.keep hb).new hnw h.lt (by rw [flat_len]; exact Nat.le_refl _)⟩
end
/-- The result's box is written. -/
theorem MS.end_ {w0 w : World} {p : Option Nat} {R : List Rw} {X : List (Nat × Array Value)} (h : MS w0 p R X w) {b : Nat} {c0 c1 c2 : Value} (hy : (b, #[c0, c1, c2]) ∈ X) (hb : w0.heap.size ≤ b) (v0 v1 v2 : Value) :
    let w' := (((w.setCell ⟨b, 0, none⟩ v0).setCell ⟨b, 1, none⟩ v1).setCell ⟨b, 2, none⟩ v2)
    Below w0.heap.size w0 w' ∧ w'.cell? ⟨b, 0, none⟩ = some v0 ∧ w'.cell? ⟨b, 1, none⟩ = some v1 ∧ w'.cell? ⟨b, 2, none⟩ = some v2 := by
  obtain ⟨T, k⟩ := (h.box _ hy).1
  obtain ⟨h1, h2⟩ := set3 k v0 v1 v2
  exact ⟨h.below.trans (h2.below h.below.size fun k hk => by rw [hk]; exact hb), (cells3 h1).1⟩
set_option maxRecDepth 100000 in
set_option maxHeartbeats 4000000 in
theorem rsolve_bad1 (w : World) (R C R' C' : Int) (A A' : Option Addr) (n cap n' cap' : Nat) (hrt : rightB R C n = false) :
    Calls Try.prog 22 #[.agg #[.int .i64 R, .int .i64 C, .slice A n cap], .agg #[.int .i64 R', .int .i64 C', .slice A' n' cap']] w (ErrM w 50) := by
  have HRT := Lib.hid hrt
  have H0 := Lib.hid ((((MS.start w).putT #[.int .i64 R, .int .i64 C, .slice A n cap] 38).putT #[.int .i64 R', .int .i64 C', .slice A' n' cap'] 38).putT #[.int .i64 0, .int .i64 0, .slice none 0 0] 38)
  go_enter Try.func22, Try.ntmps22
  obtain ⟨a0, a1, a2⟩ := H0.out.cells (.tail _ (.tail _ (.head _)))
  go_wp2_with fail
  clear a0 a1 a2
  generalize ((w.alloc (.cells #[.int .i64 R, .int .i64 C, .slice A n cap] 38)).alloc (.cells #[.int .i64 R', .int .i64 C', .slice A' n' cap'] 38)).alloc (.cells #[.int .i64 0, .int .i64 0, .slice none 0 0] 38) = w1 at *
  simp only [World.size_alloc] at H0
  obtain ⟨ga, hga⟩ : ∃ x, w.heap.size = x := ⟨_, rfl⟩
  obtain ⟨gb, hgb⟩ : ∃ x, ga + 1 = x := ⟨_, rfl⟩
  obtain ⟨g0, hg0⟩ : ∃ x, gb + 1 = x := ⟨_, rfl⟩
  have HG := Lib.hid (show w.heap.size ≤ g0 from by omega)
  rw [hga, hgb, hg0] at H0 ⊢
  clear hga hgb hg0
  refine (rright_any w1 _ _ A n cap).mono ?_
  rintro e w2 ⟨rfl, hb⟩
  rw [HRT.out]
  have H2 := Lib.hid (H0.out.keep hb)
  clear hb H0
  obtain ⟨⟨d0, d1, d2⟩, f0, f1, f2⟩ := H2.out.blk (.head _)
  have hfin := H2.out.end_ (.head _) HG.out (.int .i64 0) (.int .i64 0) (.slice none 0 0)
  go_wp2_with fail
  obtain ⟨h1, e0, e1, e2⟩ := hfin
  exact bodyPost_ret (v := .tuple #[.agg #[.int .i64 0, .int .i64 0, .slice none 0 0], .int .i64 50]) (by simp [results, Try.results22, go_sem, e0, e1, e2]) rfl ⟨rfl, h1⟩
set_option maxRecDepth 100000 in
set_option maxHeartbeats 4000000 in
theorem rsolve_bad2 (w : World) (R C R' C' : Int) (A A' : Option Addr) (n cap n' cap' : Nat) (hrt : rightB R C n = true) (hrt2 : rightB R' C' n' = false) :
    Calls Try.prog 22 #[.agg #[.int .i64 R, .int .i64 C, .slice A n cap], .agg #[.int .i64 R', .int .i64 C', .slice A' n' cap']] w (ErrM w 50) := by
  have HRT := Lib.hid hrt
  have HRT2 := Lib.hid hrt2
  have H0 := Lib.hid ((((MS.start w).putT #[.int .i64 R, .int .i64 C, .slice A n cap] 38).putT #[.int .i64 R', .int .i64 C', .slice A' n' cap'] 38).putT #[.int .i64 0, .int .i64 0, .slice none 0 0] 38)
  go_enter Try.func22, Try.ntmps22
  obtain ⟨a0, a1, a2⟩ := H0.out.cells (.tail _ (.tail _ (.head _)))
  go_wp2_with fail
  clear a0 a1 a2
  generalize ((w.alloc (.cells #[.int .i64 R, .int .i64 C, .slice A n cap] 38)).alloc (.cells #[.int .i64 R', .int .i64 C', .slice A' n' cap'] 38)).alloc (.cells #[.int .i64 0, .int .i64 0, .slice none 0 0] 38) = w1 at *
  simp only [World.size_alloc] at H0
  obtain ⟨ga, hga⟩ : ∃ x, w.heap.size = x := ⟨_, rfl⟩
  obtain ⟨gb, hgb⟩ : ∃ x, ga + 1 = x := ⟨_, rfl⟩
  obtain ⟨g0, hg0⟩ : ∃ x, gb + 1 = x := ⟨_, rfl⟩
  have HG := Lib.hid (show w.heap.size ≤ g0 from by omega)
  rw [hga, hgb, hg0] at H0 ⊢
  clear hga hgb hg0
  refine (rright_any w1 _ _ A n cap).mono ?_
  rintro e w2 ⟨rfl, hb⟩
  rw [HRT.out]
  have H2 := Lib.hid (H0.out.keep hb)
  clear hb H0
  obtain ⟨b0, b1, b2⟩ := H2.out.cells (.tail _ (.head _))
  go_wp2_with fail
  clear b0 b1 b2
  refine (rright_any w2 _ _ A' n' cap').mono ?_
  rintro e w3 ⟨rfl, hb⟩
  rw [HRT2.out]
  have H3 := Lib.hid (H2.out.keep hb)
  clear hb H2
  obtain ⟨⟨d0, d1, d2⟩, f0, f1, f2⟩ := H3.out.blk (.head _)
  have hfin := H3.out.end_ (.head _) HG.out (.int .i64 0) (.int .i64 0) (.slice none 0 0)
  go_wp2_with fail
  obtain ⟨h1, e0, e1, e2⟩ := hfin
  exact bodyPost_ret (v := .tuple #[.agg #[.int .i64 0, .int .i64 0, .slice none 0 0], .int .i64 50]) (by simp [results, Try.results22, go_sem, e0, e1, e2]) rfl ⟨rfl, h1⟩
set_option maxRecDepth 100000 in
set_option maxHeartbeats 4000000 in
theorem rsolve_bad3 (w : World) (R C R' C' : Int) (A A' : Option Addr) (n cap n' cap' : Nat) (hrt : rightB R C n = true) (hrt2 : rightB R' C' n' = true) (hne : (R != R') = true) :
    Calls Try.prog 22 #[.agg #[.int .i64 R, .int .i64 C, .slice A n cap], .agg #[.int .i64 R', .int .i64 C', .slice A' n' cap']] w (ErrM w 50) := by
  have HRT := Lib.hid hrt
  have HRT2 := Lib.hid hrt2
  have H0 := Lib.hid ((((MS.start w).putT #[.int .i64 R, .int .i64 C, .slice A n cap] 38).putT #[.int .i64 R', .int .i64 C', .slice A' n' cap'] 38).putT #[.int .i64 0, .int .i64 0, .slice none 0 0] 38)
  go_enter Try.func22, Try.ntmps22
  obtain ⟨a0, a1, a2⟩ := H0.out.cells (.tail _ (.tail _ (.head _)))
  go_wp2_with fail
  clear a0 a1 a2
  generalize ((w.alloc (.cells #[.int .i64 R, .int .i64 C, .slice A n cap] 38)).alloc (.cells #[.int .i64 R', .int .i64 C', .slice A' n' cap'] 38)).alloc (.cells #[.int .i64 0, .int .i64 0, .slice none 0 0] 38) = w1 at *
  simp only [World.size_alloc] at H0
  obtain ⟨ga, hga⟩ : ∃ x, w.heap.size = x := ⟨_, rfl⟩
  obtain ⟨gb, hgb⟩ : ∃ x, ga + 1 = x := ⟨_, rfl⟩
  obtain ⟨g0, hg0⟩ : ∃ x, gb + 1 = x := ⟨_, rfl⟩
  have HG := Lib.hid (show w.heap.size ≤ g0 from by omega)
  rw [hga, hgb, hg0] at H0 ⊢
  clear hga hgb hg0
  refine (rright_any w1 _ _ A n cap).mono ?_
  rintro e w2 ⟨rfl, hb⟩
  rw [HRT.out]
  have H2 := Lib.hid (H0.out.keep hb)
  clear hb H0
  obtain ⟨b0, b1, b2⟩ := H2.out.cells (.tail _ (.head _))
  go_wp2_with fail
  clear b0 b1 b2
  refine (rright_any w2 _ _ A' n' cap').mono ?_
  rintro e w3 ⟨rfl, hb⟩
  rw [HRT2.out]
  have H3 := Lib.hid (H2.out.keep hb)
  clear hb H2
  obtain ⟨a0, a1, a2⟩ := H3.out.cells (.tail _ (.tail _ (.head _)))
  obtain ⟨b0, b1, b2⟩ := H3.out.cells (.tail _ (.head _))
  obtain ⟨⟨d0, d1, d2⟩, f0, f1, f2⟩ := H3.out.blk (.head _)
  have hfin := H3.out.end_ (.head _) HG.out (.int .i64 0) (.int .i64 0) (.slice none 0 0)
  go_wp2_with fail
  obtain ⟨h1, e0, e1, e2⟩ := hfin
  exact bodyPost_ret (v := .tuple #[.agg #[.int .i64 0, .int .i64 0, .slice none 0 0], .int .i64 50]) (by simp [results, Try.results22, go_sem, e0, e1, e2]) rfl ⟨rfl, h1⟩
theorem rsolve_bad (w : World) (R C R' C' : Int) (A A' : Option Addr) (n cap n' cap' : Nat) (h : solB R C n R' C' n' = false) :
    Calls Try.prog 22 #[.agg #[.int .i64 R, .int .i64 C, .slice A n cap], .agg #[.int .i64 R', .int .i64 C', .slice A' n' cap']] w (ErrM w 50) := by
  cases h1 : rightB R C n with
  | false => exact rsolve_bad1 w R C R' C' A A' n cap n' cap' h1
  | true =>
    cases h2 : rightB R' C' n' with
    | false => exact rsolve_bad2 w R C R' C' A A' n cap n' cap' h1 h2
    | true =>
      refine rsolve_bad3 w R C R' C' A A' n cap n' cap' h1 h2 ?_
      unfold solB at h
      rw [h1, h2] at h
      simpa [bne] using h
theorem bes_cut {r c d i : Nat} (a b : M) (hi : i < r) : ((flat r (c + d) (besM c a b)).drop (i * (c + d) + c)).take d = row d (b i) := by
  apply List.ext_getElem?
  intro k
  by_cases hk : k < d
  · rw [List.getElem?_take, if_pos hk, List.getElem?_drop, Nat.add_assoc, flat_get hi (by omega), row_get hk]
    unfold besM
    rw [if_neg (by omega), Nat.add_sub_cancel_left]
  · rw [List.getElem?_take, if_neg hk, List.getElem?_eq_none (by rw [row_len]; omega)]
def SolvOk (w : World) (c d : Nat) (m : M) (ok : Bool) (e : Ending) (w' : World) : Prop := (ok = true → NewT w c d m e w') ∧ (ok = false → ErrM w 51 e w')
theorem solves_iff {r c d : Nat} {a b : M} : solves r c d a b = true ↔ (redTo r a b c).at_ = c ∧ ∀ i, c ≤ i → i < r → ∀ k, k < d → (redTo r a b c).B i k = 0 := by
  unfold solves
  rw [Bool.and_eq_true, decide_eq_true_iff, Bool.not_eq_true', drop_zero]
set_option maxRecDepth 100000 in
set_option maxHeartbeats 4000000 in
theorem rsolve_any (w : World) (r c d : Nat) (A A' : Option Addr) (n cap n' cap' : Nat) (a b : M) (hn : n = r * c) (hn' : n' = r * d) (hcap : n ≤ cap ∧ n' ≤ cap') (hd : r ≤ 100 ∧ c ≤ 100 ∧ d ≤ 100) (hA : Bytes w w.heap.size A (flat r c a)) (hB : Bytes w w.heap.size A' (flat r d b)) :
    Calls Try.prog 22 #[.agg #[.int .i64 (r : Int), .int .i64 (c : Int), .slice A n cap], .agg #[.int .i64 (r : Int), .int .i64 (d : Int), .slice A' n' cap']] w (SolvOk w c d (redTo r a b c).B (solves r c d a b)) := by
  obtain ⟨i0, hi0, hz0, hz1, hz2⟩ := info_parts u8info
  have HI0 := Lib.hid (And.intro hi0 (And.intro hz0 (And.intro hz1 hz2)))
  clear hi0 hz0 hz1 hz2
  obtain ⟨q, hq⟩ : ∃ q, q = c + d := ⟨_, rfl⟩
  obtain ⟨st, hst⟩ : ∃ s, redTo r a b c = s := ⟨_, rfl⟩
  have HST := Lib.hid hst
  have HRD := Lib.hid (show (redTo r (besM c a b) (besM c a b) c).at_ = st.at_ ∧ (redTo r (besM c a b) (besM c a b) c).A = besM c st.A st.B from by rw [← hst]; exact bes_red r a b c (Nat.le_refl _))
  have HN := Lib.hid (And.intro hd.1 (And.intro hd.2.1 (And.intro hd.2.2 (And.intro hq (And.intro hn hn')))))
  have HRT := Lib.hid (show rightB (r : Int) (c : Int) n = true from right_dim ⟨hd.1, hd.2.1⟩ hn)
  have HRT2 := Lib.hid (show rightB (r : Int) (d : Int) n' = true from right_dim ⟨hd.1, hd.2.2⟩ hn')
  have HR0 := Lib.hid (((MS.start w).arg hA (c := cap) (by rw [flat_len]; omega)).arg hB (c := cap') (by rw [flat_len]; omega))
  clear hst hq hn hn' hcap hd hA hB
  have H0 := Lib.hid (((HR0.out.putT #[.int .i64 (r : Int), .int .i64 (c : Int), .slice A n cap] 38).putT #[.int .i64 (r : Int), .int .i64 (d : Int), .slice A' n' cap'] 38).putT #[.int .i64 0, .int .i64 0, .slice none 0 0] 38)
  go_enter Try.func22, Try.ntmps22
  obtain ⟨a0, a1, a2⟩ := H0.out.cells (.tail _ (.tail _ (.head _)))
  go_wp2_with fail
  clear a0 a1 a2
  generalize ((w.alloc (.cells #[.int .i64 (r : Int), .int .i64 (c : Int), .slice A n cap] 38)).alloc (.cells #[.int .i64 (r : Int), .int .i64 (d : Int), .slice A' n' cap'] 38)).alloc (.cells #[.int .i64 0, .int .i64 0, .slice none 0 0] 38) = w1 at *
  simp only [World.size_alloc] at H0
  obtain ⟨ga, hga⟩ : ∃ x, w.heap.size = x := ⟨_, rfl⟩
  obtain ⟨gb, hgb⟩ : ∃ x, ga + 1 = x := ⟨_, rfl⟩
  obtain ⟨g0, hg0⟩ : ∃ x, gb + 1 = x := ⟨_, rfl⟩
  have HG := Lib.hid (show w.heap.size ≤ g0 from by omega)
  rw [hga, hgb, hg0] at H0 ⊢
  clear hga hgb hg0
  refine (rright_any w1 _ _ A n cap).mono ?_
  rintro e w2 ⟨rfl, hb⟩
  rw [HRT.out]
  have H2 := Lib.hid (H0.out.keep hb)
  clear hb H0
  obtain ⟨b0, b1, b2⟩ := H2.out.cells (.tail _ (.head _))
  go_wp2_with fail
  clear b0 b1 b2
  refine (rright_any w2 _ _ A' n' cap').mono ?_
  rintro e w3 ⟨rfl, hb⟩
  rw [HRT2.out]
  have H3 := Lib.hid (H2.out.keep hb)
  clear hb H2
  obtain ⟨a0, a1, a2⟩ := H3.out.cells (.tail _ (.tail _ (.head _)))
  obtain ⟨b0, b1, b2⟩ := H3.out.cells (.tail _ (.head _))
  go_wp2_with fail
  clear a0 a1 a2 b0 b1 b2
  refine wp_region_noPanic ?_
  refine wp_heldG (fun w' => (w'.cell? ⟨ga, 0, none⟩ = some (.int .i64 (r : Int)) ∧ w'.cell? ⟨ga, 1, none⟩ = some (.int .i64 (c : Int)) ∧ w'.cell? ⟨ga, 2, none⟩ = some (.slice A n cap)) ∧ (w'.cell? ⟨gb, 0, none⟩ = some (.int .i64 (r : Int)) ∧ w'.cell? ⟨gb, 1, none⟩ = some (.int .i64 (d : Int)) ∧ w'.cell? ⟨gb, 2, none⟩ = some (.slice A' n' cap'))) [10] (by kernel_rfl) ?hs0 ?rg0
  case hs0 =>
    have h := H3.out.keep (nextN (Mem.start w3) 1)
    exact ⟨h.cells (.tail _ (.tail _ (.head _))), h.cells (.tail _ (.head _))⟩
  case rg0 =>
  intro hHeld
  have HD10 := Lib.hid (show MS _ _ _ _ w3.drew from H3.out.keep (nextN (Mem.start w3) 1))
  generalize w3.drew = wd10 at *
  refine tkG 0 ⟨some 29, .load 38 (.tmp 2), 38, _, #[], none⟩ (v := ?_) ?_ (by assumption) ?_
  rotate_left
  · intro w hSw
    try dsimp only at hSw
    obtain ⟨⟨k0, k1, k2⟩, ⟨l0, l1, l2⟩⟩ := hSw
    go_simp
    try with_reducible rfl
  try simp only [Act.put, List.setIfInBounds_toArray, List.set_cons_zero, List.set_cons_succ]
  refine tkG 1 ⟨some 30, .load 38 (.tmp 3), 38, _, #[], none⟩ (v := ?_) ?_ (by assumption) ?_
  rotate_left
  · intro w hSw
    try dsimp only at hSw
    obtain ⟨⟨k0, k1, k2⟩, ⟨l0, l1, l2⟩⟩ := hSw
    go_simp
    try with_reducible rfl
  try simp only [Act.put, List.setIfInBounds_toArray, List.set_cons_zero, List.set_cons_succ]
  refine puG 3 ⟨some 32, .fieldAddr 38 (.tmp 2) 1, 0, _, #[], none⟩ (v := ?_) ?_ (fun _ => by assumption) ?_
  rotate_left
  · intro w hSw
    try dsimp only at hSw
    go_simp
    try with_reducible rfl
  try simp only [Act.put, List.setIfInBounds_toArray, List.set_cons_zero, List.set_cons_succ]
  refine tkG 4 ⟨some 33, .load 3 (.tmp 32), 3, _, #[⟨3, .data⟩], none⟩ (v := ?_) ?_ (by assumption) ?_
  rotate_left
  · intro w hSw
    try dsimp only at hSw
    obtain ⟨⟨k0, k1, k2⟩, ⟨l0, l1, l2⟩⟩ := hSw
    go_simp
    try with_reducible rfl
  try simp only [Act.put, List.setIfInBounds_toArray, List.set_cons_zero, List.set_cons_succ]
  refine wpAnyG_two (i := 2) (j := 9) (o := ⟨some 31, .call { callee := Callee.value (Operand.func 55), args := #[.tmp 29, .tmp 30], argTypes := #[38, 38] }, 38, _, #[⟨0, .data⟩, ⟨1, .data⟩], none⟩) (u := ⟨some 6, .alloc 38, 0, _, #[], none⟩) (by kernel_rfl) rfl rfl (fun K hK => ?_) (fun K hK => ?_)
  · skip
    go_simp
    refine (besR HD10.out (.tail _ (.head _)) (.head _) rfl rfl ⟨HN.out.1, HN.out.2.1, HN.out.2.2.1⟩ q HN.out.2.2.2.1).mono ?_
    rintro e w11 ⟨A11, c11, rfl, h⟩
    have H11 := Lib.hid h
    clear h
    try dsimp only
    refine hK.out _ _ ?_ (fun hHeld => ?_)
    · intro _
      try dsimp only
      have h := H11.out
      exact ⟨h.cells (.tail _ (.tail _ (.head _))), h.cells (.tail _ (.head _))⟩
    clear hK K
    try simp only [Act.put, List.setIfInBounds_toArray, List.set_cons_zero, List.set_cons_succ]
    have hHeld := hHeld (by kernel_rfl)
    refine wpAnyG_two (i := 5) (j := 9) (o := ⟨some 34, .call { callee := Callee.value (Operand.func 54), args := #[.tmp 31, .tmp 33], argTypes := #[38, 3] }, 93, _, #[⟨2, .data⟩, ⟨4, .data⟩, ⟨2, .chain⟩], none⟩) (u := ⟨some 6, .alloc 38, 0, _, #[], none⟩) (by kernel_rfl) rfl rfl (fun K hK => ?_) (fun K hK => ?_)
    · skip
      go_simp
      refine (redR H11.out (ma := besM c a b) (.head _) rfl rfl ⟨HN.out.1, by have := HN.out; omega⟩ c (by have := HN.out; omega)).mono ?_
      rintro e w12 ⟨A12, c12, L12, k12, rfl, hle, h⟩
      rw [HRD.out.1]
      rw [HRD.out.2] at h
      have H12 := Lib.hid h
      have HLE := Lib.hid hle
      clear h hle
      try dsimp only
      refine hK.out _ _ ?_ (fun hHeld => ?_)
      · intro _
        try dsimp only
        have h := H12.out
        exact ⟨h.cells (.tail _ (.tail _ (.head _))), h.cells (.tail _ (.head _))⟩
      clear hK K
      try simp only [Act.put, List.setIfInBounds_toArray, List.set_cons_zero, List.set_cons_succ]
      have hHeld := hHeld (by kernel_rfl)
      refine puG 6 ⟨some 28, .move (.tmp 34), 93, _, #[⟨5, .data⟩], none⟩ (v := ?_) ?_ (fun _ => by assumption) ?_
      rotate_left
      · intro w hSw
        try dsimp only at hSw
        go_simp
        try with_reducible rfl
      try simp only [Act.put, List.setIfInBounds_toArray, List.set_cons_zero, List.set_cons_succ]
      refine puG 7 ⟨some 35, .extract (.tmp 28) 0, 38, _, #[⟨6, .data⟩], none⟩ (v := ?_) ?_ (fun _ => by assumption) ?_
      rotate_left
      · intro w hSw
        try dsimp only at hSw
        go_simp
        try with_reducible rfl
      try simp only [Act.put, List.setIfInBounds_toArray, List.set_cons_zero, List.set_cons_succ]
      refine puG 8 ⟨some 36, .extract (.tmp 28) 1, 48, _, #[⟨6, .data⟩, { on := 10, ground := Ground.gcOnly Departure.lateStores }], none⟩ (v := ?_) ?_ (fun _ => by assumption) ?_
      rotate_left
      · intro w hSw
        try dsimp only at hSw
        go_simp
        try with_reducible rfl
      try simp only [Act.put, List.setIfInBounds_toArray, List.set_cons_zero, List.set_cons_succ]
      refine onG 9 ⟨some 6, .alloc 38, 0, _, #[], none⟩ (fun K hK => ?_)
      refine step_new (P := Try.prog) _ ⟨rfl, rfl, rfl⟩ newMx5 ?_
      have H13 := Lib.hid (H12.out.putT #[.int .i64 0, .int .i64 0, .slice none 0 0] 38)
      have HB13 := Lib.hid (And.intro H12.out.below.size H12.out.far)
      obtain ⟨g13, hg13⟩ : ∃ x, w12.heap.size = x := ⟨_, rfl⟩
      rw [hg13] at H13 HB13 ⊢
      clear hg13
      generalize w12.alloc (.cells #[.int .i64 0, .int .i64 0, .slice none 0 0] 38) = w13 at *
      try dsimp only
      refine hK.out _ _ ?_ (fun hHeld => ?_)
      · intro _
        try dsimp only
        have h := H13.out
        exact ⟨h.cells (.tail _ (.tail _ (.tail _ (.head _)))), h.cells (.tail _ (.tail _ (.head _)))⟩
      clear hK K
      try simp only [Act.put, List.setIfInBounds_toArray, List.set_cons_zero, List.set_cons_succ]
      have hHeld := hHeld (by kernel_rfl)
      refine onG 10 ⟨none, .store 38 (.tmp 6) (.tmp 35), 0, _, #[⟨9, .data⟩, ⟨7, .data⟩, ⟨5, .chain⟩, ⟨0, .phase⟩, ⟨1, .phase⟩, ⟨2, .phase⟩, ⟨3, .phase⟩, ⟨4, .phase⟩, ⟨5, .phase⟩, ⟨6, .phase⟩, ⟨7, .phase⟩, { on := 8, ground := Ground.textOnly Departure.lateStores }, ⟨9, .phase⟩], none⟩ (fun K hK => ?_)
      obtain ⟨⟨z0, z1, z2⟩, f0, f1, f2⟩ := H13.out.blk (.head _)
      go_simp
      have H14 := Lib.hid (H13.out.set HB13.out.1 HB13.out.2 (.int .i64 (r : Int)) (.int .i64 (q : Int)) (.slice A12 (r * q) c12))
      clear z0 z1 z2 f0 f1 f2 HB13
      generalize ((w13.setCell ⟨g13, 0, none⟩ (.int .i64 (r : Int))).setCell ⟨g13, 1, none⟩ (.int .i64 (q : Int))).setCell ⟨g13, 2, none⟩ (.slice A12 (r * q) c12) = w14 at *
      try dsimp only
      refine hK.out _ _ ?_ (fun hHeld => ?_)
      · exact fun h => (st_no (by kernel_rfl) h).elim
      clear hK K
      try simp only [Act.put, List.setIfInBounds_toArray, List.set_cons_zero, List.set_cons_succ]
      clear hHeld
      refine puG 11 ⟨some 7, .assign (.tmp 36), 48, _, #[⟨8, .data⟩, ⟨10, .chain⟩, ⟨0, .phase⟩, ⟨1, .phase⟩, ⟨2, .phase⟩, ⟨3, .phase⟩, ⟨4, .phase⟩, ⟨5, .phase⟩, ⟨6, .phase⟩, ⟨7, .phase⟩, ⟨8, .phase⟩, ⟨9, .phase⟩, ⟨10, .phase⟩], none⟩ (v := ?_) ?_ (fun h => (st_no (by kernel_rfl) h).elim) ?_
      rotate_left
      · intro w hSw
        try dsimp only at hSw
        go_simp
        try with_reducible rfl
      try simp only [Act.put, List.setIfInBounds_toArray, List.set_cons_zero, List.set_cons_succ]
      refine wpAnyG_done (by kernel_rfl) ?_ _
      refine NoPanic.normal ?_
      clear hHeld
      obtain ⟨a0, a1, a2⟩ := H14.out.cells (.tail _ (.tail _ (.tail _ (.head _))))
      by_cases htc : st.at_ < c
      · have HBAD := Lib.hid (show solves r c d a b = false from by
          cases h : solves r c d a b with
          | false => rfl
          | true => have h2 := (solves_iff.1 h).1; rw [HST.out] at h2; omega)
        have htc1 : (st.at_ : Int) < (c : Int) := by omega
        clear htc
        obtain ⟨⟨d0, d1, d2⟩, f0, f1, f2⟩ := H14.out.blk (.tail _ (.head _))
        have hfin := H14.out.end_ (.tail _ (.head _)) HG.out (.int .i64 0) (.int .i64 0) (.slice none 0 0)
        go_wp2_with fail
        obtain ⟨h1, e0, e1, e2⟩ := hfin
        refine bodyPost_ret (v := .tuple #[.agg #[.int .i64 0, .int .i64 0, .slice none 0 0], .int .i64 51]) (by simp [results, Try.results22, go_sem, e0, e1, e2]) rfl ?_
        exact ⟨fun h => (by rw [HBAD.out] at h; cases h), fun _ => ⟨rfl, h1⟩⟩
      · have HTC := Lib.hid (show st.at_ = c ∧ c ≤ r from by have h := redTo_at (A := a) (B := b) (r := r) c; rw [HST.out] at h; omega)
        have htc1 : ¬ (st.at_ : Int) < (c : Int) := by omega
        clear htc
        obtain ⟨b0, b1, b2⟩ := H14.out.cells (.tail _ (.tail _ (.head _)))
        have H5 := Lib.hid (AS.start (BS.start w14) (c : Int) (d : Int))
        go_wp2_with fail
        clear a0 a1 a2 b0 b1 b2 htc1
        obtain ⟨gx, hgx⟩ : ∃ x, w14.heap.size = x := ⟨_, rfl⟩
        rw [hgx] at H5 ⊢
        have HGX := Lib.hid hgx
        clear hgx
        generalize w14.alloc (.cells #[.int .i64 (c : Int), .int .i64 (d : Int), .slice none 0 0] 38) = w5 at *
        go_loopw [9] (fun x wr => ∃ (i : Nat) (A2 : Option Addr) (c2 : Nat), x = .int .i64 (i : Int) ∧ i ≤ r ∧ (∀ x, c ≤ x → x < i → ∀ k, k < d → st.B x k = 0) ∧ AS w14 [] gx (c : Int) (d : Int) A2 c2 (flat (min i c) d st.B) wr) (fun x _ => r - (intOf x).toNat)
        case atStart => exact ⟨0, none, 0, rfl, Nat.zero_le _, fun x h1 h2 => absurd h2 (Nat.not_lt_zero _), by rw [Nat.zero_min, flat_nil]; exact H5.out⟩
        case round =>
          obtain ⟨i, A2, c2, rfl, hi, hz, h⟩ := hrel
          have H6 := Lib.hid h
          have HZ := Lib.hid hz
          clear h hz H5
          obtain ⟨w6, rfl⟩ : ∃ w6 : World, w6 = wr := ⟨_, rfl⟩
          have HW := Lib.hid (H14.out.keep H6.out.bs.below)
          obtain ⟨m0, m1, m2⟩ := HW.out.cells (.head _)
          obtain ⟨a0, a1, a2⟩ := HW.out.cells (.tail _ (.tail _ (.tail _ (.head _))))
          by_cases hir : i < r
          · have hi1 : (i : Int) < (r : Int) := by omega
            have hi0 : (0 : Int) ≤ (i : Int) := by omega
            have hni : IntKind.i64.wrap ((i : Int) + 1) = ((i + 1 : Nat) : Int) := by have := HN.out.1; rw [IntWalk.i64_in _ (by omega)]; omega
            have HI := Lib.hid hir
            have hle := idx_le (c := q) hir
            have hsz : r * q ≤ 100 * 200 := Nat.mul_le_mul HN.out.1 (by have := HN.out; omega)
            obtain ⟨p, hp⟩ : ∃ p, i * q = p := ⟨_, rfl⟩
            obtain ⟨lo, hlo⟩ : ∃ s, p + c = s := ⟨_, rfl⟩
            obtain ⟨hi', hhi⟩ : ∃ s, p + q = s := ⟨_, rfl⟩
            have HP := Lib.hid (show i * (c + d) + c = lo from by have := HN.out.2.2.2.1; rw [← hlo, ← hp, this])
            have hwa : IntKind.i64.wrap ((i : Int) * (q : Int)) = (p : Int) := by rw [show (i : Int) * (q : Int) = (p : Int) by rw [← hp]; simp, IntWalk.i64_in _ (by rw [hp] at hle; omega)]
            rw [hp] at hle
            have hwb : IntKind.i64.wrap ((p : Int) + (c : Int)) = (lo : Int) := by have := HN.out; rw [IntWalk.i64_in _ (by omega)]; omega
            have hwc : IntKind.i64.wrap ((p : Int) + (q : Int)) = (hi' : Int) := by rw [IntWalk.i64_in _ (by omega)]; omega
            have hcut := fun W => cut_run W A12 (r * q) c12 lo hi' (by have := HN.out; omega) (by have := HLE.out; omega) d (c12 - lo) (by have := HN.out; omega) rfl
            have HC := Lib.hid (show ∀ W : World, Below w14.heap.size w14 W → Bytes W W.heap.size (cutA A12 c12 lo) (row d (st.B i)) from fun W hW => by
              have h1 := ((H14.out.keep hW).row _ (.head _)).1
              have h2 := cut_bytes h1 (cap := c12) (lo := lo) (k := d) (by dsimp only; rw [flat_len]; have := HN.out; omega) (by dsimp only; rw [flat_len]; exact HLE.out)
              dsimp only at h2
              rw [HN.out.2.2.2.1, ← HP.out, bes_cut _ _ hir] at h2
              rw [← HP.out]; exact h2)
            clear hp hlo hhi hle hsz
            have H7 := H6
            have HW7 := HW
            by_cases hic : i < c
            · have hic1 : (i : Int) < (c : Int) := by omega
              have HIC := Lib.hid hic
              obtain ⟨l0, hl0⟩ : ∃ l, (flat (min i c) d st.B).length = l := ⟨_, rfl⟩
              have HL0 := Lib.hid (show (flat (min i c) d st.B).length = l0 ∧ l0 ≤ 10000 from ⟨hl0, by
                rw [← hl0, flat_len]
                have h4 : min i c * d ≤ 100 * 100 := Nat.mul_le_mul (by have := HN.out; omega) (by have := HN.out; omega)
                omega⟩)
              have HFS := Lib.hid (show flat (min (i + 1) c) d st.B = flat (min i c) d st.B ++ row d (st.B i) from by rw [show min (i + 1) c = i + 1 by omega, show min i c = i by omega, flat_succ])
              obtain ⟨⟨x0, x1, x2⟩, _⟩ := H7.out.cells
              rw [hl0] at x2
              obtain ⟨hi0', hz0, hz1, hz2⟩ := HI0.out
              clear hl0
              go_wp2_with ((with_reducible show wpList _ _ _ ((⟨some 78, _, _, _, _, _⟩ : Oper) :: _) _ _); refine wpList_app _ rfl _ _ _ rfl w14.heap.size 5 i0 _ 1 Try.underlying22 hi0' hz0 hz1 hz2 rfl A2 c2 _ ((flat (min i c) d st.B).map u8v) rfl (by rw [List.length_map, HL0.out.1]) H7.out.row _ _ _ d ((row d (st.B i)).map u8v) rfl (by rw [List.length_map, row_len]) (HC.out _ H7.out.bs.below) u8v_one (by rw [List.length_map, List.length_map, HL0.out.1, row_len]; have := HL0.out.2; have := HN.out; simp [maxLen]; omega) (by rw [List.length_map, List.length_map, HL0.out.1, row_len]; have := HL0.out.2; have := HN.out; omega) H7.out.bs.below.size (l0 + d) rfl ?_; intro A5 c5 w8 ho hb hg _; have H8 := Lib.hid (H7.out.app (l' := flat (min (i + 1) c) d st.B) (by rw [HFS.out, List.map_append]; exact ho) hb hg); clear ho hb hg; have h9 := H8.out.set; rw [show (flat (min (i + 1) c) d st.B).length = l0 + d from by rw [HFS.out, List.length_append, HL0.out.1, row_len]] at h9; have H9 := Lib.hid h9; clear h9; obtain ⟨k3, k4⟩ := H8.out.cells; rw [HL0.out.1] at k3)
              go_roundw
              case rel => exact ⟨i + 1, A5, c5, by simp, HI.out, fun x h1 h2 => by have := HIC.out; omega, H9.out⟩
              case measure => simp [intOf]; omega
            · have hic1 : ¬ (i : Int) < (c : Int) := by omega
              have HIC := Lib.hid (show c ≤ i from by omega)
              clear hic
              go_wp2_with fail
              clear a0 a1 a2 m0 m1 m2
              go_loopw [11] (fun y wr => ∃ k : Nat, y = .int .i64 (k : Int) ∧ k ≤ d ∧ (∀ y, y < k → st.B i y = 0) ∧ w6 = wr) (fun y _ => d - (intOf y).toNat)
              case atStart => exact ⟨0, rfl, Nat.zero_le _, fun y h => absurd h (Nat.not_lt_zero _), rfl⟩
              case round =>
                obtain ⟨k, rfl, hk, hzz, rfl⟩ := hrel
                by_cases hkd : k < d
                · have hk1 : (k : Int) < (d : Int) := by omega
                  have hk0 : (0 : Int) ≤ (k : Int) := by omega
                  have hnk : IntKind.i64.wrap ((k : Int) + 1) = ((k + 1 : Nat) : Int) := by have := HN.out; rw [IntWalk.i64_in _ (by omega)]; omega
                  obtain ⟨ab, ao, eA, _, hc⟩ := (HC.out _ H7.out.bs.below).at_ (k := k) (by rw [row_len]; exact hkd)
                  obtain ⟨x, hx⟩ : ∃ x, st.B i k = x := ⟨_, rfl⟩
                  rw [show (row d (st.B i))[k]'(by rw [row_len]; exact hkd) = x from by
                    have h := row_get (f := st.B i) hkd
                    rw [List.getElem?_eq_getElem (by rw [row_len]; exact hkd)] at h
                    injection h with h
                    rw [h, hx]] at hc
                  rw [eA]
                  by_cases hx0 : x = 0
                  · have hxz : (((x.toNat : Nat) : Int) != 0) = false := by rw [hx0]; rfl
                    have HZZ := Lib.hid (show k < d ∧ ∀ y, y < k + 1 → st.B i y = 0 from ⟨hkd, fun y h => by
                      by_cases e : y = k
                      · rw [e, hx, hx0]
                      · exact hzz y (by omega)⟩)
                    clear hx hx0 hzz
                    go_wp2_with fail
                    go_roundw
                    case rel => exact ⟨k + 1, by simp, HZZ.out.1, HZZ.out.2, trivial⟩
                    case measure => simp [intOf]; omega
                  · have hxz : (((x.toNat : Nat) : Int) != 0) = true := by rw [bne, u8_zero_no hx0]; rfl
                    have HBAD := Lib.hid (show solves r c d a b = false from by
                      cases h : solves r c d a b with
                      | false => rfl
                      | true =>
                        have h2 := (solves_iff.1 h).2 i HIC.out HI.out k hkd
                        rw [HST.out, hx] at h2
                        exact absurd h2 hx0)
                    clear hx hx0 hzz
                    obtain ⟨⟨d0, d1, d2⟩, f0, f1, f2⟩ := HW7.out.blk (.tail _ (.head _))
                    have hfin := HW7.out.end_ (.tail _ (.head _)) HG.out (.int .i64 0) (.int .i64 0) (.slice none 0 0)
                    go_wp2_with fail
                    obtain ⟨h1, e0, e1, e2⟩ := hfin
                    refine bodyPost_ret (v := .tuple #[.agg #[.int .i64 0, .int .i64 0, .slice none 0 0], .int .i64 51]) (by simp [results, Try.results22, go_sem, e0, e1, e2]) rfl ?_
                    exact ⟨fun h => (by rw [HBAD.out] at h; cases h), fun _ => ⟨rfl, h1⟩⟩
                · obtain rfl : d = k := by omega
                  have HZZ := Lib.hid hzz
                  clear hzz
                  go_wp2_with fail
                  go_roundw
                  case rel =>
                    refine ⟨i + 1, A2, c2, by simp, HI.out, fun x h1 h2 k hk => ?_, by rw [show min (i + 1) c = min i c by have := HIC.out; omega]; exact H7.out⟩
                    by_cases e : x = i
                    · rw [e]; exact HZZ.out k hk
                    · exact HZ.out x h1 (by omega) k hk
                  case measure => simp [intOf]; omega
          · obtain rfl : r = i := by omega
            have HOK := Lib.hid (show solves r c d a b = true from solves_iff.2 (by rw [HST.out]; exact ⟨HTC.out.1, HZ.out⟩))
            have H7 := Lib.hid (show AS w14 [] gx (c : Int) (d : Int) A2 c2 (flat c d st.B) w6 from by have h := H6.out; rw [show min r c = c by have := HTC.out.2; omega] at h; exact h)
            clear H6
            obtain ⟨⟨x0, x1, x2⟩, _⟩ := H7.out.cells
            obtain ⟨lq, hlq⟩ : ∃ lq, (flat c d st.B).length = lq := ⟨_, rfl⟩
            rw [hlq] at x2
            have HLQ := Lib.hid (hlq.symm.trans (flat_len _ _ _))
            clear hlq
            obtain ⟨⟨d0, d1, d2⟩, f0, f1, f2⟩ := HW.out.blk (.tail _ (.head _))
            have hfin := HW.out.end_ (.tail _ (.head _)) HG.out (.int .i64 (c : Int)) (.int .i64 (d : Int)) (.slice A2 lq c2)
            have hnw : Nw w.heap.size (((w6.setCell ⟨g0, 0, none⟩ (.int .i64 (c : Int))).setCell ⟨g0, 1, none⟩ (.int .i64 (d : Int))).setCell ⟨g0, 2, none⟩ (.slice A2 lq c2)) A2 (flat c d st.B) := by
              obtain ⟨T, hbk⟩ := (H14.out.box _ (.tail _ (.head _))).1
              obtain ⟨T', hbk'⟩ := (HW.out.box _ (.tail _ (.head _))).1
              have hg0 : g0 < w14.heap.size := hbk.lt
              obtain ⟨_, hf⟩ := set3 hbk' (.int .i64 (c : Int)) (.int .i64 (d : Int)) (.slice A2 lq c2)
              refine (Nw.of_own (Own.fr H7.out.row hf fun g' e e2 => ?_)).mono H14.out.below.size
              rcases H7.out.row.form with ⟨e3, _⟩ | ⟨g3, e3, h3, _⟩
              · rw [e3] at e; cases e
              · rw [e3] at e; injection e with e; have := congrArg Addr.block e; dsimp only at this; omega
            go_wp2_with fail
            obtain ⟨h1, e0, e1, e2⟩ := hfin
            refine bodyPost_ret (v := .tuple #[.agg #[.int .i64 (c : Int), .int .i64 (d : Int), .slice A2 lq c2], .int .i64 0]) (by simp [results, Try.results22, go_sem, e0, e1, e2]) rfl ?_
            have e9 := HLQ.out
            subst e9
            refine ⟨fun _ => ?_, fun h => (by rw [HOK.out] at h; cases h)⟩
            rw [HST.out]
            refine ⟨A2, c2, rfl, ?_, hnw, h1⟩
            have h3 := H7.out.row.le
            rw [List.length_map, flat_len] at h3
            exact h3
    · skip
      refine step_new (P := Try.prog) _ ⟨rfl, rfl, rfl⟩ newMx5 ?_
      have H12 := Lib.hid (H11.out.putT #[.int .i64 0, .int .i64 0, .slice none 0 0] 38)
      have HB12 := Lib.hid (And.intro H11.out.below.size H11.out.far)
      obtain ⟨g12, hg12⟩ : ∃ x, w11.heap.size = x := ⟨_, rfl⟩
      rw [hg12] at H12 HB12 ⊢
      clear hg12
      generalize w11.alloc (.cells #[.int .i64 0, .int .i64 0, .slice none 0 0] 38) = w12 at *
      try dsimp only
      refine hK.out _ _ ?_ (fun hHeld => ?_)
      · intro _
        try dsimp only
        have h := H12.out
        exact ⟨h.cells (.tail _ (.tail _ (.tail _ (.head _)))), h.cells (.tail _ (.tail _ (.head _)))⟩
      clear hK K
      try simp only [Act.put, List.setIfInBounds_toArray, List.set_cons_zero, List.set_cons_succ]
      have hHeld := hHeld (by kernel_rfl)
      refine onG 5 ⟨some 34, .call { callee := Callee.value (Operand.func 54), args := #[.tmp 31, .tmp 33], argTypes := #[38, 3] }, 93, _, #[⟨2, .data⟩, ⟨4, .data⟩, ⟨2, .chain⟩], none⟩ (fun K hK => ?_)
      go_simp
      refine (redR H12.out (ma := besM c a b) (.head _) rfl rfl ⟨HN.out.1, by have := HN.out; omega⟩ c (by have := HN.out; omega)).mono ?_
      rintro e w13 ⟨A13, c13, L13, k13, rfl, hle, h⟩
      rw [HRD.out.1]
      rw [HRD.out.2] at h
      have H13 := Lib.hid h
      have HLE := Lib.hid hle
      clear h hle
      try dsimp only
      refine hK.out _ _ ?_ (fun hHeld => ?_)
      · intro _
        try dsimp only
        have h := H13.out
        exact ⟨h.cells (.tail _ (.tail _ (.tail _ (.head _)))), h.cells (.tail _ (.tail _ (.head _)))⟩
      clear hK K
      try simp only [Act.put, List.setIfInBounds_toArray, List.set_cons_zero, List.set_cons_succ]
      have hHeld := hHeld (by kernel_rfl)
      refine puG 6 ⟨some 28, .move (.tmp 34), 93, _, #[⟨5, .data⟩], none⟩ (v := ?_) ?_ (fun _ => by assumption) ?_
      rotate_left
      · intro w hSw
        try dsimp only at hSw
        go_simp
        try with_reducible rfl
      try simp only [Act.put, List.setIfInBounds_toArray, List.set_cons_zero, List.set_cons_succ]
      refine puG 7 ⟨some 35, .extract (.tmp 28) 0, 38, _, #[⟨6, .data⟩], none⟩ (v := ?_) ?_ (fun _ => by assumption) ?_
      rotate_left
      · intro w hSw
        try dsimp only at hSw
        go_simp
        try with_reducible rfl
      try simp only [Act.put, List.setIfInBounds_toArray, List.set_cons_zero, List.set_cons_succ]
      refine puG 8 ⟨some 36, .extract (.tmp 28) 1, 48, _, #[⟨6, .data⟩, { on := 10, ground := Ground.gcOnly Departure.lateStores }], none⟩ (v := ?_) ?_ (fun _ => by assumption) ?_
      rotate_left
      · intro w hSw
        try dsimp only at hSw
        go_simp
        try with_reducible rfl
      try simp only [Act.put, List.setIfInBounds_toArray, List.set_cons_zero, List.set_cons_succ]
      refine onG 10 ⟨none, .store 38 (.tmp 6) (.tmp 35), 0, _, #[⟨9, .data⟩, ⟨7, .data⟩, ⟨5, .chain⟩, ⟨0, .phase⟩, ⟨1, .phase⟩, ⟨2, .phase⟩, ⟨3, .phase⟩, ⟨4, .phase⟩, ⟨5, .phase⟩, ⟨6, .phase⟩, ⟨7, .phase⟩, { on := 8, ground := Ground.textOnly Departure.lateStores }, ⟨9, .phase⟩], none⟩ (fun K hK => ?_)
      obtain ⟨⟨z0, z1, z2⟩, f0, f1, f2⟩ := H13.out.blk (.head _)
      go_simp
      have H14 := Lib.hid (H13.out.set HB12.out.1 HB12.out.2 (.int .i64 (r : Int)) (.int .i64 (q : Int)) (.slice A13 (r * q) c13))
      clear z0 z1 z2 f0 f1 f2 HB12
      generalize ((w13.setCell ⟨g12, 0, none⟩ (.int .i64 (r : Int))).setCell ⟨g12, 1, none⟩ (.int .i64 (q : Int))).setCell ⟨g12, 2, none⟩ (.slice A13 (r * q) c13) = w14 at *
      try dsimp only
      refine hK.out _ _ ?_ (fun hHeld => ?_)
      · exact fun h => (st_no (by kernel_rfl) h).elim
      clear hK K
      try simp only [Act.put, List.setIfInBounds_toArray, List.set_cons_zero, List.set_cons_succ]
      clear hHeld
      refine puG 11 ⟨some 7, .assign (.tmp 36), 48, _, #[⟨8, .data⟩, ⟨10, .chain⟩, ⟨0, .phase⟩, ⟨1, .phase⟩, ⟨2, .phase⟩, ⟨3, .phase⟩, ⟨4, .phase⟩, ⟨5, .phase⟩, ⟨6, .phase⟩, ⟨7, .phase⟩, ⟨8, .phase⟩, ⟨9, .phase⟩, ⟨10, .phase⟩], none⟩ (v := ?_) ?_ (fun h => (st_no (by kernel_rfl) h).elim) ?_
      rotate_left
      · intro w hSw
        try dsimp only at hSw
        go_simp
        try with_reducible rfl
      try simp only [Act.put, List.setIfInBounds_toArray, List.set_cons_zero, List.set_cons_succ]
      refine wpAnyG_done (by kernel_rfl) ?_ _
      refine NoPanic.normal ?_
      clear hHeld
      obtain ⟨a0, a1, a2⟩ := H14.out.cells (.tail _ (.tail _ (.tail _ (.head _))))
      by_cases htc : st.at_ < c
      · have HBAD := Lib.hid (show solves r c d a b = false from by
          cases h : solves r c d a b with
          | false => rfl
          | true => have h2 := (solves_iff.1 h).1; rw [HST.out] at h2; omega)
        have htc1 : (st.at_ : Int) < (c : Int) := by omega
        clear htc
        obtain ⟨⟨d0, d1, d2⟩, f0, f1, f2⟩ := H14.out.blk (.tail _ (.head _))
        have hfin := H14.out.end_ (.tail _ (.head _)) HG.out (.int .i64 0) (.int .i64 0) (.slice none 0 0)
        go_wp2_with fail
        obtain ⟨h1, e0, e1, e2⟩ := hfin
        refine bodyPost_ret (v := .tuple #[.agg #[.int .i64 0, .int .i64 0, .slice none 0 0], .int .i64 51]) (by simp [results, Try.results22, go_sem, e0, e1, e2]) rfl ?_
        exact ⟨fun h => (by rw [HBAD.out] at h; cases h), fun _ => ⟨rfl, h1⟩⟩
      · have HTC := Lib.hid (show st.at_ = c ∧ c ≤ r from by have h := redTo_at (A := a) (B := b) (r := r) c; rw [HST.out] at h; omega)
        have htc1 : ¬ (st.at_ : Int) < (c : Int) := by omega
        clear htc
        obtain ⟨b0, b1, b2⟩ := H14.out.cells (.tail _ (.tail _ (.head _)))
        have H5 := Lib.hid (AS.start (BS.start w14) (c : Int) (d : Int))
        go_wp2_with fail
        clear a0 a1 a2 b0 b1 b2 htc1
        obtain ⟨gx, hgx⟩ : ∃ x, w14.heap.size = x := ⟨_, rfl⟩
        rw [hgx] at H5 ⊢
        have HGX := Lib.hid hgx
        clear hgx
        generalize w14.alloc (.cells #[.int .i64 (c : Int), .int .i64 (d : Int), .slice none 0 0] 38) = w5 at *
        go_loopw [9] (fun x wr => ∃ (i : Nat) (A2 : Option Addr) (c2 : Nat), x = .int .i64 (i : Int) ∧ i ≤ r ∧ (∀ x, c ≤ x → x < i → ∀ k, k < d → st.B x k = 0) ∧ AS w14 [] gx (c : Int) (d : Int) A2 c2 (flat (min i c) d st.B) wr) (fun x _ => r - (intOf x).toNat)
        case atStart => exact ⟨0, none, 0, rfl, Nat.zero_le _, fun x h1 h2 => absurd h2 (Nat.not_lt_zero _), by rw [Nat.zero_min, flat_nil]; exact H5.out⟩
        case round =>
          obtain ⟨i, A2, c2, rfl, hi, hz, h⟩ := hrel
          have H6 := Lib.hid h
          have HZ := Lib.hid hz
          clear h hz H5
          obtain ⟨w6, rfl⟩ : ∃ w6 : World, w6 = wr := ⟨_, rfl⟩
          have HW := Lib.hid (H14.out.keep H6.out.bs.below)
          obtain ⟨m0, m1, m2⟩ := HW.out.cells (.head _)
          obtain ⟨a0, a1, a2⟩ := HW.out.cells (.tail _ (.tail _ (.tail _ (.head _))))
          by_cases hir : i < r
          · have hi1 : (i : Int) < (r : Int) := by omega
            have hi0 : (0 : Int) ≤ (i : Int) := by omega
            have hni : IntKind.i64.wrap ((i : Int) + 1) = ((i + 1 : Nat) : Int) := by have := HN.out.1; rw [IntWalk.i64_in _ (by omega)]; omega
            have HI := Lib.hid hir
            have hle := idx_le (c := q) hir
            have hsz : r * q ≤ 100 * 200 := Nat.mul_le_mul HN.out.1 (by have := HN.out; omega)
            obtain ⟨p, hp⟩ : ∃ p, i * q = p := ⟨_, rfl⟩
            obtain ⟨lo, hlo⟩ : ∃ s, p + c = s := ⟨_, rfl⟩
            obtain ⟨hi', hhi⟩ : ∃ s, p + q = s := ⟨_, rfl⟩
            have HP := Lib.hid (show i * (c + d) + c = lo from by have := HN.out.2.2.2.1; rw [← hlo, ← hp, this])
            have hwa : IntKind.i64.wrap ((i : Int) * (q : Int)) = (p : Int) := by rw [show (i : Int) * (q : Int) = (p : Int) by rw [← hp]; simp, IntWalk.i64_in _ (by rw [hp] at hle; omega)]
            rw [hp] at hle
            have hwb : IntKind.i64.wrap ((p : Int) + (c : Int)) = (lo : Int) := by have := HN.out; rw [IntWalk.i64_in _ (by omega)]; omega
            have hwc : IntKind.i64.wrap ((p : Int) + (q : Int)) = (hi' : Int) := by rw [IntWalk.i64_in _ (by omega)]; omega
            have hcut := fun W => cut_run W A13 (r * q) c13 lo hi' (by have := HN.out; omega) (by have := HLE.out; omega) d (c13 - lo) (by have := HN.out; omega) rfl
            have HC := Lib.hid (show ∀ W : World, Below w14.heap.size w14 W → Bytes W W.heap.size (cutA A13 c13 lo) (row d (st.B i)) from fun W hW => by
              have h1 := ((H14.out.keep hW).row _ (.head _)).1
              have h2 := cut_bytes h1 (cap := c13) (lo := lo) (k := d) (by dsimp only; rw [flat_len]; have := HN.out; omega) (by dsimp only; rw [flat_len]; exact HLE.out)
              dsimp only at h2
              rw [HN.out.2.2.2.1, ← HP.out, bes_cut _ _ hir] at h2
              rw [← HP.out]; exact h2)
            clear hp hlo hhi hle hsz
            have H7 := H6
            have HW7 := HW
            by_cases hic : i < c
            · have hic1 : (i : Int) < (c : Int) := by omega
              have HIC := Lib.hid hic
              obtain ⟨l0, hl0⟩ : ∃ l, (flat (min i c) d st.B).length = l := ⟨_, rfl⟩
              have HL0 := Lib.hid (show (flat (min i c) d st.B).length = l0 ∧ l0 ≤ 10000 from ⟨hl0, by
                rw [← hl0, flat_len]
                have h4 : min i c * d ≤ 100 * 100 := Nat.mul_le_mul (by have := HN.out; omega) (by have := HN.out; omega)
                omega⟩)
              have HFS := Lib.hid (show flat (min (i + 1) c) d st.B = flat (min i c) d st.B ++ row d (st.B i) from by rw [show min (i + 1) c = i + 1 by omega, show min i c = i by omega, flat_succ])
              obtain ⟨⟨x0, x1, x2⟩, _⟩ := H7.out.cells
              rw [hl0] at x2
              obtain ⟨hi0', hz0, hz1, hz2⟩ := HI0.out
              clear hl0
              go_wp2_with ((with_reducible show wpList _ _ _ ((⟨some 78, _, _, _, _, _⟩ : Oper) :: _) _ _); refine wpList_app _ rfl _ _ _ rfl w14.heap.size 5 i0 _ 1 Try.underlying22 hi0' hz0 hz1 hz2 rfl A2 c2 _ ((flat (min i c) d st.B).map u8v) rfl (by rw [List.length_map, HL0.out.1]) H7.out.row _ _ _ d ((row d (st.B i)).map u8v) rfl (by rw [List.length_map, row_len]) (HC.out _ H7.out.bs.below) u8v_one (by rw [List.length_map, List.length_map, HL0.out.1, row_len]; have := HL0.out.2; have := HN.out; simp [maxLen]; omega) (by rw [List.length_map, List.length_map, HL0.out.1, row_len]; have := HL0.out.2; have := HN.out; omega) H7.out.bs.below.size (l0 + d) rfl ?_; intro A5 c5 w8 ho hb hg _; have H8 := Lib.hid (H7.out.app (l' := flat (min (i + 1) c) d st.B) (by rw [HFS.out, List.map_append]; exact ho) hb hg); clear ho hb hg; have h9 := H8.out.set; rw [show (flat (min (i + 1) c) d st.B).length = l0 + d from by rw [HFS.out, List.length_append, HL0.out.1, row_len]] at h9; have H9 := Lib.hid h9; clear h9; obtain ⟨k3, k4⟩ := H8.out.cells; rw [HL0.out.1] at k3)
              go_roundw
              case rel => exact ⟨i + 1, A5, c5, by simp, HI.out, fun x h1 h2 => by have := HIC.out; omega, H9.out⟩
              case measure => simp [intOf]; omega
            · have hic1 : ¬ (i : Int) < (c : Int) := by omega
              have HIC := Lib.hid (show c ≤ i from by omega)
              clear hic
              go_wp2_with fail
              clear a0 a1 a2 m0 m1 m2
              go_loopw [11] (fun y wr => ∃ k : Nat, y = .int .i64 (k : Int) ∧ k ≤ d ∧ (∀ y, y < k → st.B i y = 0) ∧ w6 = wr) (fun y _ => d - (intOf y).toNat)
              case atStart => exact ⟨0, rfl, Nat.zero_le _, fun y h => absurd h (Nat.not_lt_zero _), rfl⟩
              case round =>
                obtain ⟨k, rfl, hk, hzz, rfl⟩ := hrel
                by_cases hkd : k < d
                · have hk1 : (k : Int) < (d : Int) := by omega
                  have hk0 : (0 : Int) ≤ (k : Int) := by omega
                  have hnk : IntKind.i64.wrap ((k : Int) + 1) = ((k + 1 : Nat) : Int) := by have := HN.out; rw [IntWalk.i64_in _ (by omega)]; omega
                  obtain ⟨ab, ao, eA, _, hc⟩ := (HC.out _ H7.out.bs.below).at_ (k := k) (by rw [row_len]; exact hkd)
                  obtain ⟨x, hx⟩ : ∃ x, st.B i k = x := ⟨_, rfl⟩
                  rw [show (row d (st.B i))[k]'(by rw [row_len]; exact hkd) = x from by
                    have h := row_get (f := st.B i) hkd
                    rw [List.getElem?_eq_getElem (by rw [row_len]; exact hkd)] at h
                    injection h with h
                    rw [h, hx]] at hc
                  rw [eA]
                  by_cases hx0 : x = 0
                  · have hxz : (((x.toNat : Nat) : Int) != 0) = false := by rw [hx0]; rfl
                    have HZZ := Lib.hid (show k < d ∧ ∀ y, y < k + 1 → st.B i y = 0 from ⟨hkd, fun y h => by
                      by_cases e : y = k
                      · rw [e, hx, hx0]
                      · exact hzz y (by omega)⟩)
                    clear hx hx0 hzz
                    go_wp2_with fail
                    go_roundw
                    case rel => exact ⟨k + 1, by simp, HZZ.out.1, HZZ.out.2, trivial⟩
                    case measure => simp [intOf]; omega
                  · have hxz : (((x.toNat : Nat) : Int) != 0) = true := by rw [bne, u8_zero_no hx0]; rfl
                    have HBAD := Lib.hid (show solves r c d a b = false from by
                      cases h : solves r c d a b with
                      | false => rfl
                      | true =>
                        have h2 := (solves_iff.1 h).2 i HIC.out HI.out k hkd
                        rw [HST.out, hx] at h2
                        exact absurd h2 hx0)
                    clear hx hx0 hzz
                    obtain ⟨⟨d0, d1, d2⟩, f0, f1, f2⟩ := HW7.out.blk (.tail _ (.head _))
                    have hfin := HW7.out.end_ (.tail _ (.head _)) HG.out (.int .i64 0) (.int .i64 0) (.slice none 0 0)
                    go_wp2_with fail
                    obtain ⟨h1, e0, e1, e2⟩ := hfin
                    refine bodyPost_ret (v := .tuple #[.agg #[.int .i64 0, .int .i64 0, .slice none 0 0], .int .i64 51]) (by simp [results, Try.results22, go_sem, e0, e1, e2]) rfl ?_
                    exact ⟨fun h => (by rw [HBAD.out] at h; cases h), fun _ => ⟨rfl, h1⟩⟩
                · obtain rfl : d = k := by omega
                  have HZZ := Lib.hid hzz
                  clear hzz
                  go_wp2_with fail
                  go_roundw
                  case rel =>
                    refine ⟨i + 1, A2, c2, by simp, HI.out, fun x h1 h2 k hk => ?_, by rw [show min (i + 1) c = min i c by have := HIC.out; omega]; exact H7.out⟩
                    by_cases e : x = i
                    · rw [e]; exact HZZ.out k hk
                    · exact HZ.out x h1 (by omega) k hk
                  case measure => simp [intOf]; omega
          · obtain rfl : r = i := by omega
            have HOK := Lib.hid (show solves r c d a b = true from solves_iff.2 (by rw [HST.out]; exact ⟨HTC.out.1, HZ.out⟩))
            have H7 := Lib.hid (show AS w14 [] gx (c : Int) (d : Int) A2 c2 (flat c d st.B) w6 from by have h := H6.out; rw [show min r c = c by have := HTC.out.2; omega] at h; exact h)
            clear H6
            obtain ⟨⟨x0, x1, x2⟩, _⟩ := H7.out.cells
            obtain ⟨lq, hlq⟩ : ∃ lq, (flat c d st.B).length = lq := ⟨_, rfl⟩
            rw [hlq] at x2
            have HLQ := Lib.hid (hlq.symm.trans (flat_len _ _ _))
            clear hlq
            obtain ⟨⟨d0, d1, d2⟩, f0, f1, f2⟩ := HW.out.blk (.tail _ (.head _))
            have hfin := HW.out.end_ (.tail _ (.head _)) HG.out (.int .i64 (c : Int)) (.int .i64 (d : Int)) (.slice A2 lq c2)
            have hnw : Nw w.heap.size (((w6.setCell ⟨g0, 0, none⟩ (.int .i64 (c : Int))).setCell ⟨g0, 1, none⟩ (.int .i64 (d : Int))).setCell ⟨g0, 2, none⟩ (.slice A2 lq c2)) A2 (flat c d st.B) := by
              obtain ⟨T, hbk⟩ := (H14.out.box _ (.tail _ (.head _))).1
              obtain ⟨T', hbk'⟩ := (HW.out.box _ (.tail _ (.head _))).1
              have hg0 : g0 < w14.heap.size := hbk.lt
              obtain ⟨_, hf⟩ := set3 hbk' (.int .i64 (c : Int)) (.int .i64 (d : Int)) (.slice A2 lq c2)
              refine (Nw.of_own (Own.fr H7.out.row hf fun g' e e2 => ?_)).mono H14.out.below.size
              rcases H7.out.row.form with ⟨e3, _⟩ | ⟨g3, e3, h3, _⟩
              · rw [e3] at e; cases e
              · rw [e3] at e; injection e with e; have := congrArg Addr.block e; dsimp only at this; omega
            go_wp2_with fail
            obtain ⟨h1, e0, e1, e2⟩ := hfin
            refine bodyPost_ret (v := .tuple #[.agg #[.int .i64 (c : Int), .int .i64 (d : Int), .slice A2 lq c2], .int .i64 0]) (by simp [results, Try.results22, go_sem, e0, e1, e2]) rfl ?_
            have e9 := HLQ.out
            subst e9
            refine ⟨fun _ => ?_, fun h => (by rw [HOK.out] at h; cases h)⟩
            rw [HST.out]
            refine ⟨A2, c2, rfl, ?_, hnw, h1⟩
            have h3 := H7.out.row.le
            rw [List.length_map, flat_len] at h3
            exact h3
  · skip
    refine step_new (P := Try.prog) _ ⟨rfl, rfl, rfl⟩ newMx5 ?_
    have H11 := Lib.hid (HD10.out.putT #[.int .i64 0, .int .i64 0, .slice none 0 0] 38)
    have HB11 := Lib.hid (And.intro HD10.out.below.size HD10.out.far)
    obtain ⟨g11, hg11⟩ : ∃ x, wd10.heap.size = x := ⟨_, rfl⟩
    rw [hg11] at H11 HB11 ⊢
    clear hg11
    generalize wd10.alloc (.cells #[.int .i64 0, .int .i64 0, .slice none 0 0] 38) = w11 at *
    try dsimp only
    refine hK.out _ _ ?_ (fun hHeld => ?_)
    · intro _
      try dsimp only
      have h := H11.out
      exact ⟨h.cells (.tail _ (.tail _ (.tail _ (.head _)))), h.cells (.tail _ (.tail _ (.head _)))⟩
    clear hK K
    try simp only [Act.put, List.setIfInBounds_toArray, List.set_cons_zero, List.set_cons_succ]
    have hHeld := hHeld (by kernel_rfl)
    refine onG 2 ⟨some 31, .call { callee := Callee.value (Operand.func 55), args := #[.tmp 29, .tmp 30], argTypes := #[38, 38] }, 38, _, #[⟨0, .data⟩, ⟨1, .data⟩], none⟩ (fun K hK => ?_)
    go_simp
    refine (besR H11.out (.tail _ (.head _)) (.head _) rfl rfl ⟨HN.out.1, HN.out.2.1, HN.out.2.2.1⟩ q HN.out.2.2.2.1).mono ?_
    rintro e w12 ⟨A12, c12, rfl, h⟩
    have H12 := Lib.hid h
    clear h
    try dsimp only
    refine hK.out _ _ ?_ (fun hHeld => ?_)
    · intro _
      try dsimp only
      have h := H12.out
      exact ⟨h.cells (.tail _ (.tail _ (.tail _ (.head _)))), h.cells (.tail _ (.tail _ (.head _)))⟩
    clear hK K
    try simp only [Act.put, List.setIfInBounds_toArray, List.set_cons_zero, List.set_cons_succ]
    have hHeld := hHeld (by kernel_rfl)
    refine onG 5 ⟨some 34, .call { callee := Callee.value (Operand.func 54), args := #[.tmp 31, .tmp 33], argTypes := #[38, 3] }, 93, _, #[⟨2, .data⟩, ⟨4, .data⟩, ⟨2, .chain⟩], none⟩ (fun K hK => ?_)
    go_simp
    refine (redR H12.out (ma := besM c a b) (.head _) rfl rfl ⟨HN.out.1, by have := HN.out; omega⟩ c (by have := HN.out; omega)).mono ?_
    rintro e w13 ⟨A13, c13, L13, k13, rfl, hle, h⟩
    rw [HRD.out.1]
    rw [HRD.out.2] at h
    have H13 := Lib.hid h
    have HLE := Lib.hid hle
    clear h hle
    try dsimp only
    refine hK.out _ _ ?_ (fun hHeld => ?_)
    · intro _
      try dsimp only
      have h := H13.out
      exact ⟨h.cells (.tail _ (.tail _ (.tail _ (.head _)))), h.cells (.tail _ (.tail _ (.head _)))⟩
    clear hK K
    try simp only [Act.put, List.setIfInBounds_toArray, List.set_cons_zero, List.set_cons_succ]
    have hHeld := hHeld (by kernel_rfl)
    refine puG 6 ⟨some 28, .move (.tmp 34), 93, _, #[⟨5, .data⟩], none⟩ (v := ?_) ?_ (fun _ => by assumption) ?_
    rotate_left
    · intro w hSw
      try dsimp only at hSw
      go_simp
      try with_reducible rfl
    try simp only [Act.put, List.setIfInBounds_toArray, List.set_cons_zero, List.set_cons_succ]
    refine puG 7 ⟨some 35, .extract (.tmp 28) 0, 38, _, #[⟨6, .data⟩], none⟩ (v := ?_) ?_ (fun _ => by assumption) ?_
    rotate_left
    · intro w hSw
      try dsimp only at hSw
      go_simp
      try with_reducible rfl
    try simp only [Act.put, List.setIfInBounds_toArray, List.set_cons_zero, List.set_cons_succ]
    refine puG 8 ⟨some 36, .extract (.tmp 28) 1, 48, _, #[⟨6, .data⟩, { on := 10, ground := Ground.gcOnly Departure.lateStores }], none⟩ (v := ?_) ?_ (fun _ => by assumption) ?_
    rotate_left
    · intro w hSw
      try dsimp only at hSw
      go_simp
      try with_reducible rfl
    try simp only [Act.put, List.setIfInBounds_toArray, List.set_cons_zero, List.set_cons_succ]
    refine onG 10 ⟨none, .store 38 (.tmp 6) (.tmp 35), 0, _, #[⟨9, .data⟩, ⟨7, .data⟩, ⟨5, .chain⟩, ⟨0, .phase⟩, ⟨1, .phase⟩, ⟨2, .phase⟩, ⟨3, .phase⟩, ⟨4, .phase⟩, ⟨5, .phase⟩, ⟨6, .phase⟩, ⟨7, .phase⟩, { on := 8, ground := Ground.textOnly Departure.lateStores }, ⟨9, .phase⟩], none⟩ (fun K hK => ?_)
    obtain ⟨⟨z0, z1, z2⟩, f0, f1, f2⟩ := H13.out.blk (.head _)
    go_simp
    have H14 := Lib.hid (H13.out.set HB11.out.1 HB11.out.2 (.int .i64 (r : Int)) (.int .i64 (q : Int)) (.slice A13 (r * q) c13))
    clear z0 z1 z2 f0 f1 f2 HB11
    generalize ((w13.setCell ⟨g11, 0, none⟩ (.int .i64 (r : Int))).setCell ⟨g11, 1, none⟩ (.int .i64 (q : Int))).setCell ⟨g11, 2, none⟩ (.slice A13 (r * q) c13) = w14 at *
    try dsimp only
    refine hK.out _ _ ?_ (fun hHeld => ?_)
    · exact fun h => (st_no (by kernel_rfl) h).elim
    clear hK K
    try simp only [Act.put, List.setIfInBounds_toArray, List.set_cons_zero, List.set_cons_succ]
    clear hHeld
    refine puG 11 ⟨some 7, .assign (.tmp 36), 48, _, #[⟨8, .data⟩, ⟨10, .chain⟩, ⟨0, .phase⟩, ⟨1, .phase⟩, ⟨2, .phase⟩, ⟨3, .phase⟩, ⟨4, .phase⟩, ⟨5, .phase⟩, ⟨6, .phase⟩, ⟨7, .phase⟩, ⟨8, .phase⟩, ⟨9, .phase⟩, ⟨10, .phase⟩], none⟩ (v := ?_) ?_ (fun h => (st_no (by kernel_rfl) h).elim) ?_
    rotate_left
    · intro w hSw
      try dsimp only at hSw
      go_simp
      try with_reducible rfl
    try simp only [Act.put, List.setIfInBounds_toArray, List.set_cons_zero, List.set_cons_succ]
    refine wpAnyG_done (by kernel_rfl) ?_ _
    refine NoPanic.normal ?_
    clear hHeld
    obtain ⟨a0, a1, a2⟩ := H14.out.cells (.tail _ (.tail _ (.tail _ (.head _))))
    by_cases htc : st.at_ < c
    · have HBAD := Lib.hid (show solves r c d a b = false from by
        cases h : solves r c d a b with
        | false => rfl
        | true => have h2 := (solves_iff.1 h).1; rw [HST.out] at h2; omega)
      have htc1 : (st.at_ : Int) < (c : Int) := by omega
      clear htc
      obtain ⟨⟨d0, d1, d2⟩, f0, f1, f2⟩ := H14.out.blk (.tail _ (.head _))
      have hfin := H14.out.end_ (.tail _ (.head _)) HG.out (.int .i64 0) (.int .i64 0) (.slice none 0 0)
      go_wp2_with fail
      obtain ⟨h1, e0, e1, e2⟩ := hfin
      refine bodyPost_ret (v := .tuple #[.agg #[.int .i64 0, .int .i64 0, .slice none 0 0], .int .i64 51]) (by simp [results, Try.results22, go_sem, e0, e1, e2]) rfl ?_
      exact ⟨fun h => (by rw [HBAD.out] at h; cases h), fun _ => ⟨rfl, h1⟩⟩
    · have HTC := Lib.hid (show st.at_ = c ∧ c ≤ r from by have h := redTo_at (A := a) (B := b) (r := r) c; rw [HST.out] at h; omega)
      have htc1 : ¬ (st.at_ : Int) < (c : Int) := by omega
      clear htc
      obtain ⟨b0, b1, b2⟩ := H14.out.cells (.tail _ (.tail _ (.head _)))
      have H5 := Lib.hid (AS.start (BS.start w14) (c : Int) (d : Int))
      go_wp2_with fail
      clear a0 a1 a2 b0 b1 b2 htc1
      obtain ⟨gx, hgx⟩ : ∃ x, w14.heap.size = x := ⟨_, rfl⟩
      rw [hgx] at H5 ⊢
      have HGX := Lib.hid hgx
      clear hgx
      generalize w14.alloc (.cells #[.int .i64 (c : Int), .int .i64 (d : Int), .slice none 0 0] 38) = w5 at *
      go_loopw [9] (fun x wr => ∃ (i : Nat) (A2 : Option Addr) (c2 : Nat), x = .int .i64 (i : Int) ∧ i ≤ r ∧ (∀ x, c ≤ x → x < i → ∀ k, k < d → st.B x k = 0) ∧ AS w14 [] gx (c : Int) (d : Int) A2 c2 (flat (min i c) d st.B) wr) (fun x _ => r - (intOf x).toNat)
      case atStart => exact ⟨0, none, 0, rfl, Nat.zero_le _, fun x h1 h2 => absurd h2 (Nat.not_lt_zero _), by rw [Nat.zero_min, flat_nil]; exact H5.out⟩
      case round =>
        obtain ⟨i, A2, c2, rfl, hi, hz, h⟩ := hrel
        have H6 := Lib.hid h
        have HZ := Lib.hid hz
        clear h hz H5
        obtain ⟨w6, rfl⟩ : ∃ w6 : World, w6 = wr := ⟨_, rfl⟩
        have HW := Lib.hid (H14.out.keep H6.out.bs.below)
        obtain ⟨m0, m1, m2⟩ := HW.out.cells (.head _)
        obtain ⟨a0, a1, a2⟩ := HW.out.cells (.tail _ (.tail _ (.tail _ (.head _))))
        by_cases hir : i < r
        · have hi1 : (i : Int) < (r : Int) := by omega
          have hi0 : (0 : Int) ≤ (i : Int) := by omega
          have hni : IntKind.i64.wrap ((i : Int) + 1) = ((i + 1 : Nat) : Int) := by have := HN.out.1; rw [IntWalk.i64_in _ (by omega)]; omega
          have HI := Lib.hid hir
          have hle := idx_le (c := q) hir
          have hsz : r * q ≤ 100 * 200 := Nat.mul_le_mul HN.out.1 (by have := HN.out; omega)
          obtain ⟨p, hp⟩ : ∃ p, i * q = p := ⟨_, rfl⟩
          obtain ⟨lo, hlo⟩ : ∃ s, p + c = s := ⟨_, rfl⟩
          obtain ⟨hi', hhi⟩ : ∃ s, p + q = s := ⟨_, rfl⟩
          have HP := Lib.hid (show i * (c + d) + c = lo from by have := HN.out.2.2.2.1; rw [← hlo, ← hp, this])
          have hwa : IntKind.i64.wrap ((i : Int) * (q : Int)) = (p : Int) := by rw [show (i : Int) * (q : Int) = (p : Int) by rw [← hp]; simp, IntWalk.i64_in _ (by rw [hp] at hle; omega)]
          rw [hp] at hle
          have hwb : IntKind.i64.wrap ((p : Int) + (c : Int)) = (lo : Int) := by have := HN.out; rw [IntWalk.i64_in _ (by omega)]; omega
          have hwc : IntKind.i64.wrap ((p : Int) + (q : Int)) = (hi' : Int) := by rw [IntWalk.i64_in _ (by omega)]; omega
          have hcut := fun W => cut_run W A13 (r * q) c13 lo hi' (by have := HN.out; omega) (by have := HLE.out; omega) d (c13 - lo) (by have := HN.out; omega) rfl
          have HC := Lib.hid (show ∀ W : World, Below w14.heap.size w14 W → Bytes W W.heap.size (cutA A13 c13 lo) (row d (st.B i)) from fun W hW => by
            have h1 := ((H14.out.keep hW).row _ (.head _)).1
            have h2 := cut_bytes h1 (cap := c13) (lo := lo) (k := d) (by dsimp only; rw [flat_len]; have := HN.out; omega) (by dsimp only; rw [flat_len]; exact HLE.out)
            dsimp only at h2
            rw [HN.out.2.2.2.1, ← HP.out, bes_cut _ _ hir] at h2
            rw [← HP.out]; exact h2)
          clear hp hlo hhi hle hsz
          have H7 := H6
          have HW7 := HW
          by_cases hic : i < c
          · have hic1 : (i : Int) < (c : Int) := by omega
            have HIC := Lib.hid hic
            obtain ⟨l0, hl0⟩ : ∃ l, (flat (min i c) d st.B).length = l := ⟨_, rfl⟩
            have HL0 := Lib.hid (show (flat (min i c) d st.B).length = l0 ∧ l0 ≤ 10000 from ⟨hl0, by
              rw [← hl0, flat_len]
              have h4 : min i c * d ≤ 100 * 100 := Nat.mul_le_mul (by have := HN.out; omega) (by have := HN.out; omega)
              omega⟩)
            have HFS := Lib.hid (show flat (min (i + 1) c) d st.B = flat (min i c) d st.B ++ row d (st.B i) from by rw [show min (i + 1) c = i + 1 by omega, show min i c = i by omega, flat_succ])
            obtain ⟨⟨x0, x1, x2⟩, _⟩ := H7.out.cells
            rw [hl0] at x2
            obtain ⟨hi0', hz0, hz1, hz2⟩ := HI0.out
            clear hl0
            go_wp2_with ((with_reducible show wpList _ _ _ ((⟨some 78, _, _, _, _, _⟩ : Oper) :: _) _ _); refine wpList_app _ rfl _ _ _ rfl w14.heap.size 5 i0 _ 1 Try.underlying22 hi0' hz0 hz1 hz2 rfl A2 c2 _ ((flat (min i c) d st.B).map u8v) rfl (by rw [List.length_map, HL0.out.1]) H7.out.row _ _ _ d ((row d (st.B i)).map u8v) rfl (by rw [List.length_map, row_len]) (HC.out _ H7.out.bs.below) u8v_one (by rw [List.length_map, List.length_map, HL0.out.1, row_len]; have := HL0.out.2; have := HN.out; simp [maxLen]; omega) (by rw [List.length_map, List.length_map, HL0.out.1, row_len]; have := HL0.out.2; have := HN.out; omega) H7.out.bs.below.size (l0 + d) rfl ?_; intro A5 c5 w8 ho hb hg _; have H8 := Lib.hid (H7.out.app (l' := flat (min (i + 1) c) d st.B) (by rw [HFS.out, List.map_append]; exact ho) hb hg); clear ho hb hg; have h9 := H8.out.set; rw [show (flat (min (i + 1) c) d st.B).length = l0 + d from by rw [HFS.out, List.length_append, HL0.out.1, row_len]] at h9; have H9 := Lib.hid h9; clear h9; obtain ⟨k3, k4⟩ := H8.out.cells; rw [HL0.out.1] at k3)
            go_roundw
            case rel => exact ⟨i + 1, A5, c5, by simp, HI.out, fun x h1 h2 => by have := HIC.out; omega, H9.out⟩
            case measure => simp [intOf]; omega
          · have hic1 : ¬ (i : Int) < (c : Int) := by omega
            have HIC := Lib.hid (show c ≤ i from by omega)
            clear hic
            go_wp2_with fail
            clear a0 a1 a2 m0 m1 m2
            go_loopw [11] (fun y wr => ∃ k : Nat, y = .int .i64 (k : Int) ∧ k ≤ d ∧ (∀ y, y < k → st.B i y = 0) ∧ w6 = wr) (fun y _ => d - (intOf y).toNat)
            case atStart => exact ⟨0, rfl, Nat.zero_le _, fun y h => absurd h (Nat.not_lt_zero _), rfl⟩
            case round =>
              obtain ⟨k, rfl, hk, hzz, rfl⟩ := hrel
              by_cases hkd : k < d
              · have hk1 : (k : Int) < (d : Int) := by omega
                have hk0 : (0 : Int) ≤ (k : Int) := by omega
                have hnk : IntKind.i64.wrap ((k : Int) + 1) = ((k + 1 : Nat) : Int) := by have := HN.out; rw [IntWalk.i64_in _ (by omega)]; omega
                obtain ⟨ab, ao, eA, _, hc⟩ := (HC.out _ H7.out.bs.below).at_ (k := k) (by rw [row_len]; exact hkd)
                obtain ⟨x, hx⟩ : ∃ x, st.B i k = x := ⟨_, rfl⟩
                rw [show (row d (st.B i))[k]'(by rw [row_len]; exact hkd) = x from by
                  have h := row_get (f := st.B i) hkd
                  rw [List.getElem?_eq_getElem (by rw [row_len]; exact hkd)] at h
                  injection h with h
                  rw [h, hx]] at hc
                rw [eA]
                by_cases hx0 : x = 0
                · have hxz : (((x.toNat : Nat) : Int) != 0) = false := by rw [hx0]; rfl
                  have HZZ := Lib.hid (show k < d ∧ ∀ y, y < k + 1 → st.B i y = 0 from ⟨hkd, fun y h => by
                    by_cases e : y = k
                    · rw [e, hx, hx0]
                    · exact hzz y (by omega)⟩)
                  clear hx hx0 hzz
                  go_wp2_with fail
                  go_roundw
                  case rel => exact ⟨k + 1, by simp, HZZ.out.1, HZZ.out.2, trivial⟩
                  case measure => simp [intOf]; omega
                · have hxz : (((x.toNat : Nat) : Int) != 0) = true := by rw [bne, u8_zero_no hx0]; rfl
                  have HBAD := Lib.hid (show solves r c d a b = false from by
                    cases h : solves r c d a b with
                    | false => rfl
                    | true =>
                      have h2 := (solves_iff.1 h).2 i HIC.out HI.out k hkd
                      rw [HST.out, hx] at h2
                      exact absurd h2 hx0)
                  clear hx hx0 hzz
                  obtain ⟨⟨d0, d1, d2⟩, f0, f1, f2⟩ := HW7.out.blk (.tail _ (.head _))
                  have hfin := HW7.out.end_ (.tail _ (.head _)) HG.out (.int .i64 0) (.int .i64 0) (.slice none 0 0)
                  go_wp2_with fail
                  obtain ⟨h1, e0, e1, e2⟩ := hfin
                  refine bodyPost_ret (v := .tuple #[.agg #[.int .i64 0, .int .i64 0, .slice none 0 0], .int .i64 51]) (by simp [results, Try.results22, go_sem, e0, e1, e2]) rfl ?_
                  exact ⟨fun h => (by rw [HBAD.out] at h; cases h), fun _ => ⟨rfl, h1⟩⟩
              · obtain rfl : d = k := by omega
                have HZZ := Lib.hid hzz
                clear hzz
                go_wp2_with fail
                go_roundw
                case rel =>
                  refine ⟨i + 1, A2, c2, by simp, HI.out, fun x h1 h2 k hk => ?_, by rw [show min (i + 1) c = min i c by have := HIC.out; omega]; exact H7.out⟩
                  by_cases e : x = i
                  · rw [e]; exact HZZ.out k hk
                  · exact HZ.out x h1 (by omega) k hk
                case measure => simp [intOf]; omega
        · obtain rfl : r = i := by omega
          have HOK := Lib.hid (show solves r c d a b = true from solves_iff.2 (by rw [HST.out]; exact ⟨HTC.out.1, HZ.out⟩))
          have H7 := Lib.hid (show AS w14 [] gx (c : Int) (d : Int) A2 c2 (flat c d st.B) w6 from by have h := H6.out; rw [show min r c = c by have := HTC.out.2; omega] at h; exact h)
          clear H6
          obtain ⟨⟨x0, x1, x2⟩, _⟩ := H7.out.cells
          obtain ⟨lq, hlq⟩ : ∃ lq, (flat c d st.B).length = lq := ⟨_, rfl⟩
          rw [hlq] at x2
          have HLQ := Lib.hid (hlq.symm.trans (flat_len _ _ _))
          clear hlq
          obtain ⟨⟨d0, d1, d2⟩, f0, f1, f2⟩ := HW.out.blk (.tail _ (.head _))
          have hfin := HW.out.end_ (.tail _ (.head _)) HG.out (.int .i64 (c : Int)) (.int .i64 (d : Int)) (.slice A2 lq c2)
          have hnw : Nw w.heap.size (((w6.setCell ⟨g0, 0, none⟩ (.int .i64 (c : Int))).setCell ⟨g0, 1, none⟩ (.int .i64 (d : Int))).setCell ⟨g0, 2, none⟩ (.slice A2 lq c2)) A2 (flat c d st.B) := by
            obtain ⟨T, hbk⟩ := (H14.out.box _ (.tail _ (.head _))).1
            obtain ⟨T', hbk'⟩ := (HW.out.box _ (.tail _ (.head _))).1
            have hg0 : g0 < w14.heap.size := hbk.lt
            obtain ⟨_, hf⟩ := set3 hbk' (.int .i64 (c : Int)) (.int .i64 (d : Int)) (.slice A2 lq c2)
            refine (Nw.of_own (Own.fr H7.out.row hf fun g' e e2 => ?_)).mono H14.out.below.size
            rcases H7.out.row.form with ⟨e3, _⟩ | ⟨g3, e3, h3, _⟩
            · rw [e3] at e; cases e
            · rw [e3] at e; injection e with e; have := congrArg Addr.block e; dsimp only at this; omega
          go_wp2_with fail
          obtain ⟨h1, e0, e1, e2⟩ := hfin
          refine bodyPost_ret (v := .tuple #[.agg #[.int .i64 (c : Int), .int .i64 (d : Int), .slice A2 lq c2], .int .i64 0]) (by simp [results, Try.results22, go_sem, e0, e1, e2]) rfl ?_
          have e9 := HLQ.out
          subst e9
          refine ⟨fun _ => ?_, fun h => (by rw [HOK.out] at h; cases h)⟩
          rw [HST.out]
          refine ⟨A2, c2, rfl, ?_, hnw, h1⟩
          have h3 := H7.out.row.le
          rw [List.length_map, flat_len] at h3
          exact h3
end Go.Proofs.Ythdapoipfnnaeaa.MxW
/- Drawn regions in which one of three may come up. -/
namespace Go.Proofs.Ythdapoipfnnaeaa.Rng
open Go.RowKit Go.Shelf Mem
set_option linter.unusedVariables false

section
variable {P : Program} {ops : Array Oper} {Q : Exit → Act → World → Prop} {md : Region.Mode} {T : World → Prop} {st : List Nat}
/-- One of three may come up. -/
theorem wpAnyG_three {i j k : Nat} {o u v : Oper} {fuel : Nat} {listed : Array Bool} {a : Act} {w : World} (hr : Region.ready md ops listed = [i, j, k]) (ho : ops[i]? = some o) (hu : ops[j]? = some u) (hv : ops[k]? = some v)
    (h : ∀ K' : Act → World → Prop, Shut (∀ a w, (stOk st (listed.setIfInBounds i true) = true → T w) → ((stOk st (listed.setIfInBounds i true) = true → T w) → wpAnyG P md ops Q T st fuel (listed.setIfInBounds i true) a w) → K' a w) → if Region.wanted o (yielded ops a.tmps) = true then Oper.wp P o a w K' Q else K' (a.put o.dst undef) w)
    (h2 : ∀ K' : Act → World → Prop, Shut (∀ a w, (stOk st (listed.setIfInBounds j true) = true → T w) → ((stOk st (listed.setIfInBounds j true) = true → T w) → wpAnyG P md ops Q T st fuel (listed.setIfInBounds j true) a w) → K' a w) → if Region.wanted u (yielded ops a.tmps) = true then Oper.wp P u a w K' Q else K' (a.put u.dst undef) w)
    (h3 : ∀ K' : Act → World → Prop, Shut (∀ a w, (stOk st (listed.setIfInBounds k true) = true → T w) → ((stOk st (listed.setIfInBounds k true) = true → T w) → wpAnyG P md ops Q T st fuel (listed.setIfInBounds k true) a w) → K' a w) → if Region.wanted v (yielded ops a.tmps) = true then Oper.wp P v a w K' Q else K' (a.put v.dst undef) w) :
    wpAnyG P md ops Q T st (fuel + 1) listed a w := by
  refine ⟨(fun h0 => by rw [hr] at h0; cases h0), fun q hq => ?_⟩
  rw [hr] at hq
  rcases List.mem_cons.1 hq with rfl | hq
  · exact wpOp_step ho (fun K' hK => h K' (fun a w hS hW => hK a w ⟨hS, hW hS⟩))
  · rcases List.mem_cons.1 hq with rfl | hq
    · exact wpOp_step hu (fun K' hK => h2 K' (fun a w hS hW => hK a w ⟨hS, hW hS⟩))
    · obtain rfl := List.mem_singleton.1 hq
      exact wpOp_step hv (fun K' hK => h3 K' (fun a w hS hW => hK a w ⟨hS, hW hS⟩))
end
end Go.Proofs.Ythdapoipfnnaeaa.Rng
/- What MatrixTwo and MatrixOne ask for beyond: copies, the document's product and solution, sameness. -/
namespace Go.Proofs.Ythdapoipfnnaeaa.MxW
open Go.RowKit Go.Shelf Mem Gf FdW Mx Rng
open PlW (In)
set_option linter.unusedVariables false
set_option linter.unusedSectionVars false

theorem via2_2 {P : Prop} {H : Nat → Nat → Option Addr → Nat → Option Addr → Nat → World → Prop} (G : Nat → Nat → Option Addr → Nat → Option Addr → Nat → World → Prop) (main : (∀ g k A c B d W, H g k A c B d W → G g k A c B d W) → P) (rest : ∀ g k A c B d W, H g k A c B d W → G g k A c B d W) : P := main rest
theorem via1_1 {P : Prop} {H : Nat → Option Addr → Nat → World → Prop} (G : Nat → Option Addr → Nat → World → Prop) (main : (∀ g A c W, H g A c W → G g A c W) → P) (rest : ∀ g A c W, H g A c W → G g A c W) : P := main rest
theorem via1_0 {P : Prop} {H : Nat → World → Prop} (G : Nat → World → Prop) (main : (∀ g W, H g W → G g W) → P) (rest : ∀ g W, H g W → G g W) : P := main rest
theorem sol_nat2 {R C R' C' : Int} {n n' : Nat} (h : solB R C n R' C' n' = true) : ∃ r c d : Nat, R = r ∧ C = c ∧ R' = r ∧ C' = d ∧ n = r * c ∧ n' = r * d := by
  unfold solB at h
  rw [Bool.and_eq_true, Bool.and_eq_true] at h
  obtain ⟨r, c, rfl, rfl, _, _, e1⟩ := right_nat h.1.1
  obtain ⟨r', d, rfl, rfl, _, _, e2⟩ := right_nat h.1.2
  have e3 : r = r' := by have := h.2; simp at this; omega
  subst e3
  exact ⟨r, c, d, rfl, rfl, rfl, rfl, e1, e2⟩
theorem MS.sub {w0 w : World} {p : Option Nat} {R R' : List Rw} {X X' : List (Nat × Array Value)} (h : MS w0 p R X w) (hr : ∀ r ∈ R', r ∈ R) (hx : ∀ x ∈ X', x ∈ X) : MS w0 p R' X' w := ⟨h.below, h.fld, fun r k => h.row r (hr r k), fun x k => h.box x (hx x k)⟩
section
variable {w0 w : World} {p : Option Nat} {R : List Rw} {X : List (Nat × Array Value)}
variable (h : MS w0 p R X w)
include h
variable {A B : Option Addr} {a b : List UInt8} {ca cb n m r c d : Nat} {ma mb : M} {R1 C1 R2 C2 : Int}
theorem copiedR (ha : ⟨A, a, ca⟩ ∈ R) (hn : a.length = n) : Calls Try.prog 17 #[.agg #[.int .i64 R1, .int .i64 C1, .slice A n ca]] w (MatO w0 p R X R1 C1 n a) := by
  subst hn
  exact (copied_any w R1 C1 A a _ ca rfl (h.row _ ha).1).mono fun e w' ⟨A', c', he, hle, hnw, hb⟩ => ⟨A', c', he, (h.keep hb).new hnw h.lt hle⟩
theorem rsameR (ha : ⟨A, a, ca⟩ ∈ R) (hn : a.length = n) (hb : ⟨B, b, cb⟩ ∈ R) (hm : b.length = m) {v : Bool} (hv : sameB R1 C1 R2 C2 a b = v) :
    Calls Try.prog 25 #[.agg #[.int .i64 R1, .int .i64 C1, .slice A n ca], .agg #[.int .i64 R2, .int .i64 C2, .slice B m cb]] w (SayM w0 p R X (.bool v)) := by
  subst hv
  exact (rsame_any w R1 C1 R2 C2 A B a b n ca m cb _ _ hn hm (Nat.le_refl _) (Nat.le_refl _) (h.row _ ha).1 (h.row _ hb).1).mono fun e w' ⟨he, hb⟩ => ⟨he, h.keep hb⟩
theorem rrightR {v : Bool} (hv : rightB R1 C1 n = v) : Calls Try.prog 37 #[.agg #[.int .i64 R1, .int .i64 C1, .slice A n ca]] w (SayM w0 p R X (.bool v)) := by
  subst hv
  exact (rright_any w R1 C1 A n ca).mono fun e w' ⟨he, hb⟩ => ⟨he, h.keep hb⟩
theorem rmulR (ha : ⟨A, a, ca⟩ ∈ R) (hb : ⟨B, b, cb⟩ ∈ R) (hn : n = r * c) (hm : m = c * d) (hR : R1 = r ∧ C1 = c ∧ R2 = c ∧ C2 = d) (hd : r ≤ 100 ∧ c ≤ 100 ∧ d ≤ 100) (hA : a = flat r c ma) (hB : b = flat c d mb)
    (Ro Co : Int) (no : Nat) (ho : Ro = r ∧ Co = d ∧ no = r * d) {l : List UInt8} (hl : flat r d (mulM c ma mb) = l) :
    Calls Try.prog 19 #[.agg #[.int .i64 R1, .int .i64 C1, .slice A n ca], .agg #[.int .i64 R2, .int .i64 C2, .slice B m cb]] w (MatR w0 p R X Ro Co no l) := by
  obtain ⟨rfl, rfl, rfl, rfl⟩ := hR
  subst hA; subst hB
  exact (rmul_ok w r c d A B n ca m cb ma mb hn hm hd (h.row _ ha).1 (h.row _ hb).1).mono fun e w' k => newT h ho hl k
theorem rmul0R (hv : mulB R1 C1 n R2 C2 m = false) : Calls Try.prog 19 #[.agg #[.int .i64 R1, .int .i64 C1, .slice A n ca], .agg #[.int .i64 R2, .int .i64 C2, .slice B m cb]] w (SayM w0 p R X (.tuple #[.agg #[.int .i64 0, .int .i64 0, .slice none 0 0], .int .i64 50])) :=
  (rmul_bad w R1 C1 R2 C2 A B n ca m cb hv).mono fun e w' ⟨he, hb⟩ => ⟨he, h.keep hb⟩
theorem rsolveR (ha : ⟨A, a, ca⟩ ∈ R) (hb : ⟨B, b, cb⟩ ∈ R) (hn : n = r * c) (hm : m = r * d) (hR : R1 = r ∧ C1 = c ∧ R2 = r ∧ C2 = d) (hd : r ≤ 100 ∧ c ≤ 100 ∧ d ≤ 100) (hA : a = flat r c ma) (hB : b = flat r d mb) (hs : solves r c d ma mb = true)
    (Ro Co : Int) (no : Nat) (ho : Ro = c ∧ Co = d ∧ no = c * d) {l : List UInt8} (hl : flat c d (redTo r ma mb c).B = l) :
    Calls Try.prog 22 #[.agg #[.int .i64 R1, .int .i64 C1, .slice A n ca], .agg #[.int .i64 R2, .int .i64 C2, .slice B m cb]] w (MatR w0 p R X Ro Co no l) := by
  obtain ⟨rfl, rfl, rfl, rfl⟩ := hR
  subst hA; subst hB
  have k1 := (h.row _ ha).2.2; have k2 := (h.row _ hb).2.2
  dsimp only at k1 k2
  rw [flat_len] at k1 k2
  exact (rsolve_any w r c d A B n ca m cb ma mb hn hm ⟨by omega, by omega⟩ hd (h.row _ ha).1 (h.row _ hb).1).mono fun e w' k => newT h ho hl (k.1 hs)
theorem rsolve1R (ha : ⟨A, a, ca⟩ ∈ R) (hb : ⟨B, b, cb⟩ ∈ R) (hn : n = r * c) (hm : m = r * d) (hR : R1 = r ∧ C1 = c ∧ R2 = r ∧ C2 = d) (hd : r ≤ 100 ∧ c ≤ 100 ∧ d ≤ 100) (hA : a = flat r c ma) (hB : b = flat r d mb) (hs : solves r c d ma mb = false) :
    Calls Try.prog 22 #[.agg #[.int .i64 R1, .int .i64 C1, .slice A n ca], .agg #[.int .i64 R2, .int .i64 C2, .slice B m cb]] w (SayM w0 p R X (.tuple #[.agg #[.int .i64 0, .int .i64 0, .slice none 0 0], .int .i64 51])) := by
  obtain ⟨rfl, rfl, rfl, rfl⟩ := hR
  subst hA; subst hB
  have k1 := (h.row _ ha).2.2; have k2 := (h.row _ hb).2.2
  dsimp only at k1 k2
  rw [flat_len] at k1 k2
  exact (rsolve_any w r c d A B n ca m cb ma mb hn hm ⟨by omega, by omega⟩ hd (h.row _ ha).1 (h.row _ hb).1).mono fun e w' k => ⟨(k.2 hs).1, h.keep (k.2 hs).2⟩
theorem rsolve0R (hv : solB R1 C1 n R2 C2 m = false) : Calls Try.prog 22 #[.agg #[.int .i64 R1, .int .i64 C1, .slice A n ca], .agg #[.int .i64 R2, .int .i64 C2, .slice B m cb]] w (SayM w0 p R X (.tuple #[.agg #[.int .i64 0, .int .i64 0, .slice none 0 0], .int .i64 50])) :=
  (rsolve_bad w R1 C1 R2 C2 A B n ca m cb hv).mono fun e w' ⟨he, hb⟩ => ⟨he, h.keep hb⟩
end
end Go.Proofs.Ythdapoipfnnaeaa.MxW
/- Products and solutions, refused or not, in the program and in the document alike. -/
namespace Go.Proofs.Ythdapoipfnnaeaa.MxW
open Go.RowKit Go.Shelf Mem Gf FdW Mx Rng
open PlW (In)
set_option linter.unusedVariables false
set_option linter.unusedSectionVars false

/-- A matrix and what is told with it, refused or not. -/
def MatE (w0 : World) (p : Option Nat) (R : List Rw) (X : List (Nat × Array Value)) (r c : Int) (n : Nat) (l : List UInt8) (code : Int) (e : Ending) (w' : World) : Prop :=
  ∃ A cap, e = .returned (.tuple #[.agg #[.int .i64 r, .int .i64 c, .slice A n cap], .int .i64 code]) ∧ MS w0 p (⟨A, l, cap⟩ :: R) X w'
theorem MatR.e {w0 : World} {p : Option Nat} {R : List Rw} {X : List (Nat × Array Value)} {r c : Int} {n : Nat} {l : List UInt8} {e : Ending} {w' : World} (h : MatR w0 p R X r c n l e w') : MatE w0 p R X r c n l 0 e w' := h
theorem SayM.e {w0 : World} {p : Option Nat} {R : List Rw} {X : List (Nat × Array Value)} {code : Int} {e : Ending} {w' : World} (h : SayM w0 p R X (.tuple #[.agg #[.int .i64 0, .int .i64 0, .slice none 0 0], .int .i64 code]) e w') : MatE w0 p R X 0 0 0 [] code e w' := ⟨none, 0, h.1, h.2.nilR⟩
/-- What the product of two matrices is, in the program and in the document. -/
structure MulE (R1 C1 : Int) (n : Nat) (a : List UInt8) (R2 C2 : Int) (m : Nat) (b : List UInt8) (Ro Co : Int) (no : Nat) (l : List UInt8) (code : Int) : Prop where
  len : l.length = no
  prog : ∀ {w0 w : World} {q : Nat} {R : List Rw} {X : List (Nat × Array Value)} {A B : Option Addr} {ca cb : Nat}, MS w0 (some q) R X w → ⟨A, a, ca⟩ ∈ R → ⟨B, b, cb⟩ ∈ R →
    Calls Try.prog 18 #[fptr (some q), .agg #[.int .i64 R1, .int .i64 C1, .slice A n ca], .agg #[.int .i64 R2, .int .i64 C2, .slice B m cb]] w (MatE w0 (some q) R X Ro Co no l code)
  doc : ∀ {w0 w : World} {p : Option Nat} {R : List Rw} {X : List (Nat × Array Value)} {A B : Option Addr} {ca cb : Nat}, MS w0 p R X w → ⟨A, a, ca⟩ ∈ R → ⟨B, b, cb⟩ ∈ R →
    Calls Try.prog 19 #[.agg #[.int .i64 R1, .int .i64 C1, .slice A n ca], .agg #[.int .i64 R2, .int .i64 C2, .slice B m cb]] w (MatE w0 p R X Ro Co no l code)
structure SolE (R1 C1 : Int) (n : Nat) (a : List UInt8) (R2 C2 : Int) (m : Nat) (b : List UInt8) (Ro Co : Int) (no : Nat) (l : List UInt8) (code : Int) : Prop where
  len : l.length = no
  prog : ∀ {w0 w : World} {q : Nat} {R : List Rw} {X : List (Nat × Array Value)} {A B : Option Addr} {ca cb : Nat}, MS w0 (some q) R X w → ⟨A, a, ca⟩ ∈ R → ⟨B, b, cb⟩ ∈ R →
    Calls Try.prog 21 #[fptr (some q), .agg #[.int .i64 R1, .int .i64 C1, .slice A n ca], .agg #[.int .i64 R2, .int .i64 C2, .slice B m cb]] w (MatE w0 (some q) R X Ro Co no l code)
  doc : ∀ {w0 w : World} {p : Option Nat} {R : List Rw} {X : List (Nat × Array Value)} {A B : Option Addr} {ca cb : Nat}, MS w0 p R X w → ⟨A, a, ca⟩ ∈ R → ⟨B, b, cb⟩ ∈ R →
    Calls Try.prog 22 #[.agg #[.int .i64 R1, .int .i64 C1, .slice A n ca], .agg #[.int .i64 R2, .int .i64 C2, .slice B m cb]] w (MatE w0 p R X Ro Co no l code)
theorem mulE {R1 C1 R2 C2 : Int} {n m : Nat} {a b : List UInt8} (ha : a.length = n) (hb : b.length = m) (hd : R1 ≤ 100 ∧ C1 ≤ 100 ∧ R2 ≤ 100 ∧ C2 ≤ 100) : ∃ Ro Co no l code, MulE R1 C1 n a R2 C2 m b Ro Co no l code := by
  cases hm : mulB R1 C1 n R2 C2 m with
  | false => exact ⟨0, 0, 0, [], 50, rfl, fun h _ _ => (mul0R h hm).mono fun _ _ k => k.e, fun h _ _ => (rmul0R h hm).mono fun _ _ k => k.e⟩
  | true =>
    obtain ⟨r, c, d, h1, h2, h3, h4, h5, h6⟩ := mul_nat hm
    have hA : a = flat r c (ent a c) := (flat_ent (ha.trans h5)).symm
    have hB : b = flat c d (ent b d) := (flat_ent (hb.trans h6)).symm
    exact ⟨r, d, r * d, flat r d (mulM c (ent a c) (ent b d)), 0, flat_len _ _ _, fun h k1 k2 => (mulR h k1 k2 h5 h6 ⟨h1, h2, h3, h4⟩ (by omega) hA hB r d (r * d) ⟨rfl, rfl, rfl⟩ rfl).mono fun _ _ k => k.e,
      fun h k1 k2 => (rmulR h k1 k2 h5 h6 ⟨h1, h2, h3, h4⟩ (by omega) hA hB r d (r * d) ⟨rfl, rfl, rfl⟩ rfl).mono fun _ _ k => k.e⟩
theorem solE {R1 C1 R2 C2 : Int} {n m : Nat} {a b : List UInt8} (ha : a.length = n) (hb : b.length = m) (hd : R1 ≤ 100 ∧ C1 ≤ 100 ∧ R2 ≤ 100 ∧ C2 ≤ 100) : ∃ Ro Co no l code, SolE R1 C1 n a R2 C2 m b Ro Co no l code := by
  cases hm : solB R1 C1 n R2 C2 m with
  | false => exact ⟨0, 0, 0, [], 50, rfl, fun h _ _ => (solve0R h _ hm).mono fun _ _ k => k.e, fun h _ _ => (rsolve0R h hm).mono fun _ _ k => k.e⟩
  | true =>
    obtain ⟨r, c, d, h1, h2, h3, h4, h5, h6⟩ := sol_nat2 hm
    have hA : a = flat r c (ent a c) := (flat_ent (ha.trans h5)).symm
    have hB : b = flat r d (ent b d) := (flat_ent (hb.trans h6)).symm
    cases hs : solves r c d (ent a c) (ent b d) with
    | false => exact ⟨0, 0, 0, [], 51, rfl, fun h k1 k2 => (solve1R h k1 k2 h5 h6 ⟨h1, h2, h3, h4⟩ (by omega) hA hB hs).mono fun _ _ k => k.e, fun h k1 k2 => (rsolve1R h k1 k2 h5 h6 ⟨h1, h2, h3, h4⟩ (by omega) hA hB hs).mono fun _ _ k => k.e⟩
    | true => exact ⟨c, d, c * d, flat c d (redTo r (ent a c) (ent b d) c).B, 0, flat_len _ _ _, fun h k1 k2 => (solveR h k1 k2 h5 h6 ⟨h1, h2, h3, h4⟩ (by omega) hA hB hs c d (c * d) ⟨rfl, rfl, rfl⟩ rfl).mono fun _ _ k => k.e,
        fun h k1 k2 => (rsolveR h k1 k2 h5 h6 ⟨h1, h2, h3, h4⟩ (by omega) hA hB hs c d (c * d) ⟨rfl, rfl, rfl⟩ rfl).mono fun _ _ k => k.e⟩
end Go.Proofs.Ythdapoipfnnaeaa.MxW
