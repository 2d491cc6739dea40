/- share.May and the document's May. -/
import Derived.Test.YtlmcmcafbepjmaaShSt
namespace Go.Proofs.Ytlmcmcafbepjmaa.ShW
open Go.RowKit Go.Shelf Mem Fds
set_option linter.unusedVariables false

/-- What is wrong with a share: four looks. -/
def wrong (n : Nat) (ver node : Int) (m : Nat) : Nat → Bool
  | 0 => decide (n < 1 ∨ 64 < n)
  | 1 => decide (ver < 1)
  | 2 => decide (node < 0 ∨ 255 ≤ node)
  | _ => decide (65536 < m)
section
variable {w : World} {b : Nat}
theorem may1 {A : Option Addr} {n c : Nat} (h : w.cell? ⟨b, 0, none⟩ = some (.slice A n c)) : Calls Try.prog 30 #[.pointer (some ⟨b, 0, none⟩)] w fun e w' => e = .returned (.bool (decide (n < 1 ∨ 64 < n))) ∧ w = w' := by
  by_cases h1 : n < 1
  · rw [decide_eq_true (.inl h1)]
    have h2 : (n : Int) < 1 := by omega
    clear h1
    go_enter Try.func30, Try.ntmps30
    go_wp2_with fail
    go_ret
    exact ⟨rfl, rfl⟩
  · by_cases h2 : 64 < n
    · rw [decide_eq_true (.inr h2)]
      have h3 : ¬ (n : Int) < 1 := by omega
      have h4 : (64 : Int) < (n : Int) := by omega
      clear h1 h2
      go_enter Try.func30, Try.ntmps30
      go_wp2_with fail
      go_ret
      exact ⟨rfl, rfl⟩
    · rw [decide_eq_false (by omega)]
      have h3 : ¬ (n : Int) < 1 := by omega
      have h4 : ¬ (64 : Int) < (n : Int) := by omega
      clear h1 h2
      go_enter Try.func30, Try.ntmps30
      go_wp2_with fail
      go_ret
      exact ⟨rfl, rfl⟩
theorem may2 {v : Int} (h : w.cell? ⟨b, 1, none⟩ = some (.int .i64 v)) : Calls Try.prog 31 #[.pointer (some ⟨b, 0, none⟩)] w fun e w' => e = .returned (.bool (decide (v < 1))) ∧ w = w' := by
  go_enter Try.func31, Try.ntmps31
  go_wp2_with fail
  go_ret
  exact ⟨rfl, rfl⟩
theorem may3 {v : Int} (h : w.cell? ⟨b, 2, none⟩ = some (.int .i64 v)) : Calls Try.prog 32 #[.pointer (some ⟨b, 0, none⟩)] w fun e w' => e = .returned (.bool (decide (v < 0 ∨ 255 ≤ v))) ∧ w = w' := by
  by_cases h1 : v < 0
  · rw [decide_eq_true (.inl h1)]
    go_enter Try.func32, Try.ntmps32
    go_wp2_with fail
    go_ret
    exact ⟨rfl, rfl⟩
  · by_cases h2 : 255 ≤ v
    · rw [decide_eq_true (.inr h2)]
      go_enter Try.func32, Try.ntmps32
      go_wp2_with fail
      go_ret
      exact ⟨rfl, rfl⟩
    · rw [decide_eq_false (by omega)]
      go_enter Try.func32, Try.ntmps32
      go_wp2_with fail
      go_ret
      exact ⟨rfl, rfl⟩
theorem may4 {B : Option Addr} {m d : Nat} (h : w.cell? ⟨b, 3, none⟩ = some (.slice B m d)) : Calls Try.prog 33 #[.pointer (some ⟨b, 0, none⟩)] w fun e w' => e = .returned (.bool (decide (65536 < m))) ∧ w = w' := by
  by_cases h1 : 65536 < m
  · rw [decide_eq_true h1]
    have h2 : (65536 : Int) < (m : Int) := by omega
    clear h1
    go_enter Try.func33, Try.ntmps33
    go_wp2_with fail
    go_ret
    exact ⟨rfl, rfl⟩
  · rw [decide_eq_false h1]
    have h2 : ¬ (65536 : Int) < (m : Int) := by omega
    clear h1
    go_enter Try.func33, Try.ntmps33
    go_wp2_with fail
    go_ret
    exact ⟨rfl, rfl⟩
theorem is1 {x : Bool} (h : Calls Try.prog 30 #[.pointer (some ⟨b, 0, none⟩)] w fun e w' => e = .returned (.bool x) ∧ w = w') : Calls Try.prog 35 #[.func (.func 30) #[] #[.pointer (some ⟨b, 0, none⟩)]] w fun e w' => e = .returned (.bool x) ∧ w = w' := by
  have H := Lib.hid h
  clear h
  go_enter Try.func35, Try.ntmps35
  go_wp2_with fail
  refine H.out.mono ?_
  rintro e w' ⟨rfl, rfl⟩
  go_wp2_with fail
  go_ret
  exact ⟨rfl, rfl⟩
theorem is2 {x : Bool} (h : Calls Try.prog 31 #[.pointer (some ⟨b, 0, none⟩)] w fun e w' => e = .returned (.bool x) ∧ w = w') : Calls Try.prog 35 #[.func (.func 31) #[] #[.pointer (some ⟨b, 0, none⟩)]] w fun e w' => e = .returned (.bool x) ∧ w = w' := by
  have H := Lib.hid h
  clear h
  go_enter Try.func35, Try.ntmps35
  go_wp2_with fail
  refine H.out.mono ?_
  rintro e w' ⟨rfl, rfl⟩
  go_wp2_with fail
  go_ret
  exact ⟨rfl, rfl⟩
theorem is3 {x : Bool} (h : Calls Try.prog 32 #[.pointer (some ⟨b, 0, none⟩)] w fun e w' => e = .returned (.bool x) ∧ w = w') : Calls Try.prog 35 #[.func (.func 32) #[] #[.pointer (some ⟨b, 0, none⟩)]] w fun e w' => e = .returned (.bool x) ∧ w = w' := by
  have H := Lib.hid h
  clear h
  go_enter Try.func35, Try.ntmps35
  go_wp2_with fail
  refine H.out.mono ?_
  rintro e w' ⟨rfl, rfl⟩
  go_wp2_with fail
  go_ret
  exact ⟨rfl, rfl⟩
theorem is4 {x : Bool} (h : Calls Try.prog 33 #[.pointer (some ⟨b, 0, none⟩)] w fun e w' => e = .returned (.bool x) ∧ w = w') : Calls Try.prog 35 #[.func (.func 33) #[] #[.pointer (some ⟨b, 0, none⟩)]] w fun e w' => e = .returned (.bool x) ∧ w = w' := by
  have H := Lib.hid h
  clear h
  go_enter Try.func35, Try.ntmps35
  go_wp2_with fail
  refine H.out.mono ?_
  rintro e w' ⟨rfl, rfl⟩
  go_wp2_with fail
  go_ret
  exact ⟨rfl, rfl⟩
/-- The row of the four. -/
def mayRow (b : Nat) : List Value := [.func (.func 30) #[] #[.pointer (some ⟨b, 0, none⟩)], .func (.func 31) #[] #[.pointer (some ⟨b, 0, none⟩)], .func (.func 32) #[] #[.pointer (some ⟨b, 0, none⟩)], .func (.func 33) #[] #[.pointer (some ⟨b, 0, none⟩)]]
def first (x : Nat → Bool) : Int := if x 0 = true then 0 else if x 1 = true then 1 else if x 2 = true then 2 else if x 3 = true then 3 else -1
set_option maxHeartbeats 4000000 in
theorem index_any {g : Nat} {n : Nat} {ver node : Int} {m : Nat} {A B : Option Addr} {c d : Nat} (hg : ∀ j v, (mayRow b)[j]? = some v → w.cell? ⟨g, j, none⟩ = some v) (h0 : w.cell? ⟨b, 0, none⟩ = some (.slice A n c)) (h1 : w.cell? ⟨b, 1, none⟩ = some (.int .i64 ver)) (h2 : w.cell? ⟨b, 2, none⟩ = some (.int .i64 node)) (h3 : w.cell? ⟨b, 3, none⟩ = some (.slice B m d)) :
    Calls Try.prog 56 #[.slice (some ⟨g, 0, none⟩) 4 4, .func (.func 35) #[] #[]] w fun e w' => e = .returned (.int .i64 (first (wrong n ver node m))) ∧ w = w' := by
  have k0 := hg 0 _ rfl
  have k1 := hg 1 _ rfl
  have k2 := hg 2 _ rfl
  have k3 := hg 3 _ rfl
  have H0 := Lib.hid (is1 (may1 h0))
  have H1 := Lib.hid (is2 (may2 h1))
  have H2 := Lib.hid (is3 (may3 h2))
  have H3 := Lib.hid (is4 (may4 h3))
  have HW := Lib.hid (show decide (n < 1 ∨ 64 < n) = wrong n ver node m 0 ∧ decide (ver < 1) = wrong n ver node m 1 ∧ decide (node < 0 ∨ 255 ≤ node) = wrong n ver node m 2 ∧ decide (65536 < m) = wrong n ver node m 3 from ⟨rfl, rfl, rfl, rfl⟩)
  obtain ⟨x, hx⟩ : ∃ x, wrong n ver node m = x := ⟨_, rfl⟩
  rw [hx] at HW ⊢
  rw [HW.out.1] at H0
  rw [HW.out.2.1] at H1
  rw [HW.out.2.2.1] at H2
  rw [HW.out.2.2.2] at H3
  clear hg h0 h1 h2 h3 hx HW
  go_enter Try.func56, Try.ntmps56
  go_wp2_with fail
  go_loop [8] (fun i => ∃ k : Nat, i = .int .i64 (k : Int) ∧ k ≤ 4 ∧ ∀ j, j < k → x j = false) (fun i => 4 - (intOf i).toNat)
  case atStart => exact ⟨0, rfl, Nat.zero_le _, fun j hj => by omega⟩
  case round =>
    obtain ⟨k, rfl, hk, hall⟩ := hrel
    have HA := Lib.hid hall
    clear hall
    have hr : k = 0 ∨ k = 1 ∨ k = 2 ∨ k = 3 ∨ k = 4 := by omega
    rcases hr with rfl | rfl | rfl | rfl | rfl
    · rcases hx : x 0 with _ | _
      · rw [hx] at H0
        have HX := Lib.hid hx
        clear hx
        go_wp2_with fail
        refine H0.out.mono ?_
        rintro e w' ⟨rfl, rfl⟩
        go_wp2_with fail
        go_round
        case rel => exact ⟨1, rfl, by omega, fun j hj => (Nat.lt_or_ge j 0).elim (HA.out j) (fun h => (show j = 0 from by omega) ▸ HX.out)⟩
        case measure => decide
      · rw [hx] at H0
        have HF := Lib.hid (show first x = 0 from by unfold first; rw [hx]; rfl)
        clear hx
        go_wp2_with fail
        refine H0.out.mono ?_
        rintro e w' ⟨rfl, rfl⟩
        go_wp2_with fail
        go_ret
        exact ⟨by rw [HF.out]; rfl, rfl⟩
    · rcases hx : x 1 with _ | _
      · rw [hx] at H1
        have HX := Lib.hid hx
        clear hx
        go_wp2_with fail
        refine H1.out.mono ?_
        rintro e w' ⟨rfl, rfl⟩
        go_wp2_with fail
        go_round
        case rel => exact ⟨2, rfl, by omega, fun j hj => (Nat.lt_or_ge j 1).elim (HA.out j) (fun h => (show j = 1 from by omega) ▸ HX.out)⟩
        case measure => decide
      · rw [hx] at H1
        have HF := Lib.hid (show first x = 1 from by unfold first; rw [HA.out 0 (by omega), hx]; rfl)
        clear hx
        go_wp2_with fail
        refine H1.out.mono ?_
        rintro e w' ⟨rfl, rfl⟩
        go_wp2_with fail
        go_ret
        exact ⟨by rw [HF.out]; rfl, rfl⟩
    · rcases hx : x 2 with _ | _
      · rw [hx] at H2
        have HX := Lib.hid hx
        clear hx
        go_wp2_with fail
        refine H2.out.mono ?_
        rintro e w' ⟨rfl, rfl⟩
        go_wp2_with fail
        go_round
        case rel => exact ⟨3, rfl, by omega, fun j hj => (Nat.lt_or_ge j 2).elim (HA.out j) (fun h => (show j = 2 from by omega) ▸ HX.out)⟩
        case measure => decide
      · rw [hx] at H2
        have HF := Lib.hid (show first x = 2 from by unfold first; rw [HA.out 0 (by omega), HA.out 1 (by omega), hx]; rfl)
        clear hx
        go_wp2_with fail
        refine H2.out.mono ?_
        rintro e w' ⟨rfl, rfl⟩
        go_wp2_with fail
        go_ret
        exact ⟨by rw [HF.out]; rfl, rfl⟩
    · rcases hx : x 3 with _ | _
      · rw [hx] at H3
        have HX := Lib.hid hx
        clear hx
        go_wp2_with fail
        refine H3.out.mono ?_
        rintro e w' ⟨rfl, rfl⟩
        go_wp2_with fail
        go_round
        case rel => exact ⟨4, rfl, by omega, fun j hj => (Nat.lt_or_ge j 3).elim (HA.out j) (fun h => (show j = 3 from by omega) ▸ HX.out)⟩
        case measure => decide
      · rw [hx] at H3
        have HF := Lib.hid (show first x = 3 from by unfold first; rw [HA.out 0 (by omega), HA.out 1 (by omega), HA.out 2 (by omega), hx]; rfl)
        clear hx
        go_wp2_with fail
        refine H3.out.mono ?_
        rintro e w' ⟨rfl, rfl⟩
        go_wp2_with fail
        go_ret
        exact ⟨by rw [HF.out]; rfl, rfl⟩
    · have HF := Lib.hid (show first x = -1 from by unfold first; rw [HA.out 0 (by omega), HA.out 1 (by omega), HA.out 2 (by omega), HA.out 3 (by omega)]; rfl)
      go_wp2_with fail
      go_ret
      exact ⟨by rw [HF.out]; rfl, rfl⟩
theorem contains_any {g : Nat} {x : Nat → Bool} (h : Calls Try.prog 56 #[.slice (some ⟨g, 0, none⟩) 4 4, .func (.func 35) #[] #[]] w fun e w' => e = .returned (.int .i64 (first x)) ∧ w = w') :
    Calls Try.prog 34 #[.slice (some ⟨g, 0, none⟩) 4 4, .func (.func 35) #[] #[]] w fun e w' => e = .returned (.bool (decide (0 ≤ first x))) ∧ w = w' := by
  have H := Lib.hid h
  obtain ⟨z, hz⟩ : ∃ z, first x = z := ⟨_, rfl⟩
  rw [hz] at H ⊢
  clear h hz
  go_enter Try.func34, Try.ntmps34
  go_wp2_with fail
  refine H.out.mono ?_
  rintro e w' ⟨rfl, rfl⟩
  go_wp2_with fail
  go_ret
  exact ⟨rfl, rfl⟩
end
theorem may_wrong (s : Sh) : (!decide (0 ≤ first (wrong s.key.length s.ver s.node s.row.length))) = s.may := by
  have e0 : wrong s.key.length s.ver s.node s.row.length 0 = decide (s.key.length < 1 ∨ 64 < s.key.length) := rfl
  have e1 : wrong s.key.length s.ver s.node s.row.length 1 = decide (s.ver < 1) := rfl
  have e2 : wrong s.key.length s.ver s.node s.row.length 2 = decide (s.node < 0 ∨ 255 ≤ s.node) := rfl
  have e3 : wrong s.key.length s.ver s.node s.row.length 3 = decide (65536 < s.row.length) := rfl
  unfold first Sh.may
  rw [e0, e1, e2, e3]
  by_cases h0 : s.key.length < 1 ∨ 64 < s.key.length
  · rw [if_pos (decide_eq_true h0)]
    exact (decide_eq_false (by omega)).symm
  · rw [if_neg (by simpa using h0)]
    by_cases h1 : s.ver < 1
    · rw [if_pos (decide_eq_true h1)]; exact (decide_eq_false (by omega)).symm
    · rw [if_neg (by simpa using h1)]
      by_cases h2 : s.node < 0 ∨ 255 ≤ s.node
      · rw [if_pos (decide_eq_true h2)]; exact (decide_eq_false (by omega)).symm
      · rw [if_neg (by simpa using h2)]
        by_cases h3 : 65536 < s.row.length
        · rw [if_pos (decide_eq_true h3)]; exact (decide_eq_false (by omega)).symm
        · rw [if_neg (by simpa using h3)]
          exact (decide_eq_true (by omega)).symm
def BoolOk (b : Bool) (w : World) (e : Ending) (w' : World) : Prop := e = .returned (.bool b) ∧ Below w.heap.size w w'
set_option maxHeartbeats 1000000 in
theorem may_any (w : World) (s : Sh) (A B : Option Addr) (n c m d : Nat) (hn : s.key.length = n) (hm : s.row.length = m) : Calls Try.prog 14 #[.agg #[.slice A n c, .int .i64 s.ver, .int .i64 s.node, .slice B m d]] w (BoolOk s.may w) := by
  rw [← may_wrong, hn, hm]
  obtain ⟨w1, hw1⟩ : ∃ w1 : World, w1 = w.alloc (.cells #[.slice A n c, .int .i64 s.ver, .int .i64 s.node, .slice B m d] 24) := ⟨_, rfl⟩
  have hbk : Blk w1 w.heap.size 24 #[.slice A n c, .int .i64 s.ver, .int .i64 s.node, .slice B m d] := by rw [hw1]; exact Blk.new w _ _
  have hb2 := hbk.alloc (.cells (mayRow w.heap.size).toArray 26)
  have hrow : ∀ j v, (mayRow w.heap.size)[j]? = some v → (w1.alloc (.cells (mayRow w.heap.size).toArray 26)).cell? ⟨w.heap.size + 1, j, none⟩ = some v := fun j v hv => by
    have := new_cell w1 (mayRow w.heap.size).toArray 26 (0, 0) j
    rw [show w1.heap.size = w.heap.size + 1 from by rw [hw1, World.size_alloc]] at this
    rw [this, ← hv]; simp
  have HC := Lib.hid (contains_any (index_any hrow (hb2.cell 0) (hb2.cell 1) (hb2.cell 2) (hb2.cell 3)))
  rw [hw1] at HC
  have HB := Lib.hid (show Below w.heap.size w ((w.alloc (.cells #[.slice A n c, .int .i64 s.ver, .int .i64 s.node, .slice B m d] 24)).alloc (.cells (mayRow w.heap.size).toArray 26)) from nextA (nextA (Mem.start w) _) _)
  obtain ⟨z, hz⟩ : ∃ z, decide (0 ≤ first (wrong n s.ver s.node m)) = z := ⟨_, rfl⟩
  rw [hz] at HC ⊢
  obtain ⟨ver, hver⟩ : ∃ ver, s.ver = ver := ⟨_, rfl⟩
  obtain ⟨node, hnode⟩ : ∃ node, s.node = node := ⟨_, rfl⟩
  rw [hver, hnode] at HC HB ⊢
  unfold mayRow at HC HB
  clear hw1 hbk hb2 hrow hz hver hnode hn hm
  go_enter Try.func14, Try.ntmps14
  go_wp2_with fail
  refine HC.out.mono ?_
  rintro e w' ⟨rfl, rfl⟩
  go_wp2_with fail
  go_ret
  exact ⟨rfl, HB.out⟩
end Go.Proofs.Ytlmcmcafbepjmaa.ShW
