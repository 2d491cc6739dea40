/- Package wire's may$1, may$2; slices.IndexFunc and ContainsFunc over them. -/
import Derived.Test.YtebdmfmadbikaaaDoorWr1
namespace Go.Proofs.YtebdmfmadbikaaaDoor.WiW
open Go.RowKit Mem Fds FdW Wi
set_option linter.unusedVariables false
set_option linter.unusedSimpArgs false

theorem build3_1 (W : World) (a : Int) : (Instr.buildSlice 24 1 #[(0, .int .i64 a)]).run Tryd.prog W = .ok (.slice (some ⟨W.heap.size, 0, none⟩) 1 1) (W.alloc (.cells #[.int .i64 a] 3)) := by kernel_rfl
theorem build3_3 (W : World) (a b c : Int) : (Instr.buildSlice 24 3 #[(0, .int .i64 a), (1, .int .i64 b), (2, .int .i64 c)]).run Tryd.prog W = .ok (.slice (some ⟨W.heap.size, 0, none⟩) 3 3) (W.alloc (.cells #[.int .i64 a, .int .i64 b, .int .i64 c] 3)) := by kernel_rfl
theorem build6_1 (W : World) (a : Int) : (Instr.buildSlice 116 1 #[(0, .int .i64 a)]).run Tryd.prog W = .ok (.slice (some ⟨W.heap.size, 0, none⟩) 1 1) (W.alloc (.cells #[.int .i64 a] 2)) := by kernel_rfl
theorem build6_3 (W : World) (a b c : Int) : (Instr.buildSlice 116 3 #[(0, .int .i64 a), (1, .int .i64 b), (2, .int .i64 c)]).run Tryd.prog W = .ok (.slice (some ⟨W.heap.size, 0, none⟩) 3 3) (W.alloc (.cells #[.int .i64 a, .int .i64 b, .int .i64 c] 2)) := by kernel_rfl
theorem cells_new (w : World) (cs : Array Value) (T : TypeId) (B : Nat) (hB : w.heap.size < B) : Cells (w.alloc (.cells cs T)) B (some ⟨w.heap.size, 0, none⟩) cs.toList := fun _ =>
  ⟨w.heap.size, 0, rfl, hB, fun j v hv => by rw [new_cell, ← hv, Nat.zero_add, Array.getElem?_toList]⟩
/-- within of one, of three new numbers. -/
theorem w3_1 (W : World) (B : Nat) (hB : W.heap.size = B) (top a : Int) : Calls Tryd.prog 49 #[.int .i64 top, .slice (some ⟨B, 0, none⟩) 1 1] (W.alloc (.cells #[.int .i64 a] 3)) fun e w' => e = .returned (.bool (wi top a)) ∧ W.alloc (.cells #[.int .i64 a] 3) = w' := by
  subst hB
  rw [← within_one]
  exact within3_any _ _ top a [] 1 1 rfl (by decide) (cells_new W _ _ _ (by simp))
theorem w3_3 (W : World) (B : Nat) (hB : W.heap.size = B) (top a b c : Int) : Calls Tryd.prog 49 #[.int .i64 top, .slice (some ⟨B, 0, none⟩) 3 3] (W.alloc (.cells #[.int .i64 a, .int .i64 b, .int .i64 c] 3)) fun e w' => e = .returned (.bool (wi top a && wi top b && wi top c)) ∧ W.alloc (.cells #[.int .i64 a, .int .i64 b, .int .i64 c] 3) = w' := by
  subst hB
  rw [← within_three]
  exact within3_any _ _ top a [b, c] 3 3 rfl (by decide) (cells_new W _ _ _ (by simp))
theorem w6_1 (W : World) (B : Nat) (hB : W.heap.size = B) (top a : Int) : Calls Tryd.prog 50 #[.int .i64 top, .slice (some ⟨B, 0, none⟩) 1 1] (W.alloc (.cells #[.int .i64 a] 2)) fun e w' => e = .returned (.bool (wi top a)) ∧ W.alloc (.cells #[.int .i64 a] 2) = w' := by
  subst hB
  rw [← within_one]
  exact within6_any _ _ top a [] 1 1 rfl (by decide) (cells_new W _ _ _ (by simp))
theorem w6_3 (W : World) (B : Nat) (hB : W.heap.size = B) (top a b c : Int) : Calls Tryd.prog 50 #[.int .i64 top, .slice (some ⟨B, 0, none⟩) 3 3] (W.alloc (.cells #[.int .i64 a, .int .i64 b, .int .i64 c] 2)) fun e w' => e = .returned (.bool (wi top a && wi top b && wi top c)) ∧ W.alloc (.cells #[.int .i64 a, .int .i64 b, .int .i64 c] 2) = w' := by
  subst hB
  rw [← within_three]
  exact within6_any _ _ top a [b, c] 3 3 rfl (by decide) (cells_new W _ _ _ (by simp))

theorem may2_any (w : World) (n : Int) : Calls Tryd.prog 54 #[.int .i64 n] w fun e w' => e = .returned (.bool (!(wi 254 n))) ∧ Below w.heap.size w w' := by
  have hbd := build3_1 w n
  go_enter Tryd.func54, Tryd.ntmps54
  go_wp2_with fail
  refine (w3_1 w _ rfl 254 n).mono ?_
  rintro e w1 ⟨rfl, rfl⟩
  clear hbd
  go_wp2_with fail
  go_ret
  exact ⟨rfl, nextA (Mem.start w) _⟩
theorem may1_any (w : World) (x : List UInt8 × Int) (hx : x.1.length ≤ 100000000) : Calls Tryd.prog 51 #[.agg #[.string (str x.1), .int .i64 x.2]] w fun e w' => e = .returned (.bool (!(idOk x))) ∧ Below w.heap.size w w' := by
  obtain ⟨l, v⟩ := x
  have hsz : (str l).size = l.length := rfl
  obtain ⟨n, hn⟩ : ∃ n, l.length = n := ⟨_, rfl⟩
  dsimp only at hx ⊢
  rw [hn] at hsz hx
  have hk : idOk (l, v) = (decide (n ≤ 64) && wi long v) := by rw [← hn]; rfl
  rw [hk]
  obtain ⟨s, hs⟩ : ∃ s, str l = s := ⟨_, rfl⟩
  rw [hs] at hsz ⊢
  have hx2 : (n : Int) ≤ 100000000 := by omega
  clear hn hk hs hx
  by_cases h : n ≤ 64
  · have h1 : ¬ (64 : Int) < (n : Int) := by omega
    have d1 : decide (n ≤ 64) = true := decide_eq_true h
    have hbd := fun W => build6_1 W v
    go_enter Tryd.func51, Tryd.ntmps51
    go_wp2_with fail
    refine (w6_1 (w.alloc (.cells #[.string s, .int .i64 v] 50)) _ (by simp) 4611686018427387904 v).mono ?_
    rintro e w2 ⟨rfl, rfl⟩
    clear hbd
    go_wp2_with fail
    go_ret
    refine ⟨by rw [d1]; rfl, ?_⟩
    exact (nextA (nextA (Mem.start w) _) _)
  · have h1 : (64 : Int) < (n : Int) := by omega
    have d1 : decide (n ≤ 64) = false := decide_eq_false h
    go_enter Tryd.func51, Tryd.ntmps51
    go_wp2_with fail
    go_ret
    exact ⟨by rw [d1]; rfl, nextA (Mem.start w) _⟩
theorem all_take {α : Type} (p : α → Bool) (l : List α) (j : Nat) (hj : j < l.length) (h : (l.take j).all p = true) (hp : p l[j] = true) : (l.take (j + 1)).all p = true := by
  rw [List.take_succ_eq_append_getElem hj, List.all_append, h]; simp [hp]
theorem all_not {α : Type} (p : α → Bool) (l : List α) (j : Nat) (hj : j < l.length) (hp : p l[j] = false) : l.all p = false := by
  rw [List.all_eq_false]; exact ⟨l[j], List.getElem_mem hj, by simp [hp]⟩
theorem index3_any (w : World) (A : Option Addr) (l : List Int) (n c : Nat) (hn : n = l.length) (hl : n ≤ maxLen) (hA : Cells w w.heap.size A (l.map iv)) :
    Calls Tryd.prog 71 #[.slice A n c, .func (.func 54) #[] #[]] w fun e w' => ∃ r : Int, e = .returned (.int .i64 r) ∧ decide (0 ≤ r) = !(l.all (wi 254)) ∧ Below w.heap.size w w' := by
  subst hn
  obtain ⟨n, hn⟩ : ∃ n, l.length = n := ⟨_, rfl⟩
  rw [hn] at hl ⊢
  unfold maxLen at hl
  go_enter Tryd.func71, Tryd.ntmps71
  go_wp2_with fail
  go_loopw [5, 8] (fun t i wr => ∃ j : Nat, i = .int .i64 (j : Int) ∧ j ≤ n ∧ (l.take j).all (wi 254) = true ∧ Below w.heap.size w wr) (fun _ i _ => n - (intOf i).toNat)
  case atStart => exact ⟨0, rfl, Nat.zero_le _, rfl, Below.refl _ _⟩
  case round =>
    obtain ⟨j, rfl, hj, ht, hb⟩ := hrel
    by_cases hjl : j < n
    · have ja : j < l.length := by omega
      obtain ⟨b1, o1, rfl, _, c1⟩ := (hA.below hb).at_ (k := j) (by simpa using ja)
      simp only [List.getElem_map, iv] at c1
      have h1 : (j : Int) < (n : Int) := by omega
      have h0 : (0 : Int) ≤ (j : Int) := by omega
      have HB := Lib.hid hb
      have HT := Lib.hid (And.intro ht hn)
      clear hb ht hn
      go_wp2_with fail
      refine (may2_any _ _).mono ?_
      rintro e w2 ⟨rfl, hb2⟩
      have HB2 := Lib.hid (next HB.out hb2)
      clear hb2
      by_cases hx : wi 254 l[j] = true
      · have HR := Lib.hid (all_take (wi 254) l j ja HT.out.1 hx)
        rw [hx]
        clear hx
        go_wp2_with fail
        go_roundw
        case rel => exact ⟨j + 1, rfl, hjl, HR.out, HB2.out⟩
        case measure => simp [intOf]; omega
      · have hx : wi 254 l[j] = false := by simpa using hx
        have HR := Lib.hid (all_not (wi 254) l j ja hx)
        rw [hx]
        clear hx
        go_wp2_with fail
        go_ret
        exact ⟨_, rfl, by rw [HR.out]; simp, HB2.out⟩
    · obtain rfl : j = n := by omega
      rw [List.take_of_length_le (by omega)] at ht
      go_wp2_with fail
      go_ret
      exact ⟨_, rfl, by rw [ht]; rfl, hb⟩
theorem index5_any (w : World) (A : Option Addr) (l : List (List UInt8 × Int)) (n c : Nat) (hn : n = l.length) (hl : n ≤ maxLen) (hlk : ∀ x ∈ l, x.1.length ≤ 100000000) (hA : Cells w w.heap.size A (l.flatMap dc)) :
    Calls Tryd.prog 70 #[.slice A n c, .func (.func 51) #[] #[]] w fun e w' => ∃ r : Int, e = .returned (.int .i64 r) ∧ decide (0 ≤ r) = !(l.all idOk) ∧ Below w.heap.size w w' := by
  subst hn
  obtain ⟨n, hn⟩ : ∃ n, l.length = n := ⟨_, rfl⟩
  rw [hn] at hl ⊢
  unfold maxLen at hl
  go_enter Tryd.func70, Tryd.ntmps70
  go_wp2_with fail
  go_loopw [5, 8] (fun t i wr => ∃ j : Nat, i = .int .i64 (j : Int) ∧ j ≤ n ∧ (l.take j).all idOk = true ∧ Below w.heap.size w wr) (fun _ i _ => n - (intOf i).toNat)
  case atStart => exact ⟨0, rfl, Nat.zero_le _, rfl, Below.refl _ _⟩
  case round =>
    obtain ⟨j, rfl, hj, ht, hb⟩ := hrel
    by_cases hjl : j < n
    · have ja : j < l.length := by omega
      obtain ⟨b1, o1, rfl, _, c1, c1'⟩ := ids_at (hA.below hb) ja
      have h1 : (j : Int) < (n : Int) := by omega
      have h0 : (0 : Int) ≤ (j : Int) := by omega
      have HB := Lib.hid hb
      have HT := Lib.hid (And.intro ht hn)
      have HK := Lib.hid (hlk _ (List.getElem_mem ja))
      clear hb ht hn
      go_wp2_with fail
      refine (may1_any _ _ HK.out).mono ?_
      rintro e w2 ⟨rfl, hb2⟩
      have HB2 := Lib.hid (next HB.out hb2)
      clear hb2
      by_cases hx : idOk l[j] = true
      · have HR := Lib.hid (all_take idOk l j ja HT.out.1 hx)
        rw [hx]
        clear hx
        go_wp2_with fail
        go_roundw
        case rel => exact ⟨j + 1, rfl, hjl, HR.out, HB2.out⟩
        case measure => simp [intOf]; omega
      · have hx : idOk l[j] = false := by simpa using hx
        have HR := Lib.hid (all_not idOk l j ja hx)
        rw [hx]
        clear hx
        go_wp2_with fail
        go_ret
        exact ⟨_, rfl, by rw [HR.out]; simp, HB2.out⟩
    · obtain rfl : j = n := by omega
      rw [List.take_of_length_le (by omega)] at ht
      go_wp2_with fail
      go_ret
      exact ⟨_, rfl, by rw [ht]; rfl, hb⟩
theorem contains3_any (w : World) (A : Option Addr) (l : List Int) (n c : Nat) (hn : n = l.length) (hl : n ≤ maxLen) (hA : Cells w w.heap.size A (l.map iv)) :
    Calls Tryd.prog 53 #[.slice A n c, .func (.func 54) #[] #[]] w fun e w' => e = .returned (.bool (!(l.all (wi 254)))) ∧ Below w.heap.size w w' := by
  have HN := Lib.hid hn
  clear hn
  go_enter Tryd.func53, Tryd.ntmps53
  go_wp2_with fail
  refine (index3_any w A l n c HN.out hl hA).mono ?_
  rintro e w1 ⟨r, rfl, hr, hb⟩
  have HR := Lib.hid hr
  clear hr
  go_wp2_with fail
  go_ret
  exact ⟨congrArg (fun b => Ending.returned (.bool b)) HR.out, hb⟩
theorem contains5_any (w : World) (A : Option Addr) (l : List (List UInt8 × Int)) (n c : Nat) (hn : n = l.length) (hl : n ≤ maxLen) (hlk : ∀ x ∈ l, x.1.length ≤ 100000000) (hA : Cells w w.heap.size A (l.flatMap dc)) :
    Calls Tryd.prog 52 #[.slice A n c, .func (.func 51) #[] #[]] w fun e w' => e = .returned (.bool (!(l.all idOk))) ∧ Below w.heap.size w w' := by
  have HN := Lib.hid hn
  clear hn
  go_enter Tryd.func52, Tryd.ntmps52
  go_wp2_with fail
  refine (index5_any w A l n c HN.out hl hlk hA).mono ?_
  rintro e w1 ⟨r, rfl, hr, hb⟩
  have HR := Lib.hid hr
  clear hr
  go_wp2_with fail
  go_ret
  exact ⟨congrArg (fun b => Ending.returned (.bool b)) HR.out, hb⟩
end Go.Proofs.YtebdmfmadbikaaaDoor.WiW
