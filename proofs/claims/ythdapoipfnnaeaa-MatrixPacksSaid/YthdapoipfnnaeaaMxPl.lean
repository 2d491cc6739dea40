/- What the calls of chapter 05 answer, plain: solutions, inverses, symmetric matrices. -/
import Derived.Test.YthdapoipfnnaeaaMxSt
namespace Go.Proofs.Ythdapoipfnnaeaa.MxW
open Gf FdW Mx Mem Rng
open Go.RowKit
set_option linter.unusedVariables false
set_option linter.unusedSectionVars false

theorem nz_false {l : List UInt8} (h : anyNz l = false) : ∀ x ∈ l, x = 0 := fun x hx => by
  unfold anyNz at h
  have := (List.any_eq_false.1 h) x hx
  unfold nz at this
  simpa using this
theorem drop_zero {r c d : Nat} {B : M} : anyNz ((flat r d B).drop (c * d)) = false ↔ ∀ i, c ≤ i → i < r → ∀ k, k < d → B i k = 0 := by
  constructor
  · intro h i hi hir k hk
    have h1 := flat_get (m := B) hir hk
    have hle : c * d ≤ i * d := Nat.mul_le_mul_right d hi
    refine nz_false h _ (List.mem_of_getElem? (i := i * d + k - c * d) ?_)
    rw [List.getElem?_drop, show c * d + (i * d + k - c * d) = i * d + k by omega]
    exact h1
  · intro h
    unfold anyNz
    refine List.any_eq_false.2 fun x hx => ?_
    obtain ⟨j, hj⟩ := List.mem_iff_getElem?.1 hx
    rw [List.getElem?_drop] at hj
    have hl : c * d + j < r * d := by
      have := (List.getElem?_eq_some_iff.1 hj).1
      rwa [flat_len] at this
    obtain ⟨i, k, hi, hk, e⟩ := idx_of hl
    rw [e, flat_get hi hk] at hj
    injection hj with hj
    rw [← hj, h i (Nat.le_of_not_lt fun hlt => by have := idx_lt hlt hk; omega) hi k hk]
    decide
section
variable {r c d : Nat} {a b x : M}
theorem rank_eq (r c : Nat) (a b : M) : (redTo r a b c).at_ = rankM r c a := (Mx.redTo_A a b (fun _ _ => 0) r c).2
theorem rank_min (r c : Nat) (a : M) : rankM r c a ≤ r ∧ rankM r c a ≤ c := redTo_at c
theorem solve_rank (h : solves r c d a b = true) : rankM r c a = c := by
  unfold solves at h
  rw [Bool.and_eq_true, decide_eq_true_iff, rank_eq] at h
  exact h.1
theorem solve_less (h : rankM r c a ≠ c) : solves r c d a b = false := by
  cases hs : solves r c d a b with
  | false => rfl
  | true => exact absurd (solve_rank hs) h
theorem solve_is (h : solves r c d a b = true) : flat r d (mulM c a (redTo r a b c).B) = flat r d b := by
  have hr := solve_rank h
  unfold solves at h
  rw [Bool.and_eq_true, Bool.not_eq_true', drop_zero] at h
  exact flat_congr fun i hi k hk => sol_is (by rw [rank_eq]; exact hr) (fun i h1 h2 => h.2 i h1 h2 k hk) i hi
theorem solve_full (hr : rankM r c a = c) : solves r c d a (mulM c a x) = true ∧ flat c d (redTo r a (mulM c a x) c).B = flat c d x := by
  have hk := fun k => sol_unique (A := a) (B := mulM c a x) (r := r) (c := c) (x := x) (k := k) (by rw [rank_eq]; exact hr) fun i _ => rfl
  refine ⟨?_, flat_congr fun i hi k _ => (hk k).1 i hi⟩
  unfold solves
  rw [Bool.and_eq_true, decide_eq_true_iff, Bool.not_eq_true', drop_zero, rank_eq]
  exact ⟨hr, fun i h1 h2 k _ => (hk k).2 i h1 h2⟩
theorem solve_sq (hr : rankM r r a = r) : solves r r d a b = true := by
  unfold solves
  rw [Bool.and_eq_true, decide_eq_true_iff, Bool.not_eq_true', drop_zero, rank_eq]
  exact ⟨hr, fun i h1 h2 => by omega⟩
theorem inv_right (h : solves r r r a idm = true) : flat r r (mulM r a (redTo r a idm r).B) = flat r r idm := solve_is h
theorem inv_left (h : solves r r r a idm = true) : flat r r (mulM r (redTo r a idm r).B a) = flat r r idm := by
  have hr := solve_rank h
  have h1 := inv_right h
  generalize (redTo r a idm r).B = v at h1 ⊢
  refine flat_congr fun i hi k hk => ?_
  have h2 := sol_unique (A := a) (B := a) (r := r) (c := r) (x := mulM r v a) (k := k) (by rw [rank_eq]; exact hr) fun i hi => by
    rw [← mulM_assoc]
    rw [mulM_congr (a' := idm') (b' := a) (fun j hj => flat_inj h1 hi hj) fun j _ => rfl]
    exact id_mulM a hi k
  have h3 := sol_unique (A := a) (B := a) (r := r) (c := r) (x := idm') (k := k) (by rw [rank_eq]; exact hr) fun i hi => mulM_id a i hk
  rw [← h2.1 i hi, h3.1 i hi]; rfl
end
theorem symM_turn (n : Nat) (b : List UInt8) (x y : Nat) : symM n b y x = symM n b x y := by
  unfold symM
  by_cases h : x ≤ y
  · by_cases h2 : y ≤ x
    · obtain rfl : x = y := by omega
      rfl
    · rw [if_neg h2, if_pos h]
  · rw [if_pos (by omega), if_neg h]
theorem packS_sym {n : Nat} {b : List UInt8} (hb : b.length = offS n n) : ∀ k, k ≤ n → packS n (symM n b) k = b.take (offS n k)
  | 0 => fun _ => rfl
  | k + 1 => by
    intro hk
    have h1 : offS n k + (n - k) ≤ offS n n := by have := offS_mono (n := n) (show k + 1 ≤ n from hk); exact this
    rw [packS_succ, packS_sym hb k (by omega), show offS n (k + 1) = offS n k + (n - k) from rfl, List.take_add]
    congr 1
    apply List.ext_getElem?
    intro j
    by_cases hj : j < n - k
    · rw [List.getElem?_take, if_pos hj, List.getElem?_drop]
      unfold packR
      rw [List.getElem?_map, List.getElem?_range hj, Option.map_some]
      unfold symM
      rw [if_pos (by omega), show k + j - k = j by omega, List.getD_eq_getElem?_getD, List.getElem?_eq_getElem (by omega)]; rfl
    · rw [List.getElem?_take, if_neg hj, List.getElem?_eq_none (by rw [packR_len]; omega)]
theorem packS_back {n : Nat} {b : List UInt8} (hb : b.length = offS n n) : packS n (symM n b) n = b := by
  rw [packS_sym hb n (Nat.le_refl _), ← hb, List.take_length]
theorem gram_sym (c r : Nat) (m : M) : flat r r (fun x y => mulM c m (fun x y => m y x) y x) = flat r r (mulM c m fun x y => m y x) :=
  flat_congr fun i _ k _ => by unfold mulM; exact xsum_congr fun j _ => mul_comm _ _
end Go.Proofs.Ythdapoipfnnaeaa.MxW
