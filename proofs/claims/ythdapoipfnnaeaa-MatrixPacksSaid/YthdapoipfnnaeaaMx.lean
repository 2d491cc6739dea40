/- Matrices of bytes, plain: as functions, as rows of bytes. -/
import Derived.Test.YthdapoipfnnaeaaPlC
namespace Go.Proofs.Ythdapoipfnnaeaa.Mx
open Gf
set_option linter.unusedVariables false

/-- A matrix: row, column. -/
abbrev M := Nat → Nat → UInt8
/-- Its bytes, of r rows and c columns. -/
def flat (r c : Nat) (m : M) : List UInt8 := (List.range (r * c)).map fun j => m (j / c) (j % c)
/-- The matrix that bytes tell. -/
def ent (l : List UInt8) (c : Nat) : M := fun i k => l.getD (i * c + k) 0
section
variable {r c i k : Nat} {m m' : M} {l : List UInt8}
theorem flat_len (r c : Nat) (m : M) : (flat r c m).length = r * c := by unfold flat; rw [List.length_map, List.length_range]
theorem idx_lt (hi : i < r) (hk : k < c) : i * c + k < r * c := by
  have h : (i + 1) * c ≤ r * c := Nat.mul_le_mul_right c hi
  rw [Nat.succ_mul] at h
  omega
theorem idx_le (hi : i < r) : i * c + c ≤ r * c := by
  have h : (i + 1) * c ≤ r * c := Nat.mul_le_mul_right c hi
  rwa [Nat.succ_mul] at h
theorem idx_div (hk : k < c) : (i * c + k) / c = i := by
  rw [Nat.mul_comm, Nat.mul_add_div (by omega), Nat.div_eq_of_lt hk, Nat.add_zero]
theorem idx_mod (hk : k < c) : (i * c + k) % c = k := by
  rw [Nat.mul_comm, Nat.mul_add_mod, Nat.mod_eq_of_lt hk]
theorem idx_of {j : Nat} (hj : j < r * c) : ∃ i k, i < r ∧ k < c ∧ j = i * c + k := by
  have hc : 0 < c := by
    rcases Nat.eq_zero_or_pos c with h | h
    · rw [h, Nat.mul_zero] at hj; omega
    · exact h
  refine ⟨j / c, j % c, ?_, Nat.mod_lt _ hc, ?_⟩
  · exact Nat.div_lt_of_lt_mul (by rwa [Nat.mul_comm])
  · rw [Nat.mul_comm]; exact (Nat.div_add_mod j c).symm
theorem flat_get (hi : i < r) (hk : k < c) : (flat r c m)[i * c + k]? = some (m i k) := by
  unfold flat
  rw [List.getElem?_map, List.getElem?_range (idx_lt hi hk), Option.map_some, idx_div hk, idx_mod hk]
theorem flat_getE (hi : i < r) (hk : k < c) (h : i * c + k < (flat r c m).length) : (flat r c m)[i * c + k] = m i k := by
  have := flat_get (m := m) hi hk
  rw [List.getElem?_eq_getElem h] at this
  exact Option.some.inj this
theorem flat_ext (hl : l.length = r * c) (h : ∀ i, i < r → ∀ k, k < c → l[i * c + k]? = some (m i k)) : l = flat r c m := by
  apply List.ext_getElem?
  intro j
  by_cases hj : j < r * c
  · obtain ⟨i, k, hi, hk, rfl⟩ := idx_of hj
    rw [h i hi k hk, flat_get hi hk]
  · rw [List.getElem?_eq_none (by omega), List.getElem?_eq_none (by rw [flat_len]; omega)]
theorem ent_get (hl : l.length = r * c) (hi : i < r) (hk : k < c) : l[i * c + k]? = some (ent l c i k) := by
  have h := idx_lt hi hk
  unfold ent
  rw [List.getElem?_eq_getElem (by omega), List.getD_eq_getElem?_getD, List.getElem?_eq_getElem (by omega)]; rfl
theorem flat_ent (hl : l.length = r * c) : flat r c (ent l c) = l := (flat_ext hl fun i hi k hk => ent_get hl hi hk).symm
theorem ent_flat (hi : i < r) (hk : k < c) : ent (flat r c m) c i k = m i k := by
  have h := ent_get (flat_len r c m) hi hk
  rw [flat_get hi hk] at h
  exact (Option.some.inj h).symm
theorem flat_congr (h : ∀ i, i < r → ∀ k, k < c → m i k = m' i k) : flat r c m = flat r c m' :=
  flat_ext (flat_len r c m) fun i hi k hk => by rw [flat_get hi hk, h i hi k hk]
theorem flat_inj (h : flat r c m = flat r c m') (hi : i < r) (hk : k < c) : m i k = m' i k := by
  have := flat_get (m := m) hi hk
  rw [h, flat_get hi hk] at this
  exact (Option.some.inj this).symm
/-- One entry another one. -/
def upd (m : M) (i k : Nat) (x : UInt8) : M := fun i' k' => if i' = i ∧ k' = k then x else m i' k'
theorem flat_set (hi : i < r) (hk : k < c) (x : UInt8) : (flat r c m).set (i * c + k) x = flat r c (upd m i k x) := by
  refine flat_ext (by rw [List.length_set, flat_len]) fun i' hi' k' hk' => ?_
  rw [List.getElem?_set]
  unfold upd
  by_cases h : i' = i ∧ k' = k
  · obtain ⟨rfl, rfl⟩ := h
    rw [if_pos rfl, if_pos (by rw [flat_len]; exact idx_lt hi hk), if_pos ⟨rfl, rfl⟩]
  · rw [if_neg, flat_get hi' hk', if_neg h]
    intro e
    apply h
    have e1 := congrArg (· / c) e
    have e2 := congrArg (· % c) e
    simp only [idx_div hk, idx_div hk', idx_mod hk, idx_mod hk'] at e1 e2
    exact ⟨e1.symm, e2.symm⟩
/-- A row. -/
def row (c : Nat) (f : Nat → UInt8) : List UInt8 := (List.range c).map f
theorem row_len (c : Nat) (f : Nat → UInt8) : (row c f).length = c := by unfold row; rw [List.length_map, List.length_range]
theorem row_get {f : Nat → UInt8} (hk : k < c) : (row c f)[k]? = some (f k) := by unfold row; rw [List.getElem?_map, List.getElem?_range hk]; rfl
theorem flat_row (hi : i < r) : ((flat r c m).drop (i * c)).take c = row c (m i) := by
  apply List.ext_getElem?
  intro k
  by_cases hk : k < c
  · rw [List.getElem?_take, if_pos hk, List.getElem?_drop, flat_get hi hk, row_get hk]
  · rw [List.getElem?_take, if_neg hk, List.getElem?_eq_none (by rw [row_len]; omega)]
theorem flat_zero (r c : Nat) : flat r c (fun _ _ => 0) = List.replicate (r * c) 0 := by
  unfold flat
  apply List.ext_getElem?
  intro j
  rw [List.getElem?_map, List.getElem?_replicate]
  by_cases h : j < r * c
  · rw [List.getElem?_range h, if_pos h]; rfl
  · rw [List.getElem?_eq_none (by rw [List.length_range]; omega), if_neg h]; rfl
theorem row_congr {f g : Nat → UInt8} (h : ∀ k, k < c → f k = g k) : row c f = row c g := by
  apply List.ext_getElem?
  intro k
  by_cases hk : k < c
  · rw [row_get hk, row_get hk, h k hk]
  · rw [List.getElem?_eq_none (by rw [row_len]; omega), List.getElem?_eq_none (by rw [row_len]; omega)]
theorem flat_succ (r c : Nat) (m : M) : flat (r + 1) c m = flat r c m ++ row c (m r) := by
  refine (flat_ext (by rw [List.length_append, flat_len, row_len, Nat.succ_mul]) fun i hi k hk => ?_).symm
  by_cases h : i < r
  · rw [List.getElem?_append_left (by rw [flat_len]; exact idx_lt h hk), flat_get h hk]
  · obtain rfl : i = r := by omega
    rw [List.getElem?_append_right (by rw [flat_len]; omega), flat_len, Nat.add_sub_cancel_left, row_get hk]
theorem flat_nil (c : Nat) (m : M) : flat 0 c m = [] := by unfold flat; rw [Nat.zero_mul]; rfl
end
end Go.Proofs.Ythdapoipfnnaeaa.Mx
