/- Powers at places: how many pivots there are. -/
import Derived.Test.YthdapoipfnnaeaaMxAlg
namespace Go.Proofs.Ythdapoipfnnaeaa.Mx
open Gf Pl
set_option linter.unusedVariables false
set_option linter.unusedSectionVars false

theorem pow_rp (a : UInt8) (n : Nat) : pow a (n : Int) = rp a n := by
  by_cases h : a = 0
  · subst h
    cases n with
    | zero => rfl
    | succ n => rw [zero_pow (by omega)]; show 0 = mul (rp 0 n) 0; rw [mul_zero]
  · rw [pow_pw h, rp_pw h]
    refine pw_cong ?_
    rw [show ((n : Int) % 255).toNat = n % 255 by omega, Nat.mul_mod, Nat.mod_mod, ← Nat.mul_mod]
theorem row_succ (n : Nat) (y : Nat → UInt8) : row (n + 1) y = row n y ++ [y n] := by unfold row; rw [List.range_succ, List.map_append]; rfl
theorem dot_ev (x : UInt8) (y : Nat → UInt8) : ∀ n, dot n (fun k => pow x (k : Int)) y = ev (row n y) x
  | 0 => rfl
  | n + 1 => by
    rw [row_succ, ev_snoc, ← dot_ev x y n, row_len, ← pow_rp, mul_comm]; rfl
/-- The unlike ones among the first m. -/
def unl (xs : List UInt8) : Nat → List UInt8
  | 0 => []
  | m + 1 => if xs.getD m 0 ∈ unl xs m then unl xs m else unl xs m ++ [xs.getD m 0]
theorem unl_len (xs : List UInt8) : ∀ m, (unl xs m).length ≤ m
  | 0 => Nat.le_refl _
  | m + 1 => by
    have := unl_len xs m
    unfold unl
    split
    · omega
    · rw [List.length_append, List.length_singleton]; omega
theorem unl_mem (xs : List UInt8) (x : UInt8) : ∀ m, x ∈ unl xs m ↔ ∃ i, i < m ∧ xs.getD i 0 = x
  | 0 => ⟨fun h => absurd h (by unfold unl; exact List.not_mem_nil), fun ⟨i, hi, _⟩ => absurd hi (Nat.not_lt_zero _)⟩
  | m + 1 => by
    have ih := unl_mem xs x m
    unfold unl
    constructor
    · intro h
      split at h
      · obtain ⟨i, hi, e⟩ := ih.1 h; exact ⟨i, by omega, e⟩
      · rcases List.mem_append.1 h with h | h
        · obtain ⟨i, hi, e⟩ := ih.1 h; exact ⟨i, by omega, e⟩
        · exact ⟨m, by omega, (List.mem_singleton.1 h).symm⟩
    · rintro ⟨i, hi, e⟩
      by_cases e2 : i = m
      · subst e2
        split
        · next h => rw [← e]; exact h
        · rw [← e]; exact List.mem_append.2 (.inr (List.mem_singleton.2 rfl))
      · have := ih.2 ⟨i, by omega, e⟩
        split
        · exact this
        · exact List.mem_append.2 (.inl this)
theorem unl_nodup (xs : List UInt8) : ∀ m, (unl xs m).Nodup
  | 0 => by unfold unl; exact List.nodup_nil
  | m + 1 => by
    have ih := unl_nodup xs m
    unfold unl
    split
    · exact ih
    · next h =>
      refine List.nodup_append.2 ⟨ih, by simp, fun a ha b hb => ?_⟩
      rw [List.mem_singleton.1 hb]
      exact fun e => h (e ▸ ha)
/-- Rows of powers have as many pivots as there are unlike places. -/
theorem van_rank (xs : List UInt8) (n : Nat) : (redTo n (fun i k => pow (xs.getD i 0) (k : Int)) (fun _ _ => 0) n).at_ = (unl xs n).length := by
  apply Nat.le_antisymm
  · refine rank_le (d := (unl xs n).length) _ (fun i k => pow ((unl xs n).getD i 0) (k : Int)) n n fun y h i hi => ?_
    have hm : xs.getD i 0 ∈ unl xs n := (unl_mem xs _ n).2 ⟨i, hi, rfl⟩
    obtain ⟨j, hj, e⟩ := List.mem_iff_getElem.1 hm
    have h1 := h j hj
    (try dsimp only at h1)
    rw [List.getD_eq_getElem?_getD, List.getElem?_eq_getElem hj, Option.getD_some, e] at h1
    exact h1
  · refine Nat.le_trans (Nat.le_of_not_lt fun hlt => ?_) (at_mono (unl_len xs n))
    obtain ⟨y, ⟨j, hj, hy⟩, h0⟩ := ker_any _ n _ hlt
    have hl : len (row (unl xs n).length y) ≠ 0 := fun e => hy (by
      have := len_zero.1 e j
      rwa [cf, List.getD_eq_getElem?_getD, row_get hj, Option.getD_some] at this)
    have h1 := roots_le (unl xs n) (row (unl xs n).length y) (unl_nodup xs n) hl fun x hx => by
      obtain ⟨i, hi, e⟩ := (unl_mem xs x n).1 hx
      rw [← dot_ev, ← e]
      exact h0 i hi
    have h2 := len_le (row (unl xs n).length y)
    rw [row_len] at h2
    omega
end Go.Proofs.Ythdapoipfnnaeaa.Mx
