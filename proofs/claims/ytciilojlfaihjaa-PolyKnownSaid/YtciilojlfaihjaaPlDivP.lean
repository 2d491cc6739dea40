/- A division step by step: the state of quotient and rest. Plain. -/
import Derived.Test.YtciilojlfaihjaaPlC
namespace Go.Proofs.Ytciilojlfaihjaa.Pl
open Gf

/-- k powers have been done, from L - 1 down; n: the divisor's degree. -/
def DS (a b : List UInt8) (L n k : Nat) (q r : List UInt8) : Prop :=
  q.length = L - n ∧ r.length = L ∧ Eqv a (add (mulP q b) r) ∧ (∀ i, L ≤ i + k → cf r i = 0) ∧ (∀ i, i + k < L - n → cf q i = 0)
theorem DS.start (a b : List UInt8) (n : Nat) : DS a b a.length n 0 (List.replicate (a.length - n) 0) a := by
  have hz : ∀ i, cf (List.replicate (a.length - n) 0) i = 0 := fun i => by
    unfold cf; rw [List.getD_eq_getElem?_getD, List.getElem?_replicate]; split <;> rfl
  refine ⟨by simp, rfl, fun i => ?_, fun i hi => cf_ge (by omega), fun i _ => hz i⟩
  rw [cf_add, mulP_zeros b hz, cf_nil, UInt8.zero_xor]
theorem DS.step {a b q r r' : List UInt8} {L n k i : Nat} (h : DS a b L n k q r) (hb : len b = n + 1) (hi : i + 1 + k = L) (hn : n ≤ i)
    (hl : r'.length = r.length) (hr : Eqv r' (add r (sh (i - n) (sc (div (cf r i) (cf b n)) b)))) : DS a b L n (k + 1) (q.set (i - n) (div (cf r i) (cf b n))) r' := by
  obtain ⟨h1, h2, h3, h4, h5⟩ := h
  have hbn : cf b n ≠ 0 := by have := len_last (l := b) (by omega); rwa [hb] at this
  have hm : i - n < q.length := by omega
  have h0 : cf q (i - n) = 0 := h5 _ (by omega)
  refine ⟨by simpa using h1, by rw [hl]; exact h2, div_step h3 (set_add hm h0 _) hr, fun j hj => ?_, fun j hj => ?_⟩
  · rw [hr, cf_add, cf_sh, cf_sc]
    by_cases hj2 : L ≤ j + k
    · rw [h4 j hj2]
      by_cases h6 : i - n ≤ j
      · rw [if_pos h6, cf_len (l := b) (i := j - (i - n)) (by omega), mul_zero]; rfl
      · rw [if_neg h6]; rfl
    · obtain rfl : j = i := by omega
      rw [if_pos (by omega), show j - (j - n) = n by omega, div_mul hbn, UInt8.xor_self]
  · rw [cf_set hm, if_neg (by omega)]; exact h5 j (by omega)
theorem DS.done {a b q r : List UInt8} {L n k : Nat} (h : DS a b L n k q r) (hb : len b = n + 1) (hk : k = L - n) : DivOk a b q r :=
  ⟨h.2.2.1, by
    have : len r ≤ n := len_of fun i hi => h.2.2.2.1 i (by omega)
    omega⟩
end Go.Proofs.Ytciilojlfaihjaa.Pl
