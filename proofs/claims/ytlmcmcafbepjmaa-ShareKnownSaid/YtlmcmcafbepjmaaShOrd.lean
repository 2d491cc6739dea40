/- The order of shares: turned about it is the other one; of three it goes on. -/
import Derived.Test.YtlmcmcafbepjmaaShRc
namespace Go.Proofs.Ytlmcmcafbepjmaa.ShW
open Go.RowKit Go.Shelf Mem Fds Bv
set_option linter.unusedVariables false

theorem cmpI_neg (a b : Int) : cmpI a b = -cmpI b a := by
  unfold cmpI
  repeat' split
  all_goals omega
theorem cmpI_neg_iff {a b : Int} : cmpI a b < 0 ↔ a < b := by
  unfold cmpI
  repeat' split
  all_goals omega
theorem cmpL_neg : ∀ a b : List UInt8, cmpL a b = -cmpL b a
  | [], [] => rfl
  | [], _ :: _ => rfl
  | _ :: _, [] => rfl
  | a :: x, b :: y => by
    have h := cmpI_neg (a.toNat : Int) (b.toNat : Int)
    have ih := cmpL_neg x y
    unfold cmpL
    split
    · rw [if_pos (by omega)]; exact ih
    · rw [if_neg (by omega)]; exact h
theorem cmpL_trans : ∀ {a b c : List UInt8}, cmpL a b < 0 → cmpL b c < 0 → cmpL a c < 0
  | _, [], [], _, h => by cases h
  | [], [], _ :: _, h, _ => by cases h
  | _ :: _, [], _ :: _, h, _ => by have : (1 : Int) < 0 := h; omega
  | _, _ :: _, [], _, h => by have : (1 : Int) < 0 := h; omega
  | [], _ :: _, _ :: _, _, _ => by show (-1 : Int) < 0; decide
  | a :: x, b :: y, c :: z, h1, h2 => by
    unfold cmpL at h1 h2 ⊢
    have e1 := @cmpI_zero (a.toNat : Int) (b.toNat : Int)
    have e2 := @cmpI_zero (b.toNat : Int) (c.toNat : Int)
    have e3 := @cmpI_zero (a.toNat : Int) (c.toNat : Int)
    have l1 := @cmpI_neg_iff (a.toNat : Int) (b.toNat : Int)
    have l2 := @cmpI_neg_iff (b.toNat : Int) (c.toNat : Int)
    have l3 := @cmpI_neg_iff (a.toNat : Int) (c.toNat : Int)
    split at h1
    · next g1 =>
      have g1' := e1.1 g1
      split at h2
      · next g2 =>
        have g2' := e2.1 g2
        rw [if_pos (e3.2 (by omega))]
        exact cmpL_trans h1 h2
      · next g2 =>
        have := l2.1 h2
        rw [if_neg (fun h => by have := e3.1 h; omega)]
        exact l3.2 (by omega)
    · next g1 =>
      have h1' := l1.1 h1
      split at h2
      · next g2 =>
        have g2' := e2.1 g2
        rw [if_neg (fun h => by have := e3.1 h; omega)]
        exact l3.2 (by omega)
      · next g2 =>
        have := l2.1 h2
        rw [if_neg (fun h => by have := e3.1 h; omega)]
        exact l3.2 (by omega)
theorem orI_le {a b c : Int} : orI a b c ≤ 0 ↔ a < 0 ∨ (a = 0 ∧ (b < 0 ∨ (b = 0 ∧ c ≤ 0))) := by
  unfold orI
  repeat' split
  all_goals omega
theorem orI_neg (a b c : Int) : orI (-a) (-b) (-c) = -orI a b c := by
  unfold orI
  repeat' split
  all_goals omega
theorem cmp_neg (a b : Sh) : a.cmp b = -b.cmp a := by
  unfold Sh.cmp
  rw [cmpL_neg a.key b.key, cmpI_neg a.ver, cmpI_neg a.node, orI_neg]
theorem cmp_trans {a b c : Sh} (h1 : a.cmp b ≤ 0) (h2 : b.cmp c ≤ 0) : a.cmp c ≤ 0 := by
  unfold Sh.cmp at *
  rw [orI_le] at h1 h2 ⊢
  have z1 := @cmpI_zero a.ver b.ver
  have z2 := @cmpI_zero b.ver c.ver
  have z3 := @cmpI_zero a.ver c.ver
  have l1 := @cmpI_neg_iff a.ver b.ver
  have l2 := @cmpI_neg_iff b.ver c.ver
  have l3 := @cmpI_neg_iff a.ver c.ver
  have y1 := @cmpI_zero a.node b.node
  have y2 := @cmpI_zero b.node c.node
  have y3 := @cmpI_zero a.node c.node
  have m1 := @cmpI_neg_iff a.node b.node
  have m2 := @cmpI_neg_iff b.node c.node
  have m3 := @cmpI_neg_iff a.node c.node
  have hnode : cmpI a.node b.node ≤ 0 → cmpI b.node c.node ≤ 0 → cmpI a.node c.node ≤ 0 := by omega
  have hver : (cmpI a.ver b.ver < 0 ∨ (cmpI a.ver b.ver = 0 ∧ cmpI a.node b.node ≤ 0)) → (cmpI b.ver c.ver < 0 ∨ (cmpI b.ver c.ver = 0 ∧ cmpI b.node c.node ≤ 0)) → (cmpI a.ver c.ver < 0 ∨ (cmpI a.ver c.ver = 0 ∧ cmpI a.node c.node ≤ 0)) := by
    intro g1 g2
    rcases g1 with g1 | ⟨g1, k1⟩ <;> rcases g2 with g2 | ⟨g2, k2⟩
    · exact .inl (by omega)
    · exact .inl (by omega)
    · exact .inl (by omega)
    · exact .inr ⟨by omega, hnode k1 k2⟩
  rcases h1 with h1 | ⟨h1, k1⟩ <;> rcases h2 with h2 | ⟨h2, k2⟩
  · exact .inl (cmpL_trans h1 h2)
  · rw [← cmpL_zero h2]; exact .inl h1
  · rw [cmpL_zero h1]; exact .inl h2
  · rw [cmpL_zero h1]; exact .inr ⟨h2, hver k1 k2⟩
theorem same_self (a : Sh) : a.same a = true := by unfold Sh.same; simp
end Go.Proofs.Ytlmcmcafbepjmaa.ShW
