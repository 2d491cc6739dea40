/- A run of cells stored into a row of the call's own. -/
import Derived.Test.YtdgaicnnaidkkaaFr
import Derived.Lib.SliceRun
namespace Go.Proofs.Ytdgaicnnaidkkaa.Mem
open Go.RowKit Go.Lib
set_option linter.unusedVariables false

/-- Values laid over a list from a place on. -/
def layL {α : Type} : List α → Nat → List α → List α
  | xs, _, [] => xs
  | xs, o, v :: r => layL (xs.set o v) (o + 1) r
theorem layL_len {α : Type} : ∀ (vs xs : List α) (o : Nat), (layL xs o vs).length = xs.length
  | [], _, _ => rfl
  | v :: r, xs, o => by rw [layL, layL_len r, List.length_set]
theorem layL_get {α : Type} : ∀ (vs xs : List α) (o j : Nat), o + vs.length ≤ xs.length → (layL xs o vs)[j]? = if o ≤ j ∧ j < o + vs.length then vs[j - o]? else xs[j]?
  | [], xs, o, j, _ => by rw [layL, if_neg (by simp <;> omega)]
  | v :: r, xs, o, j, h => by
    rw [List.length_cons] at h
    rw [layL, layL_get r _ _ _ (by rw [List.length_set]; omega), List.length_cons]
    by_cases h1 : o + 1 ≤ j ∧ j < o + 1 + r.length
    · rw [if_pos h1, if_pos (by omega), show j - o = (j - (o + 1)) + 1 from by omega, List.getElem?_cons_succ]
    · rw [if_neg h1, List.getElem?_set]
      by_cases h2 : o = j
      · subst h2; rw [if_pos rfl, if_pos (by omega), if_pos (by omega), Nat.sub_self]; rfl
      · rw [if_neg h2, if_neg (by omega)]
theorem Own.lays {base : Nat} {T : TypeId} {g c : Nat} : ∀ (vs xs : List Value) (o : Nat) {w : World}, Own w base T (some ⟨g, 0, none⟩) c xs → o + vs.length ≤ xs.length → Own (w.setCells g o vs) base T (some ⟨g, 0, none⟩) c (layL xs o vs)
  | [], _, _, _, h, _ => h
  | v :: r, xs, o, w, h, hl => by
    rw [List.length_cons] at hl
    obtain ⟨g', hA, _, _, _, _, hs⟩ := h.at_ (k := o) (by omega)
    injection hA with hA; injection hA with hA; subst hA
    exact Own.lays r (xs.set o v) (o + 1) (hs v) (by rw [List.length_set]; omega)
theorem Fr.lays {S : Nat → Prop} {g : Nat} : ∀ (vs : List Value) (o : Nat) {w w' : World}, Fr S w w' → S g → Fr S w (w'.setCells g o vs)
  | [], _, _, _, h, _ => h
  | v :: r, o, w, w', h, hg => Fr.lays r (o + 1) (h.setCell (p := ⟨g, o, none⟩) (fun _ => hg) v) hg
/-- What a store asks of a cell of the row. -/
theorem Own.spare {w : World} {base : Nat} {T : TypeId} {g c : Nat} {xs : List Value} (h : Own w base T (some ⟨g, 0, none⟩) c xs) {k : Nat} (hk : k < xs.length) : (w.cell? ⟨g, k, none⟩).isSome = true ∧ w.frozen? ⟨g, k, none⟩ = false := by
  obtain ⟨g', hA, _, _, hc, hz, _⟩ := h.at_ hk
  injection hA with hA; injection hA with hA; subst hA
  exact ⟨by rw [hc]; rfl, hz⟩
theorem Own.get {w : World} {base : Nat} {T : TypeId} {g c : Nat} {xs : List Value} (h : Own w base T (some ⟨g, 0, none⟩) c xs) {k : Nat} {v : Value} (hk : xs[k]? = some v) : w.cell? ⟨g, k, none⟩ = some v := by
  obtain ⟨g', hA, _, _, hc, _⟩ := h.at_ (k := k) (List.getElem?_eq_some_iff.1 hk).1
  injection hA with hA; injection hA with hA; subst hA
  rw [hc, (List.getElem?_eq_some_iff.1 hk).2]
/-- One is taken out, the last place is cleared. -/
theorem lay_del {α : Type} (xs : List α) (i : Nat) (z : α) (hi : i < xs.length) : (layL (layL xs i (xs.drop (i + 1))) (xs.length - 1) [z]).take (xs.length - 1) = xs.eraseIdx i := by
  apply List.ext_getElem?
  intro j
  rw [List.getElem?_take]
  by_cases hj : j < xs.length - 1
  · rw [if_pos hj, layL_get _ _ _ _ (by rw [layL_len]; simp; omega), if_neg (by simp; omega), layL_get _ _ _ _ (by rw [List.length_drop]; omega), List.getElem?_eraseIdx, List.length_drop]
    by_cases h1 : j < i
    · rw [if_neg (by omega), if_pos h1]
    · rw [if_pos (by omega), if_neg h1, List.getElem?_drop]; congr 1; omega
  · rw [if_neg hj, List.getElem?_eq_none (by rw [List.length_eraseIdx_of_lt hi]; omega)]
end Go.Proofs.Ytdgaicnnaidkkaa.Mem
