/- The reduced form of a matrix, plain. -/
import Derived.Test.YthdapoipfnnaeaaMxLin
namespace Go.Proofs.Ythdapoipfnnaeaa.Mx
open Gf
set_option linter.unusedVariables false

/-- The first row from one on whose entry in a column is not nought; r: there is none. -/
def findP (A : M) (r k : Nat) : Nat → Nat → Nat
  | 0, i => i
  | n + 1, i => if i < r ∧ A i k = 0 then findP A r k n (i + 1) else i
def find (A : M) (r k i : Nat) : Nat := findP A r k (r - i) i
def swapM (A : M) (a b : Nat) : M := fun i k => if i = a then A b k else if i = b then A a k else A i k
def scaleM (A : M) (a : Nat) (v : UInt8) : M := fun i k => if i = a then mul (A i k) v else A i k
/-- Row a, times t i, added to each other row i. -/
def elim (t : Nat → UInt8) (A : M) (a : Nat) : M := fun i k => if i = a then A i k else A i k ^^^ mul (A a k) (t i)
/-- One column's step, on the matrix that is reduced (its column cc) and on any matrix. -/
def pivA (A : M) (at_ from_ cc : Nat) : M := scaleM (swapM A at_ from_) at_ (inv (A from_ cc))
def pivB (A B : M) (at_ from_ cc : Nat) : M := scaleM (swapM B at_ from_) at_ (inv (A from_ cc))
def stepX (A X : M) (at_ from_ cc : Nat) : M := elim (fun i => pivA A at_ from_ cc i cc) (pivB A X at_ from_ cc) at_
structure RS where
  at_ : Nat
  A : M
  B : M
def redStep (r cc : Nat) (s : RS) : RS := if find s.A r cc s.at_ < r then ⟨s.at_ + 1, stepX s.A s.A s.at_ (find s.A r cc s.at_) cc, stepX s.A s.B s.at_ (find s.A r cc s.at_) cc⟩ else s
/-- Behind so many columns. -/
def redTo (r : Nat) (A B : M) : Nat → RS
  | 0 => ⟨0, A, B⟩
  | n + 1 => redStep r n (redTo r A B n)
section
variable {A B : M} {r k i j : Nat}
theorem findP_ge : ∀ (n i : Nat), i ≤ findP A r k n i
  | 0, i => Nat.le_refl _
  | n + 1, i => by
    unfold findP
    by_cases h : i < r ∧ A i k = 0
    · rw [if_pos h]; have := findP_ge n (i + 1); omega
    · rw [if_neg h]; exact Nat.le_refl _
theorem findP_zero : ∀ (n i j : Nat), i ≤ j → j < findP A r k n i → A j k = 0
  | 0, i, j, h1, h2 => by unfold findP at h2; omega
  | n + 1, i, j, h1, h2 => by
    unfold findP at h2
    by_cases h : i < r ∧ A i k = 0
    · rw [if_pos h] at h2
      by_cases e : j = i
      · rw [e]; exact h.2
      · exact findP_zero n (i + 1) j (by omega) h2
    · rw [if_neg h] at h2; omega
theorem findP_le : ∀ (n i : Nat), i ≤ r → findP A r k n i ≤ r
  | 0, i, h => h
  | n + 1, i, h => by
    unfold findP
    by_cases h1 : i < r ∧ A i k = 0
    · rw [if_pos h1]; exact findP_le n (i + 1) (by omega)
    · rw [if_neg h1]; exact h
theorem findP_ne : ∀ (n i : Nat), r - i ≤ n → findP A r k n i < r → A (findP A r k n i) k ≠ 0
  | 0, i, h, h1 => by unfold findP at h1; omega
  | n + 1, i, h, h1 => by
    unfold findP at h1 ⊢
    by_cases h2 : i < r ∧ A i k = 0
    · rw [if_pos h2] at h1 ⊢; exact findP_ne n (i + 1) (by omega) h1
    · rw [if_neg h2] at h1 ⊢
      exact fun e => h2 ⟨h1, e⟩
theorem find_ge : i ≤ find A r k i := findP_ge _ _
theorem find_zero (h1 : i ≤ j) (h2 : j < find A r k i) : A j k = 0 := findP_zero _ _ _ h1 h2
theorem find_le (h : i ≤ r) : find A r k i ≤ r := findP_le _ _ h
theorem find_ne (h : find A r k i < r) : A (find A r k i) k ≠ 0 := findP_ne _ _ (Nat.le_refl _) h
/-- Where it is, if it is known. -/
theorem find_is {f : Nat} (h1 : i ≤ f) (h2 : ∀ j, i ≤ j → j < f → A j k = 0) (h3 : f < r → A f k ≠ 0) (h4 : f ≤ r) : find A r k i = f := by
  rcases Nat.lt_trichotomy (find A r k i) f with h | h | h
  · exact absurd (h2 _ find_ge h) (find_ne (by omega))
  · exact h
  · have h5 := find_le (A := A) (r := r) (k := k) (i := i) (by omega)
    exact absurd (find_zero h1 h) (h3 (by omega))
theorem redTo_at : ∀ (n : Nat), (redTo r A B n).at_ ≤ r ∧ (redTo r A B n).at_ ≤ n
  | 0 => ⟨Nat.zero_le _, Nat.le_refl _⟩
  | n + 1 => by
    have h := redTo_at n
    show (redStep r n (redTo r A B n)).at_ ≤ r ∧ (redStep r n (redTo r A B n)).at_ ≤ n + 1
    unfold redStep
    by_cases h1 : find (redTo r A B n).A r n (redTo r A B n).at_ < r
    · rw [if_pos h1]
      have := find_ge (A := (redTo r A B n).A) (r := r) (k := n) (i := (redTo r A B n).at_)
      exact ⟨by show (redTo r A B n).at_ + 1 ≤ r; omega, by show (redTo r A B n).at_ + 1 ≤ n + 1; omega⟩
    · rw [if_neg h1]; omega
/-- Behind the last row nothing turns any more. -/
theorem redTo_full {n : Nat} (h : (redTo r A B n).at_ = r) : ∀ m, n ≤ m → redTo r A B m = redTo r A B n := by
  intro m hm
  induction m with
  | zero => obtain rfl : n = 0 := by omega
            rfl
  | succ m ih =>
    by_cases e : n = m + 1
    · rw [e]
    · have h1 := ih (by omega)
      show redStep r m (redTo r A B m) = _
      rw [h1]
      unfold redStep
      rw [if_neg]
      have := find_ge (A := (redTo r A B n).A) (r := r) (k := m) (i := (redTo r A B n).at_)
      omega
end
/-- Steps of the loops over one row. -/
def swapUp (A : M) (a b j : Nat) : M := fun i k => if k < j then swapM A a b i k else A i k
theorem swapUp_step (A : M) (a b j i k : Nat) : upd (upd (swapUp A a b j) a j (A b j)) b j (A a j) i k = swapUp A a b (j + 1) i k := by
  unfold upd swapUp swapM
  by_cases h1 : i = b ∧ k = j
  · obtain ⟨rfl, rfl⟩ := h1
    rw [if_pos ⟨rfl, rfl⟩, if_pos (by omega)]
    by_cases h2 : i = a
    · subst h2; rw [if_pos rfl]
    · rw [if_neg h2, if_pos rfl]
  · rw [if_neg h1]
    by_cases h2 : i = a ∧ k = j
    · obtain ⟨rfl, rfl⟩ := h2
      rw [if_pos ⟨rfl, rfl⟩, if_pos (by omega), if_pos rfl]
    · rw [if_neg h2]
      by_cases h3 : k < j
      · rw [if_pos h3, if_pos (show k < j + 1 by omega)]
      · rw [if_neg h3]
        by_cases h4 : k < j + 1
        · obtain rfl : k = j := by omega
          rw [if_pos h4, if_neg (by omega), if_neg (by omega)]
        · rw [if_neg h4]
def scaleUp (A : M) (a : Nat) (v : UInt8) (j : Nat) : M := fun i k => if i = a ∧ k < j then mul (A i k) v else A i k
theorem scaleUp_step (A : M) (a : Nat) (v : UInt8) (j i k : Nat) : upd (scaleUp A a v j) a j (mul (A a j) v) i k = scaleUp A a v (j + 1) i k := by
  unfold upd scaleUp
  by_cases h : i = a ∧ k = j
  · obtain ⟨rfl, rfl⟩ := h
    rw [if_pos ⟨rfl, rfl⟩, if_pos ⟨rfl, by omega⟩]
  · rw [if_neg h]
    by_cases h2 : i = a ∧ k < j
    · rw [if_pos h2, if_pos ⟨h2.1, by omega⟩]
    · rw [if_neg h2, if_neg (by omega)]
/-- Rows ahead of j are reckoned. -/
def elimUp (t : Nat → UInt8) (A : M) (a j : Nat) : M := fun i k => if i < j then elim t A a i k else A i k
theorem elimUp_at (t : Nat → UInt8) (A : M) (a j k : Nat) : elimUp t A a j a k = A a k := by
  unfold elimUp elim
  split
  · rw [if_pos rfl]
  · rfl
theorem elimUp_ge (t : Nat → UInt8) (A : M) (a : Nat) {i j : Nat} (h : j ≤ i) (k : Nat) : elimUp t A a j i k = A i k := by unfold elimUp; rw [if_neg (by omega)]
theorem elimUp_skip (t : Nat → UInt8) (A : M) (a i k : Nat) : elimUp t A a a i k = elimUp t A a (a + 1) i k := by
  unfold elimUp elim
  by_cases h : i < a
  · rw [if_pos h, if_pos (show i < a + 1 by omega)]
  · rw [if_neg h]
    by_cases h2 : i = a
    · subst h2; rw [if_pos (show i < i + 1 by omega), if_pos rfl]
    · rw [if_neg (show ¬ i < a + 1 by omega)]
theorem elimUp_done (t : Nat → UInt8) (A : M) (a : Nat) {r i : Nat} (h : i < r) (k : Nat) : elimUp t A a r i k = elim t A a i k := by unfold elimUp; rw [if_pos h]
end Go.Proofs.Ythdapoipfnnaeaa.Mx
