/- Sums of products over the field. -/
import Derived.Test.YthdapoipfnnaeaaMx
namespace Go.Proofs.Ythdapoipfnnaeaa.Mx
open Gf
set_option linter.unusedVariables false

/-- The sum of f 0 to f (n - 1). -/
def xsum : Nat → (Nat → UInt8) → UInt8
  | 0, _ => 0
  | n + 1, f => xsum n f ^^^ f n
/-- The product of matrices, the first one of c columns. -/
def mulM (c : Nat) (a b : M) : M := fun i k => xsum c fun j => mul (a i j) (b j k)
theorem xsum_congr {n : Nat} {f g : Nat → UInt8} (h : ∀ j, j < n → f j = g j) : xsum n f = xsum n g := by
  induction n with
  | zero => rfl
  | succ n ih => unfold xsum; rw [ih fun j hj => h j (by omega), h n (by omega)]
theorem mulM_congr {c : Nat} {a a' b b' : M} {i k : Nat} (ha : ∀ j, j < c → a i j = a' i j) (hb : ∀ j, j < c → b j k = b' j k) : mulM c a b i k = mulM c a' b' i k :=
  xsum_congr fun j hj => by rw [ha j hj, hb j hj]
/-- While it is reckoned: rows ahead of i whole, row i with j of its summands. -/
def mulUp (c : Nat) (a b : M) (i j : Nat) : M := fun x k => if x < i then mulM c a b x k else if x = i then xsum j (fun j => mul (a i j) (b j k)) else 0
theorem mulUp_start (c : Nat) (a b : M) (x k : Nat) : mulUp c a b 0 0 x k = 0 := by
  unfold mulUp
  rw [if_neg (by omega)]
  split <;> rfl
theorem mulUp_next (c : Nat) (a b : M) (i x k : Nat) : mulUp c a b i c x k = mulUp c a b (i + 1) 0 x k := by
  unfold mulUp
  by_cases h : x < i
  · rw [if_pos h, if_pos (by omega)]
  · by_cases h2 : x = i
    · subst h2; rw [if_neg h, if_pos rfl, if_pos (by omega)]; rfl
    · rw [if_neg h, if_neg h2, if_neg (by omega)]
      split <;> rfl
theorem mulUp_done (c : Nat) (a b : M) {r x : Nat} (h : x < r) (k : Nat) : mulUp c a b r 0 x k = mulM c a b x k := by unfold mulUp; rw [if_pos h]
end Go.Proofs.Ythdapoipfnnaeaa.Mx
