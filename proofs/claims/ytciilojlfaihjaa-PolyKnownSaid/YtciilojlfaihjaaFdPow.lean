/- What a field's calls tell: powers, orders. -/
import Derived.Test.YtciilojlfaihjaaFdOps
namespace Go.Proofs.Ytciilojlfaihjaa.FdW
open Go.RowKit Mem Gf
set_option linter.unusedVariables false

theorem FldR.keep {w w' : World} {r : Option Nat} (h : FldR w r) (hb : Below w.heap.size w w') : FldR w' r := fun p hp => (h p hp).keep hb
theorem FldR.fr {w w' : World} {r : Option Nat} {S : Nat → Prop} (h : FldR w r) (hf : Fr S w w') (hS : ∀ p, r = some p → ¬ S p) : FldR w' r := fun p hp => (h p hp).fr hf (hS p hp)
theorem FldR.some {w : World} {p : Nat} (h : Fld w p) : FldR w (some p) := fun q hq => by injection hq with hq; rw [← hq]; exact h
theorem FldR.none {w : World} : FldR w none := fun _ h => by cases h

end Go.Proofs.Ytciilojlfaihjaa.FdW
