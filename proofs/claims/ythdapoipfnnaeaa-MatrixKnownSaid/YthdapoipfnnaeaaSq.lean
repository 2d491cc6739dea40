/- A drawn region's moves with their usual arguments left out. -/
import Derived.Test.YthdapoipfnnaeaaHeldG
namespace Go.Proofs.Ythdapoipfnnaeaa.Rng
open Go.RowKit Go.Shelf Mem
set_option linter.unusedVariables false

section
variable {P : Program} {ops : Array Oper} {Q : Exit → Act → World → Prop} {md : Region.Mode} {T : World → Prop} {st : List Nat}
theorem tkG (i : Nat) (oi : Oper) {v : Value} {fuel : Nat} {listed : Array Bool} {a : Act} {w : World} (hv : ∀ w, T w → (execOp a.eval oi).run P w = .ok (.value v) w) (hT : T w)
    (h : wpAnyG P md ops Q T st fuel (listed.setIfInBounds i true) (a.put oi.dst v) w) (hi : ops[i]? = some oi := by rfl)
    (hs : Region.noSelect ops = true := by kernel_rfl) (hf : Region.free md ops listed i = true := by kernel_rfl) (hr : (Region.ready md ops listed).contains i = true := by kernel_rfl) (hw : (decide (i ∉ st) && (stWaits md ops st i && stOk st listed)) = true := by kernel_rfl)
    (hQ : ∀ c a w, Q (.panic c) (a.put oi.dst v) w → Q (.panic c) a w := by exact fun _ _ _ h => h) (hW : Region.wanted oi (yielded ops a.tmps) = true := by rfl) : wpAnyG P md ops Q T st (fuel + 1) listed a w :=
  wpAnyG_take hi hs hf hr hw hQ (Or.inl ⟨hW, hv⟩) hT h
theorem puG (i : Nat) (oi : Oper) {v : Value} {fuel : Nat} {listed : Array Bool} {a : Act} {w : World} (hv : ∀ w, True → (execOp a.eval oi).run P w = .ok (.value v) w) (hT : stOk st listed = true → T w)
    (h : wpAnyG P md ops Q T st fuel (listed.setIfInBounds i true) (a.put oi.dst v) w) (hi : ops[i]? = some oi := by rfl)
    (hs : Region.noSelect ops = true := by kernel_rfl) (hf : Region.free md ops listed i = true := by kernel_rfl) (hr : (Region.ready md ops listed).contains i = true := by kernel_rfl) (hw : decide (i ∉ st) = true := by kernel_rfl)
    (hQ : ∀ c a w, Q (.panic c) (a.put oi.dst v) w → Q (.panic c) a w := by exact fun _ _ _ h => h) (hW : Region.wanted oi (yielded ops a.tmps) = true := by rfl) : wpAnyG P md ops Q T st (fuel + 1) listed a w :=
  wpAnyG_pure hi hs hf hr hw hQ (Or.inl ⟨hW, hv⟩) hT h
theorem ofG (i : Nat) (oi : Oper) {fuel : Nat} {listed : Array Bool} {a : Act} {w : World} (hT : stOk st listed = true → T w)
    (h : wpAnyG P md ops Q T st fuel (listed.setIfInBounds i true) (a.put oi.dst undef) w) (hi : ops[i]? = some oi := by rfl)
    (hs : Region.noSelect ops = true := by kernel_rfl) (hf : Region.free md ops listed i = true := by kernel_rfl) (hr : (Region.ready md ops listed).contains i = true := by kernel_rfl) (hw : decide (i ∉ st) = true := by kernel_rfl)
    (hQ : ∀ c a w, Q (.panic c) (a.put oi.dst undef) w → Q (.panic c) a w := by exact fun _ _ _ h => h) (hW : Region.wanted oi (yielded ops a.tmps) = false := by rfl) : wpAnyG P md ops Q T st (fuel + 1) listed a w :=
  wpAnyG_pure hi hs hf hr hw hQ (Or.inr ⟨hW, rfl⟩) hT h
theorem onG (i : Nat) (o : Oper) {fuel : Nat} {listed : Array Bool} {a : Act} {w : World}
    (h : ∀ K' : Act → World → Prop, Shut (∀ a w, (stOk st (listed.setIfInBounds i true) = true → T w) → ((stOk st (listed.setIfInBounds i true) = true → T w) → wpAnyG P md ops Q T st fuel (listed.setIfInBounds i true) a w) → K' a w) → if Region.wanted o (yielded ops a.tmps) = true then Oper.wp P o a w K' Q else K' (a.put o.dst undef) w)
    (hr : Region.ready md ops listed = [i] := by kernel_rfl) (ho : ops[i]? = some o := by rfl) : wpAnyG P md ops Q T st (fuel + 1) listed a w := wpAnyG_one hr ho h
end
end Go.Proofs.Ythdapoipfnnaeaa.Rng
