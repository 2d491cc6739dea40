/- A region that may panic: the panic's post hangs on the frame's deferred calls and the world alone. -/
import Derived.Deep.RegionHeld3
namespace Go.Proofs.YtebdmfmadbikaaaDoor.Rng


def PanQ (Q : Exit → Act → World → Prop) (d : List Deferred) (Qp : List PanicEntry → World → Prop) : Exit → Act → World → Prop
  | .panic ch, a, w => a.defers = d ∧ Qp ch w
  | e, a, w => Q e a w
theorem PanQ.normal {Q : Exit → Act → World → Prop} {d : List Deferred} {Qp : List PanicEntry → World → Prop} {a : Act} {w : World} (h : Q .normal a w) : PanQ Q d Qp .normal a w := h
theorem wp_region_pan {P : Program} {id : Nat} {ops : Array Oper} {b : Bool} {Q : Exit → Act → World → Prop} {a : Act} {w : World} (d : List Deferred) (Qp : List PanicEntry → World → Prop)
    (hq : ∀ ch a' w', a'.defers = d → Qp ch w' → Q (.panic ch) a' w') (h : (Code.region id ops b).wp P (PanQ Q d Qp) a w) : (Code.region id ops b).wp P Q a w :=
  Code.wp_mono (fun e a' w' h' => by cases e <;> first | exact h' | exact hq _ _ _ h'.1 h'.2) h
/-- Likewise, two slots of the frame kept in mind. -/
def PanR (Q : Exit → Act → World → Prop) (d : List Deferred) (x y : Value) (Qp : List PanicEntry → World → Prop) : Exit → Act → World → Prop
  | .panic ch, a, w => a.defers = d ∧ (a.tmps.getD 2 undef = x ∧ a.tmps.getD 3 undef = y) ∧ Qp ch w
  | e, a, w => Q e a w
theorem PanR.normal {Q : Exit → Act → World → Prop} {d : List Deferred} {x y : Value} {Qp : List PanicEntry → World → Prop} {a : Act} {w : World} (h : Q .normal a w) : PanR Q d x y Qp .normal a w := h
theorem getD_other {t : Array Value} {i k : Nat} {v u : Value} (h : i ≠ k) : (t.setIfInBounds i v).getD k u = t.getD k u := by
  rw [Array.getD_eq_getD_getElem?, Array.getD_eq_getD_getElem?, Array.getElem?_setIfInBounds_ne h]
theorem panR_put {Q : Exit → Act → World → Prop} {d : List Deferred} {x y : Value} {Qp : List PanicEntry → World → Prop} {i : Nat} {v : Value} {c : List PanicEntry} {a : Act} {w : World} (hi : i ≠ 2 ∧ i ≠ 3) (h : PanR Q d x y Qp (.panic c) (a.put (some i) v) w) : PanR Q d x y Qp (.panic c) a w :=
  ⟨h.1, ⟨(getD_other hi.1).symm.trans h.2.1.1, (getD_other hi.2).symm.trans h.2.1.2⟩, h.2.2⟩
theorem wp_region_panR {P : Program} {id : Nat} {ops : Array Oper} {b : Bool} {Q : Exit → Act → World → Prop} {a : Act} {w : World} (d : List Deferred) (x y : Value) (Qp : List PanicEntry → World → Prop)
    (hq : ∀ ch a' w', a'.defers = d → a'.tmps.getD 2 undef = x → a'.tmps.getD 3 undef = y → Qp ch w' → Q (.panic ch) a' w') (h : (Code.region id ops b).wp P (PanR Q d x y Qp) a w) : (Code.region id ops b).wp P Q a w :=
  Code.wp_mono (fun e a' w' h' => by cases e <;> first | exact h' | exact hq _ _ _ h'.1 h'.2.1.1 h'.2.1.2 h'.2.2) h
end Go.Proofs.YtebdmfmadbikaaaDoor.Rng
