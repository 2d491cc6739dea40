/- A drawn region's moves, short: the operation is read off the region. -/
import Derived.Test.YthdapoipfnnaeaaHeldG
import Derived.Test.YthdapoipfnnaeaaThree
namespace Go.Proofs.Ythdapoipfnnaeaa.Rng
open Go.RowKit Go.Shelf Mem
set_option linter.unusedVariables false

theorem pU (a : Act) (i : Nat) (v : Value) : a.put (some i) v = { a with tmps := a.tmps.setIfInBounds i v } := rfl
theorem pU0 (a : Act) (v : Value) : a.put none v = a := rfl
theorem pA {α : Type _} (l : List α) (i : Nat) (v : α) : l.toArray.setIfInBounds i v = (l.set i v).toArray := List.setIfInBounds_toArray l i v
theorem pB {α : Type _} (x y : α) (l : List α) : (x :: l).set 0 y = y :: l := rfl
theorem pC {α : Type _} (x y : α) (l : List α) (n : Nat) : (x :: l).set (n + 1) y = x :: l.set n y := rfl
section
variable {P : Program} {ops : Array Oper} {Q : Exit → Act → World → Prop} {md : Region.Mode} {T : World → Prop} {st : List Nat} {d d2 d3 : Option Tmp} {op op2 op3 : Op} {t t2 t3 : TypeId} {ps ps2 ps3 : String} {af af2 af3 : Array Edge} {g g2 g3 : Option (Tmp × Bool)} {fuel : Nat} {listed : Array Bool} {a : Act} {w : World}
theorem tk (i : Nat) {v : Value} {a' : Act} (hi : ops[i]? = some ⟨d, op, t, ps, af, g⟩) (hv : ∀ w, T w → (execOp a.eval ⟨d, op, t, ps, af, g⟩).run P w = .ok (.value v) w) (h : wpAnyG P md ops Q T st fuel (listed.setIfInBounds i true) a' w)
    (ha : a.put d v = a' := by first | (simp only [pU, pU0, pA, pB, pC]; rfl) | rfl) (hT : T w := by assumption)
    (hs : Region.noSelect ops = true := by kernel_rfl) (hf : Region.free md ops listed i = true := by kernel_rfl) (hr : (Region.ready md ops listed).contains i = true := by kernel_rfl) (hw : (decide (i ∉ st) && (stWaits md ops st i && stOk st listed)) = true := by kernel_rfl)
    (hQ : ∀ c a w, Q (.panic c) (a.put d v) w → Q (.panic c) a w := by exact fun _ _ _ h => h) (hW : Region.wanted ⟨d, op, t, ps, af, g⟩ (yielded ops a.tmps) = true := by rfl) : wpAnyG P md ops Q T st (fuel + 1) listed a w :=
  wpAnyG_take hi hs hf hr hw hQ (Or.inl ⟨hW, hv⟩) hT (by rw [← ha] at h; exact h)
theorem pu (i : Nat) {v : Value} {a' : Act} (h : wpAnyG P md ops Q T st fuel (listed.setIfInBounds i true) a' w) (hi : ops[i]? = some ⟨d, op, t, ps, af, g⟩ := by rfl) (hv : ∀ w, True → (execOp a.eval ⟨d, op, t, ps, af, g⟩).run P w = .ok (.value v) w := by intro w _; go_simp; try with_reducible rfl)
    (ha : a.put d v = a' := by first | (simp only [pU, pU0, pA, pB, pC]; rfl) | rfl) (hT : stOk st listed = true → T w := by exact fun _ => by assumption)
    (hs : Region.noSelect ops = true := by kernel_rfl) (hf : Region.free md ops listed i = true := by kernel_rfl) (hr : (Region.ready md ops listed).contains i = true := by kernel_rfl) (hw : decide (i ∉ st) = true := by kernel_rfl)
    (hQ : ∀ c a w, Q (.panic c) (a.put d v) w → Q (.panic c) a w := by exact fun _ _ _ h => h) (hW : Region.wanted ⟨d, op, t, ps, af, g⟩ (yielded ops a.tmps) = true := by rfl) : wpAnyG P md ops Q T st (fuel + 1) listed a w :=
  wpAnyG_pure hi hs hf hr hw hQ (Or.inl ⟨hW, hv⟩) hT (by rw [← ha] at h; exact h)
theorem ofK (i : Nat) {a' : Act} (h : wpAnyG P md ops Q T st fuel (listed.setIfInBounds i true) a' w) (hi : ops[i]? = some ⟨d, op, t, ps, af, g⟩ := by rfl) (ha : a.put d undef = a' := by first | (simp only [pU, pU0, pA, pB, pC]; rfl) | rfl) (hT : stOk st listed = true → T w := by exact fun _ => by assumption)
    (hs : Region.noSelect ops = true := by kernel_rfl) (hf : Region.free md ops listed i = true := by kernel_rfl) (hr : (Region.ready md ops listed).contains i = true := by kernel_rfl) (hw : decide (i ∉ st) = true := by kernel_rfl)
    (hQ : ∀ c a w, Q (.panic c) (a.put d undef) w → Q (.panic c) a w := by exact fun _ _ _ h => h) (hW : Region.wanted ⟨d, op, t, ps, af, g⟩ (yielded ops a.tmps) = false := by rfl) : wpAnyG P md ops Q T st (fuel + 1) listed a w :=
  wpAnyG_pure hi hs hf hr hw hQ (Or.inr ⟨hW, rfl⟩) hT (by rw [← ha] at h; exact h)
/-- What is to be shown where number i comes up. -/
abbrev UpG (P : Program) (ops : Array Oper) (Q : Exit → Act → World → Prop) (md : Region.Mode) (T : World → Prop) (st : List Nat) (fuel : Nat) (listed : Array Bool) (a : Act) (w : World) (i : Nat) (o : Oper) : Prop :=
  ∀ K' : Act → World → Prop, Shut (∀ a w, (stOk st (listed.setIfInBounds i true) = true → T w) → ((stOk st (listed.setIfInBounds i true) = true → T w) → wpAnyG P md ops Q T st fuel (listed.setIfInBounds i true) a w) → K' a w) → if Region.wanted o (yielded ops a.tmps) = true then Oper.wp P o a w K' Q else K' (a.put o.dst undef) w
theorem on (i : Nat) (ho : ops[i]? = some ⟨d, op, t, ps, af, g⟩) (h : UpG P ops Q md T st fuel listed a w i ⟨d, op, t, ps, af, g⟩) (hr : Region.ready md ops listed = [i] := by kernel_rfl) : wpAnyG P md ops Q T st (fuel + 1) listed a w := wpAnyG_one hr ho h
theorem tw (i j : Nat) (ho : ops[i]? = some ⟨d, op, t, ps, af, g⟩) (hu : ops[j]? = some ⟨d2, op2, t2, ps2, af2, g2⟩) (h : UpG P ops Q md T st fuel listed a w i ⟨d, op, t, ps, af, g⟩) (h2 : UpG P ops Q md T st fuel listed a w j ⟨d2, op2, t2, ps2, af2, g2⟩) (hr : Region.ready md ops listed = [i, j] := by kernel_rfl) : wpAnyG P md ops Q T st (fuel + 1) listed a w := wpAnyG_two hr ho hu h h2
theorem th (i j k : Nat) (ho : ops[i]? = some ⟨d, op, t, ps, af, g⟩) (hu : ops[j]? = some ⟨d2, op2, t2, ps2, af2, g2⟩) (hv : ops[k]? = some ⟨d3, op3, t3, ps3, af3, g3⟩) (h : UpG P ops Q md T st fuel listed a w i ⟨d, op, t, ps, af, g⟩) (h2 : UpG P ops Q md T st fuel listed a w j ⟨d2, op2, t2, ps2, af2, g2⟩) (h3 : UpG P ops Q md T st fuel listed a w k ⟨d3, op3, t3, ps3, af3, g3⟩)
    (hr : Region.ready md ops listed = [i, j, k] := by kernel_rfl) : wpAnyG P md ops Q T st (fuel + 1) listed a w := wpAnyG_three hr ho hu hv h h2 h3
end
section
variable {α : Type _} {x a b c d e f g h i j k m n : α} {l : List α}
theorem mm0 : x ∈ x :: l := .head _
theorem mm1 : x ∈ a :: x :: l := .tail _ mm0
theorem mm2 : x ∈ a :: b :: x :: l := .tail _ mm1
theorem mm3 : x ∈ a :: b :: c :: x :: l := .tail _ mm2
theorem mm4 : x ∈ a :: b :: c :: d :: x :: l := .tail _ mm3
theorem mm5 : x ∈ a :: b :: c :: d :: e :: x :: l := .tail _ mm4
theorem mm6 : x ∈ a :: b :: c :: d :: e :: f :: x :: l := .tail _ mm5
theorem mm7 : x ∈ a :: b :: c :: d :: e :: f :: g :: x :: l := .tail _ mm6
theorem mm8 : x ∈ a :: b :: c :: d :: e :: f :: g :: h :: x :: l := .tail _ mm7
theorem mm9 : x ∈ a :: b :: c :: d :: e :: f :: g :: h :: i :: x :: l := .tail _ mm8
theorem mm10 : x ∈ a :: b :: c :: d :: e :: f :: g :: h :: i :: j :: x :: l := .tail _ mm9
theorem mm11 : x ∈ a :: b :: c :: d :: e :: f :: g :: h :: i :: j :: k :: x :: l := .tail _ mm10
theorem mm12 : x ∈ a :: b :: c :: d :: e :: f :: g :: h :: i :: j :: k :: m :: x :: l := .tail _ mm11
variable {p : α → Prop}
theorem fc (h : p x) (h2 : ∀ y ∈ l, p y) : ∀ y ∈ x :: l, p y := List.forall_mem_cons.2 ⟨h, h2⟩
theorem fn0 : ∀ y ∈ ([] : List α), p y := fun _ h => (List.not_mem_nil h).elim
end
end Go.Proofs.Ythdapoipfnnaeaa.Rng
