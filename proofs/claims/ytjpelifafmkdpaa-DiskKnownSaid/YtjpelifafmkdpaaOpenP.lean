/- The writes of chapter 18's laws, opened. -/
import Derived.Test.YtjpelifafmkdpaaOpenS
namespace Go.Proofs.Ytjpelifafmkdpaa.Open
open Go.ChangeShapes Go.WideShapes Go.ChangeAt Go.RowKit Go.Deep Mem

/-- A write as it lies in memory. -/
structure OneP where
  i : UInt8
  A : Option Addr
  b : List UInt8
  c : Nat
def OneP.cells (x : OneP) : List Value := [u8v x.i, .slice x.A x.b.length x.c]
def OneP.good (W : World) (x : OneP) : Prop := Bytes W W.heap.size x.A x.b ∧ x.b.length ≤ x.c
theorem put_trod {H : Type} {enc : TypeId × Value → H} {P : Program} {W : World} {E U : TypeId} {f0 f1 : Field} {base : Nat} {sp : Nat → Bool} {held : Bool}
    (hE : P.underlying E = some (.struct #[f0, f1])) (h1 : oneCellFields P #[f0, f1] = true) (hC : P.cellsOf E = 2) (t0 : P.underlying f0.type = some (.int .u8)) (t1 : P.underlying f1.type = some (.slice U)) (tU : P.underlying U = some (.int .u8)) (cU : P.cellsOf U = 1)
    (fuel : Nat) (cs : List Value) (x : DataW H × List MemPlace) (hf : DataW.trod enc P W base sp held fuel E cs = some x) :
    ∃ y : OneP, cs = y.cells ∧ y.good W := by
  obtain ⟨ys, n, _, hx, hlen, hyl, hg⟩ := DataW.trod_struct hE hf
  rw [hC] at hlen
  obtain ⟨o0, k0⟩ := hone_of h1 0 f0 rfl
  obtain ⟨o1, k1⟩ := hone_of h1 1 f1 rfl
  match cs, hlen, ys, hyl with
  | [c0, c1], _, [y0, y1], _ =>
    have g0 := hg 0 f0 rfl
    have g1 := hg 1 f1 rfl
    simp [o0, k0] at g0
    simp [o1, k1] at g1
    obtain ⟨n0, e0, _, w0⟩ := DataW.trod_int t0 g0
    obtain ⟨A, l, c, e2, hle, _, hb⟩ := bytes_in t1 tU cU g1
    injection e0 with e0 _; injection e2 with e2 _
    subst e0; subst e2
    obtain ⟨s, hs⟩ := u8_of_wf w0
    refine ⟨⟨s, A, l, c⟩, ?_, hb, hle⟩
    simp only [OneP.cells, u8v, ← hs]
theorem open_puts {H : Type} {enc : TypeId × Value → H} {P : Program} {W : World} {T E U : TypeId} {f0 f1 : Field} {r : Reach} {b0 base : Nat} {sp : Nat → Bool} {held : Bool} {v : Value} {d : DataW H} {p : List MemPlace}
    (hT : P.underlying T = some (.slice E)) (hE : P.underlying E = some (.struct #[f0, f1])) (h1 : oneCellFields P #[f0, f1] = true) (hC : P.cellsOf E = 2) (t0 : P.underlying f0.type = some (.int .u8)) (t1 : P.underlying f1.type = some (.slice U)) (tU : P.underlying U = some (.int .u8)) (cU : P.cellsOf U = 1)
    (hv : Value.okWide P W r b0 T v) (h : DataW.Trod enc P W base sp held T v d p) :
    ∃ (A : Option Addr) (l : List OneP) (c : Nat), v = .slice A l.length c ∧ l.length ≤ c ∧ c ≤ maxLen ∧ Cells W W.heap.size A (l.flatMap OneP.cells) ∧ ∀ x ∈ l, x.good W :=
  open_structs ⟨0, none, [], 0⟩ OneP.cells 2 (by decide) (fun _ => rfl) (OneP.good W) hT hC (fun fuel cs x hf => put_trod hE h1 hC t0 t1 tU cU fuel cs x hf) hv h
/-- The parts of the j-th write. -/
theorem put_at {w : World} {B : Nat} {A : Option Addr} {l : List OneP} (h : Cells w B A (l.flatMap OneP.cells)) {j : Nat} {x : OneP} (hx : l[j]? = some x) :
    ∃ b off, A = some ⟨b, off, none⟩ ∧ b < B ∧ w.cell? ⟨b, off + j * 2, none⟩ = some (.int .u8 (x.i.toNat : Int)) ∧ w.cell? ⟨b, off + j * 2 + 1, none⟩ = some (.slice x.A x.b.length x.c) := by
  have hK : ∀ x : OneP, x.cells.length = 2 := fun _ => rfl
  have hl : ∀ k, k < 2 → (l.flatMap OneP.cells)[j * 2 + k]? = (x.cells)[k]? := fun k hk => flat_get hK l j k x hx hk
  have hpos : 0 < (l.flatMap OneP.cells).length := by
    have := (List.getElem?_eq_some_iff.1 ((hl 0 (by decide)).trans rfl)).1
    omega
  obtain ⟨b, off, e, hb, hc⟩ := h hpos
  exact ⟨b, off, e, hb, hc (j * 2 + 0) _ ((hl 0 (by decide)).trans rfl), hc (j * 2 + 1) _ ((hl 1 (by decide)).trans rfl)⟩
end Go.Proofs.Ytjpelifafmkdpaa.Open
