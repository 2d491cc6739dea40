/- The calls of chapter 22, opened. -/
import Derived.Test.YtdgaicnnaidkkaaOpenS
namespace Go.Proofs.Ytdgaicnnaidkkaa.Open
open Go.ChangeShapes Go.WideShapes Go.ChangeAt Go.RowKit Go.Deep Mem

/-- A call as it lies in memory. -/
structure OneC where
  k : UInt8
  n : Int
  A : Option Addr
  b : List UInt8
  c : Nat
def OneC.cells (x : OneC) : List Value := [u8v x.k, .int .i64 x.n, .slice x.A x.b.length x.c]
def OneC.good (W : World) (x : OneC) : Prop := (-9223372036854775808 ≤ x.n ∧ x.n ≤ 9223372036854775807) ∧ Bytes W W.heap.size x.A x.b ∧ x.b.length ≤ x.c
theorem call_trod {H : Type} {enc : TypeId × Value → H} {P : Program} {W : World} {E U : TypeId} {f0 f1 f2 : Field} {base : Nat} {sp : Nat → Bool} {held : Bool}
    (hE : P.underlying E = some (.struct #[f0, f1, f2])) (h1 : oneCellFields P #[f0, f1, f2] = true) (hC : P.cellsOf E = 3) (t0 : P.underlying f0.type = some (.int .u8)) (t1 : P.underlying f1.type = some (.int .i64)) (t2 : P.underlying f2.type = some (.slice U)) (tU : P.underlying U = some (.int .u8)) (cU : P.cellsOf U = 1)
    (fuel : Nat) (cs : List Value) (x : DataW H × List MemPlace) (hf : DataW.trod enc P W base sp held fuel E cs = some x) :
    ∃ y : OneC, cs = y.cells ∧ y.good W := by
  obtain ⟨ys, n, _, hx, hlen, hyl, hg⟩ := DataW.trod_struct hE hf
  rw [hC] at hlen
  obtain ⟨o0, k0⟩ := hone_of h1 0 f0 rfl
  obtain ⟨o1, k1⟩ := hone_of h1 1 f1 rfl
  obtain ⟨o2, k2⟩ := hone_of h1 2 f2 rfl
  match cs, hlen, ys, hyl with
  | [c0, c1, c2], _, [y0, y1, y2], _ =>
    have g0 := hg 0 f0 rfl
    have g1 := hg 1 f1 rfl
    have g2 := hg 2 f2 rfl
    simp [o0, k0] at g0
    simp [o1, k1] at g1
    simp [o2, k2] at g2
    obtain ⟨n0, e0, _, w0⟩ := DataW.trod_int t0 g0
    obtain ⟨n1, e1, _, w1⟩ := DataW.trod_int t1 g1
    obtain ⟨A, l, c, e2, hle, _, hb⟩ := bytes_in t2 tU cU g2
    injection e0 with e0 _; injection e1 with e1 _; injection e2 with e2 _
    subst e0; subst e1; subst e2
    obtain ⟨s, hs⟩ := u8_of_wf w0
    refine ⟨⟨s, n1, A, l, c⟩, ?_, i64_of_wf w1, hb, hle⟩
    simp only [OneC.cells, u8v, ← hs]
theorem open_calls {H : Type} {enc : TypeId × Value → H} {P : Program} {W : World} {T E U : TypeId} {f0 f1 f2 : Field} {r : Reach} {b0 base : Nat} {sp : Nat → Bool} {held : Bool} {v : Value} {d : DataW H} {p : List MemPlace}
    (hT : P.underlying T = some (.slice E)) (hE : P.underlying E = some (.struct #[f0, f1, f2])) (h1 : oneCellFields P #[f0, f1, f2] = true) (hC : P.cellsOf E = 3) (t0 : P.underlying f0.type = some (.int .u8)) (t1 : P.underlying f1.type = some (.int .i64)) (t2 : P.underlying f2.type = some (.slice U)) (tU : P.underlying U = some (.int .u8)) (cU : P.cellsOf U = 1)
    (hv : Value.okWide P W r b0 T v) (h : DataW.Trod enc P W base sp held T v d p) :
    ∃ (A : Option Addr) (l : List OneC) (c : Nat), v = .slice A l.length c ∧ l.length ≤ c ∧ c ≤ maxLen ∧ Cells W W.heap.size A (l.flatMap OneC.cells) ∧ ∀ x ∈ l, x.good W :=
  open_structs ⟨0, 0, none, [], 0⟩ OneC.cells 3 (by decide) (fun _ => rfl) (OneC.good W) hT hC (fun fuel cs x hf => call_trod hE h1 hC t0 t1 t2 tU cU fuel cs x hf) hv h
/-- The parts of the j-th call. -/
theorem call_at {w : World} {B : Nat} {A : Option Addr} {l : List OneC} (h : Cells w B A (l.flatMap OneC.cells)) {j : Nat} {x : OneC} (hx : l[j]? = some x) :
    ∃ b off, A = some ⟨b, off, none⟩ ∧ b < B ∧ w.cell? ⟨b, off + j * 3, none⟩ = some (.int .u8 (x.k.toNat : Int)) ∧ w.cell? ⟨b, off + j * 3 + 1, none⟩ = some (.int .i64 x.n) ∧ w.cell? ⟨b, off + j * 3 + 2, none⟩ = some (.slice x.A x.b.length x.c) := by
  have hK : ∀ x : OneC, x.cells.length = 3 := fun _ => rfl
  have hl : ∀ k, k < 3 → (l.flatMap OneC.cells)[j * 3 + k]? = (x.cells)[k]? := fun k hk => flat_get hK l j k x hx hk
  have hpos : 0 < (l.flatMap OneC.cells).length := by
    have := (List.getElem?_eq_some_iff.1 ((hl 0 (by decide)).trans rfl)).1
    omega
  obtain ⟨b, off, e, hb, hc⟩ := h hpos
  exact ⟨b, off, e, hb, hc (j * 3 + 0) _ ((hl 0 (by decide)).trans rfl), hc (j * 3 + 1) _ ((hl 1 (by decide)).trans rfl), hc (j * 3 + 2) _ ((hl 2 (by decide)).trans rfl)⟩
end Go.Proofs.Ytdgaicnnaidkkaa.Open
