/- A matrix, opened. -/
import Derived.Test.YthdapoipfnnaeaaOpenS
namespace Go.Proofs.Ythdapoipfnnaeaa.Open
open Go.ChangeShapes Go.WideShapes Go.ChangeAt Go.RowKit Go.Deep Mem

/-- What is known of a matrix that comes in. -/
structure MtOk (W : World) (R C : Int) (A : Option Addr) (l : List UInt8) (c : Nat) : Prop where
  row : Bytes W W.heap.size A l
  le : l.length ≤ c
  max : c ≤ maxLen
  rows : -9223372036854775808 ≤ R ∧ R ≤ 9223372036854775807
  cols : -9223372036854775808 ≤ C ∧ C ≤ 9223372036854775807
theorem matrix_trod {H : Type} {enc : TypeId × Value → H} {P : Program} {W : World} {E U : TypeId} {f0 f1 f2 : Field} {base : Nat} {sp : Nat → Bool} {held : Bool}
    (hE : P.underlying E = some (.struct #[f0, f1, f2])) (h1 : oneCellFields P #[f0, f1, f2] = true) (hC : P.cellsOf E = 3) (t0 : P.underlying f0.type = some (.int .i64)) (t1 : P.underlying f1.type = some (.int .i64)) (t2 : P.underlying f2.type = some (.slice U)) (tU : P.underlying U = some (.int .u8)) (cU : P.cellsOf U = 1)
    (fuel : Nat) (cs : List Value) (x : DataW H × List MemPlace) (hf : DataW.trod enc P W base sp held fuel E cs = some x) :
    ∃ R C A l c, cs = [.int .i64 R, .int .i64 C, .slice A (List.length l) c] ∧ MtOk W R C A l c := by
  obtain ⟨ys, n, _, hx, hlen, hyl, hg⟩ := DataW.trod_struct hE hf
  rw [hC] at hlen
  obtain ⟨o0, k0⟩ := hone_of h1 0 f0 rfl
  obtain ⟨o1, k1⟩ := hone_of h1 1 f1 rfl
  obtain ⟨o2, k2⟩ := hone_of h1 2 f2 rfl
  match cs, hlen, ys, hyl with
  | [c0, c1, c2], _, [y0, y1, y2], _ =>
    have g0 := hg 0 f0 rfl
    have g1 := hg 1 f1 rfl
    have g2 := hg 2 f2 rfl
    simp [o0, k0] at g0
    simp [o1, k1] at g1
    simp [o2, k2] at g2
    obtain ⟨n0, e0, _, w0⟩ := DataW.trod_int t0 g0
    obtain ⟨n1, e1, _, w1⟩ := DataW.trod_int t1 g1
    obtain ⟨A, l, c, e2, hle, hm, hb⟩ := bytes_in t2 tU cU g2
    injection e0 with e0 _; injection e1 with e1 _; injection e2 with e2 _
    subst e0; subst e1; subst e2
    have b0 := i64_of_wf w0
    have b1 := i64_of_wf w1
    exact ⟨n0, n1, A, l, c, rfl, hb, hle, hm, ⟨by omega, by omega⟩, ⟨by omega, by omega⟩⟩
theorem open_matrix {H : Type} {enc : TypeId × Value → H} {P : Program} {W : World} {E U : TypeId} {f0 f1 f2 : Field} {r : Reach} {b0 base : Nat} {sp : Nat → Bool} {held : Bool} {v : Value} {d : DataW H} {p : List MemPlace}
    (hE : P.underlying E = some (.struct #[f0, f1, f2])) (h1 : oneCellFields P #[f0, f1, f2] = true) (hC : P.cellsOf E = 3) (t0 : P.underlying f0.type = some (.int .i64)) (t1 : P.underlying f1.type = some (.int .i64)) (t2 : P.underlying f2.type = some (.slice U)) (tU : P.underlying U = some (.int .u8)) (cU : P.cellsOf U = 1)
    (hv : Value.okWide P W r b0 E v) (h : DataW.Trod enc P W base sp held E v d p) :
    ∃ R C A l c, v = .agg #[.int .i64 R, .int .i64 C, .slice A (List.length l) c] ∧ MtOk W R C A l c := by
  obtain ⟨cs, rfl, hs⟩ := okWide_struct hE hv
  obtain ⟨fuel, hf⟩ := h
  obtain ⟨R, C, A, l, c, hy, hg⟩ := matrix_trod hE h1 hC t0 t1 t2 tU cU fuel _ _ hf
  refine ⟨R, C, A, l, c, ?_, hg⟩
  rw [show cs = #[.int .i64 R, .int .i64 C, .slice A (List.length l) c] from Array.ext' (by simpa [Value.cells] using hy)]
end Go.Proofs.Ythdapoipfnnaeaa.Open
