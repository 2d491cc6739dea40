/- A share, opened. -/
import Derived.Test.YtlmcmcafbepjmaaOpenS
import Derived.Test.YtlmcmcafbepjmaaShSt
namespace Go.Proofs.Ytlmcmcafbepjmaa.Open
open Go.ChangeShapes Go.WideShapes Go.ChangeAt Go.RowKit Go.Deep Mem

theorem share_trod {H : Type} {enc : TypeId × Value → H} {P : Program} {W : World} {E U : TypeId} {f0 f1 f2 f3 : Field} {base : Nat} {sp : Nat → Bool} {held : Bool}
    (hE : P.underlying E = some (.struct #[f0, f1, f2, f3])) (h1 : oneCellFields P #[f0, f1, f2, f3] = true) (hC : P.cellsOf E = 4) (t0 : P.underlying f0.type = some (.slice U)) (t1 : P.underlying f1.type = some (.int .i64)) (t2 : P.underlying f2.type = some (.int .i64)) (t3 : P.underlying f3.type = some (.slice U)) (tU : P.underlying U = some (.int .u8)) (cU : P.cellsOf U = 1)
    (fuel : Nat) (cs : List Value) (x : DataW H × List MemPlace) (hf : DataW.trod enc P W base sp held fuel E cs = some x) :
    ∃ y : ShW.Sm, cs = y.cells.toList ∧ y.good W := by
  obtain ⟨ys, n, _, hx, hlen, hyl, hg⟩ := DataW.trod_struct hE hf
  rw [hC] at hlen
  obtain ⟨o0, k0⟩ := hone_of h1 0 f0 rfl
  obtain ⟨o1, k1⟩ := hone_of h1 1 f1 rfl
  obtain ⟨o2, k2⟩ := hone_of h1 2 f2 rfl
  obtain ⟨o3, k3⟩ := hone_of h1 3 f3 rfl
  match cs, hlen, ys, hyl with
  | [c0, c1, c2, c3], _, [y0, y1, y2, y3], _ =>
    have g0 := hg 0 f0 rfl
    have g1 := hg 1 f1 rfl
    have g2 := hg 2 f2 rfl
    have g3 := hg 3 f3 rfl
    simp [o0, k0] at g0
    simp [o1, k1] at g1
    simp [o2, k2] at g2
    simp [o3, k3] at g3
    obtain ⟨A, l, c, e0, hle, hm, hb⟩ := bytes_in t0 tU cU g0
    obtain ⟨n1, e1, _, w1⟩ := DataW.trod_int t1 g1
    obtain ⟨n2, e2, _, w2⟩ := DataW.trod_int t2 g2
    obtain ⟨B, r, d, e3, hle', hm', hb'⟩ := bytes_in t3 tU cU g3
    injection e0 with e0 _; injection e1 with e1 _; injection e2 with e2 _; injection e3 with e3 _
    subst e0; subst e1; subst e2; subst e3
    exact ⟨⟨⟨l, n1, n2, r⟩, A, c, B, d⟩, rfl, hb, hb', ⟨hle, hle'⟩, ⟨hm, hm'⟩, i64_of_wf w1, i64_of_wf w2⟩
theorem open_share {H : Type} {enc : TypeId × Value → H} {P : Program} {W : World} {E U : TypeId} {f0 f1 f2 f3 : Field} {r : Reach} {b0 base : Nat} {sp : Nat → Bool} {held : Bool} {v : Value} {d : DataW H} {p : List MemPlace}
    (hE : P.underlying E = some (.struct #[f0, f1, f2, f3])) (h1 : oneCellFields P #[f0, f1, f2, f3] = true) (hC : P.cellsOf E = 4) (t0 : P.underlying f0.type = some (.slice U)) (t1 : P.underlying f1.type = some (.int .i64)) (t2 : P.underlying f2.type = some (.int .i64)) (t3 : P.underlying f3.type = some (.slice U)) (tU : P.underlying U = some (.int .u8)) (cU : P.cellsOf U = 1)
    (hv : Value.okWide P W r b0 E v) (h : DataW.Trod enc P W base sp held E v d p) :
    ∃ y : ShW.Sm, v = .agg y.cells ∧ y.good W := by
  obtain ⟨cs, rfl, hs⟩ := okWide_struct hE hv
  obtain ⟨fuel, hf⟩ := h
  obtain ⟨y, hy, hg⟩ := share_trod hE h1 hC t0 t1 t2 t3 tU cU fuel _ _ hf
  refine ⟨y, ?_, hg⟩
  rw [show cs = y.cells from Array.ext' (by simpa [Value.cells] using hy)]
end Go.Proofs.Ytlmcmcafbepjmaa.Open
