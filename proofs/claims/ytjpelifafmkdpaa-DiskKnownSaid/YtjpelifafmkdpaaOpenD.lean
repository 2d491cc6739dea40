/- The calls of chapter 18, opened. -/
import Derived.Test.YtjpelifafmkdpaaOpenS
namespace Go.Proofs.Ytjpelifafmkdpaa.Open
open Go.ChangeShapes Go.WideShapes Go.ChangeAt Go.RowKit Go.Deep Mem

/-- A call as it lies in memory. -/
structure OneD where
  k : UInt8
  i : Int
  n : Int
  A : Option Addr
  b : List UInt8
  c : Nat
def OneD.cells (x : OneD) : List Value := [u8v x.k, .int .i64 x.i, .int .i64 x.n, .slice x.A x.b.length x.c]
def OneD.good (W : World) (x : OneD) : Prop := (-9223372036854775808 ≤ x.i ∧ x.i ≤ 9223372036854775807) ∧ (-9223372036854775808 ≤ x.n ∧ x.n ≤ 9223372036854775807) ∧ Bytes W W.heap.size x.A x.b ∧ x.b.length ≤ x.c
theorem dcall_trod {H : Type} {enc : TypeId × Value → H} {P : Program} {W : World} {E U : TypeId} {f0 f1 f2 f3 : Field} {base : Nat} {sp : Nat → Bool} {held : Bool}
    (hE : P.underlying E = some (.struct #[f0, f1, f2, f3])) (h1 : oneCellFields P #[f0, f1, f2, f3] = true) (hC : P.cellsOf E = 4) (t0 : P.underlying f0.type = some (.int .u8)) (t1 : P.underlying f1.type = some (.int .i64)) (t2 : P.underlying f2.type = some (.int .i64)) (t3 : P.underlying f3.type = some (.slice U)) (tU : P.underlying U = some (.int .u8)) (cU : P.cellsOf U = 1)
    (fuel : Nat) (cs : List Value) (x : DataW H × List MemPlace) (hf : DataW.trod enc P W base sp held fuel E cs = some x) :
    ∃ y : OneD, cs = y.cells ∧ y.good W := by
  obtain ⟨ys, n, _, hx, hlen, hyl, hg⟩ := DataW.trod_struct hE hf
  rw [hC] at hlen
  obtain ⟨o0, k0⟩ := hone_of h1 0 f0 rfl
  obtain ⟨o1, k1⟩ := hone_of h1 1 f1 rfl
  obtain ⟨o2, k2⟩ := hone_of h1 2 f2 rfl
  obtain ⟨o3, k3⟩ := hone_of h1 3 f3 rfl
  match cs, hlen, ys, hyl with
  | [c0, c1, c2, c3], _, [y0, y1, y2, y3], _ =>
    have g0 := hg 0 f0 rfl
    have g1 := hg 1 f1 rfl
    have g2 := hg 2 f2 rfl
    have g3 := hg 3 f3 rfl
    simp [o0, k0] at g0
    simp [o1, k1] at g1
    simp [o2, k2] at g2
    simp [o3, k3] at g3
    obtain ⟨n0, e0, _, w0⟩ := DataW.trod_int t0 g0
    obtain ⟨n1, e1, _, w1⟩ := DataW.trod_int t1 g1
    obtain ⟨n2, e2, _, w2⟩ := DataW.trod_int t2 g2
    obtain ⟨A, l, c, e3, hle, _, hb⟩ := bytes_in t3 tU cU g3
    injection e0 with e0 _; injection e1 with e1 _; injection e2 with e2 _; injection e3 with e3 _
    subst e0; subst e1; subst e2; subst e3
    obtain ⟨s, hs⟩ := u8_of_wf w0
    refine ⟨⟨s, n1, n2, A, l, c⟩, ?_, i64_of_wf w1, i64_of_wf w2, hb, hle⟩
    simp only [OneD.cells, u8v, ← hs]
theorem open_dcalls {H : Type} {enc : TypeId × Value → H} {P : Program} {W : World} {T E U : TypeId} {f0 f1 f2 f3 : Field} {r : Reach} {b0 base : Nat} {sp : Nat → Bool} {held : Bool} {v : Value} {d : DataW H} {p : List MemPlace}
    (hT : P.underlying T = some (.slice E)) (hE : P.underlying E = some (.struct #[f0, f1, f2, f3])) (h1 : oneCellFields P #[f0, f1, f2, f3] = true) (hC : P.cellsOf E = 4) (t0 : P.underlying f0.type = some (.int .u8)) (t1 : P.underlying f1.type = some (.int .i64)) (t2 : P.underlying f2.type = some (.int .i64)) (t3 : P.underlying f3.type = some (.slice U)) (tU : P.underlying U = some (.int .u8)) (cU : P.cellsOf U = 1)
    (hv : Value.okWide P W r b0 T v) (h : DataW.Trod enc P W base sp held T v d p) :
    ∃ (A : Option Addr) (l : List OneD) (c : Nat), v = .slice A l.length c ∧ l.length ≤ c ∧ c ≤ maxLen ∧ Cells W W.heap.size A (l.flatMap OneD.cells) ∧ ∀ x ∈ l, x.good W :=
  open_structs ⟨0, 0, 0, none, [], 0⟩ OneD.cells 4 (by decide) (fun _ => rfl) (OneD.good W) hT hC (fun fuel cs x hf => dcall_trod hE h1 hC t0 t1 t2 t3 tU cU fuel cs x hf) hv h
/-- The parts of the j-th call. -/
theorem dcall_at {w : World} {B : Nat} {A : Option Addr} {l : List OneD} (h : Cells w B A (l.flatMap OneD.cells)) {j : Nat} {x : OneD} (hx : l[j]? = some x) :
    ∃ b off, A = some ⟨b, off, none⟩ ∧ b < B ∧ w.cell? ⟨b, off + j * 4, none⟩ = some (.int .u8 (x.k.toNat : Int)) ∧ w.cell? ⟨b, off + j * 4 + 1, none⟩ = some (.int .i64 x.i) ∧ w.cell? ⟨b, off + j * 4 + 2, none⟩ = some (.int .i64 x.n) ∧ w.cell? ⟨b, off + j * 4 + 3, none⟩ = some (.slice x.A x.b.length x.c) := by
  have hK : ∀ x : OneD, x.cells.length = 4 := fun _ => rfl
  have hl : ∀ k, k < 4 → (l.flatMap OneD.cells)[j * 4 + k]? = (x.cells)[k]? := fun k hk => flat_get hK l j k x hx hk
  have hpos : 0 < (l.flatMap OneD.cells).length := by
    have := (List.getElem?_eq_some_iff.1 ((hl 0 (by decide)).trans rfl)).1
    omega
  obtain ⟨b, off, e, hb, hc⟩ := h hpos
  exact ⟨b, off, e, hb, hc (j * 4 + 0) _ ((hl 0 (by decide)).trans rfl), hc (j * 4 + 1) _ ((hl 1 (by decide)).trans rfl), hc (j * 4 + 2) _ ((hl 2 (by decide)).trans rfl), hc (j * 4 + 3) _ ((hl 3 (by decide)).trans rfl)⟩
end Go.Proofs.Ytjpelifafmkdpaa.Open
