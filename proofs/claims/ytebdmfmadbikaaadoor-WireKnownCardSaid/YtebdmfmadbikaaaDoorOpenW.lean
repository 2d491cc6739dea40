/- A message of package wire, opened. -/
import Derived.Test.YtebdmfmadbikaaaDoorOpenS
import Derived.Test.YtebdmfmadbikaaaDoorWrFew
namespace Go.Proofs.YtebdmfmadbikaaaDoor.Open
open Go.ChangeShapes Go.WideShapes Go.ChangeAt Go.RowKit Go.Deep Mem
set_option linter.unusedVariables false

theorem structs_in {H : Type} {enc : TypeId × Value → H} {P : Program} {W : World} {T E : TypeId} {base fuel : Nat} {sp : Nat → Bool} {held : Bool} {vs : List Value} {x0 : DataW H × List MemPlace}
    {α : Type} (dflt : α) (cs : α → List Value) (K : Nat) (hK0 : 0 < K) (hK : ∀ x, (cs x).length = K) (good : α → Prop) (hT : P.underlying T = some (.slice E)) (hC : P.cellsOf E = K)
    (hfd : ∀ (fuel : Nat) (c : List Value) (x : DataW H × List MemPlace), DataW.trod enc P W base sp held fuel E c = some x → ∃ y, c = cs y ∧ good y)
    (hf : DataW.trod enc P W base sp held fuel T vs = some x0) :
    ∃ (A : Option Addr) (l : List α) (c : Nat), vs = [.slice A l.length c] ∧ l.length ≤ c ∧ c ≤ maxLen ∧ Cells W W.heap.size A (l.flatMap cs) ∧ ∀ x ∈ l, good x := by
  rcases open_slice hT hf with ⟨hcs, _⟩ | ⟨x, len, cap, m, n, D, Pl, hcs, _, hl, hm, hmm, hx, hel⟩
  · exact ⟨none, [], 0, hcs, Nat.le_refl _, Nat.zero_le _, Cells.nil, by simp⟩
  · have hml : len ≤ m := by rw [hmm]; split <;> omega
    have hY : ∀ i, ∃ y : α, i < len → (∀ j v, (cs y)[j]? = some v → W.cell? ((x.add (i * K)).add j) = some v) ∧ good y := by
      intro i
      by_cases hi : i < len
      · obtain ⟨cs', hc, ht⟩ := hel i (by omega)
        rw [hC] at hc
        obtain ⟨_, hcl, hat⟩ := World.cells?_some hc
        obtain ⟨y, rfl, hg⟩ := hfd _ _ _ ht
        refine ⟨y, fun _ => ⟨fun j v hj => ?_, hg⟩⟩
        have hjK : j < K := by
          have := (List.getElem?_eq_some_iff.1 hj).1
          rwa [hK] at this
        rw [hat j hjK, hj]
      · exact ⟨dflt, fun h => absurd h hi⟩
    obtain ⟨Y, hY⟩ := Classical.axiomOfChoice hY
    refine ⟨some x, (List.range len).map Y, cap, by simpa using hcs, by simpa using hl, hm, fun hlen => ?_, fun y hy => ?_⟩
    · have hlp : 0 < len := by
        rcases Nat.eq_zero_or_pos len with rfl | h
        · simp at hlen
        · exact h
      obtain ⟨b, off, spot⟩ := x
      obtain ⟨v0, hv0⟩ : ∃ v0, (cs (Y 0))[0]? = some v0 := ⟨(cs (Y 0))[0]'(by rw [hK]; exact hK0), List.getElem?_eq_getElem _⟩
      have hc0 := (hY 0 hlp).1 0 _ hv0
      have hspot : spot = none := by
        exact by simpa [Addr.add] using World.cell?_spot hc0
      subst hspot
      rw [Addr.add_lit, Addr.add_lit] at hc0
      refine ⟨b, off, rfl, World.block_lt_of_cell? _ _ hc0, fun j v hj => ?_⟩
      have hjl : j < len * K := by
        have := (List.getElem?_eq_some_iff.1 hj).1
        rwa [flat_len hK, List.length_map, List.length_range] at this
      have hjd : j / K < len := Nat.div_lt_of_lt_mul (by rw [Nat.mul_comm]; exact hjl)
      have hjm : j % K < K := Nat.mod_lt _ hK0
      have e : j = j / K * K + j % K := by rw [Nat.mul_comm]; exact (Nat.div_add_mod j K).symm
      rw [e, flat_get hK ((List.range len).map Y) (j / K) (j % K) (Y (j / K)) (by rw [List.getElem?_map, List.getElem?_range hjd]; rfl) hjm] at hj
      have := (hY (j / K) hjd).1 (j % K) v hj
      rw [Addr.add_lit, Addr.add_lit, Nat.add_assoc, ← e] at this
      exact this
    · obtain ⟨i, hi, rfl⟩ := List.mem_map.1 hy
      exact (hY i (List.mem_range.1 hi)).2
theorem ints_in {H : Type} {enc : TypeId × Value → H} {P : Program} {W : World} {T E : TypeId} {base fuel : Nat} {sp : Nat → Bool} {held : Bool} {cs : List Value} {x : DataW H × List MemPlace}
    (hT : P.underlying T = some (.slice E)) (hE : P.underlying E = some (.int .i64)) (hC : P.cellsOf E = 1) (hf : DataW.trod enc P W base sp held fuel T cs = some x) :
    ∃ (A : Option Addr) (l : List Int) (c : Nat), cs = [.slice A l.length c] ∧ l.length ≤ c ∧ c ≤ maxLen ∧ Cells W W.heap.size A (l.map fun x => .int .i64 x) := by
  rcases open_ints hT hE hC hf with ⟨hcs, _⟩ | ⟨x, l, c, zs, hcs, _, hl, hm, hz, hx, hcell, hwz⟩
  · exact ⟨none, [], 0, hcs, Nat.le_refl _, Nat.zero_le _, Cells.nil⟩
  · have hzl : l ≤ zs.length := by rw [hz]; split <;> omega
    refine ⟨some x, (List.range l).map fun i => zs.getD i 0, c, by simpa using hcs, by simpa using hl, hm, fun hlen => ?_⟩
    simp at hlen
    obtain ⟨b, off, spot⟩ := x
    have hspot : spot = none := by
      have hc0 := hcell 0 (by omega)
      exact by simpa [Addr.add] using World.cell?_spot hc0
    subst hspot
    refine ⟨b, off, rfl, ?_, fun j v hv => ?_⟩
    · have hc0 := hcell 0 (by omega)
      rw [Addr.add_lit] at hc0
      exact World.block_lt_of_cell? _ _ hc0
    · simp only [List.getElem?_map] at hv
      by_cases hj : j < l
      · have hc0 := hcell j (by omega)
        rw [Addr.add_lit] at hc0
        rw [hc0]
        simp [hj] at hv
        rw [← hv]
        simp [List.getD]
      · simp [hj] at hv

open Wi WiW
theorem str_list (s : ByteArray) : s = str s.data.toList := rfl
theorem id_trod {H : Type} {enc : TypeId × Value → H} {P : Program} {W : World} {E : TypeId} {f0 f1 : Field} {base : Nat} {sp : Nat → Bool} {held : Bool}
    (hE : P.underlying E = some (.struct #[f0, f1])) (h1 : oneCellFields P #[f0, f1] = true) (hC : P.cellsOf E = 2) (t0 : P.underlying f0.type = some .string) (t1 : P.underlying f1.type = some (.int .i64))
    (fuel : Nat) (cs : List Value) (x : DataW H × List MemPlace) (hf : DataW.trod enc P W base sp held fuel E cs = some x) :
    ∃ y : List UInt8 × Int, cs = dc y ∧ y.1.length ≤ 9223372036854775807 := by
  obtain ⟨ys, n, _, hx, hlen, hyl, hg⟩ := DataW.trod_struct hE hf
  rw [hC] at hlen
  obtain ⟨o0, k0⟩ := hone_of h1 0 f0 rfl
  obtain ⟨o1, k1⟩ := hone_of h1 1 f1 rfl
  match cs, hlen, ys, hyl with
  | [c0, c1], _, [y0, y1], _ =>
    have g0 := hg 0 f0 rfl
    have g1 := hg 1 f1 rfl
    simp [o0, k0] at g0
    simp [o1, k1] at g1
    obtain ⟨s, e0, _, w0⟩ := DataW.trod_string t0 g0
    obtain ⟨n1, e1, _, w1⟩ := DataW.trod_int t1 g1
    injection e0 with e0 _; injection e1 with e1 _
    subst e0; subst e1
    unfold maxLen at w0
    exact ⟨(s.data.toList, n1), rfl, by show s.size ≤ _; omega⟩
theorem msg_trod {H : Type} {enc : TypeId × Value → H} {P : Program} {W : World} {E UI UN UB : TypeId} {f0 f1 f2 f3 f4 f5 f6 f7 f8 f9 f10 f11 f12 f13 g0 g1 : Field} {base : Nat} {sp : Nat → Bool} {held : Bool}
    (hE : P.underlying E = some (.struct #[f0, f1, f2, f3, f4, f5, f6, f7, f8, f9, f10, f11, f12, f13])) (h1 : oneCellFields P #[f0, f1, f2, f3, f4, f5, f6, f7, f8, f9, f10, f11, f12, f13] = true) (hC : P.cellsOf E = 14) (t0 : P.underlying f0.type = some (.int .u8)) (t1 : P.underlying f1.type = some (.int .i64)) (t2 : P.underlying f2.type = some (.int .i64)) (t3 : P.underlying f3.type = some (.int .i64)) (t4 : P.underlying f4.type = some .string) (t5 : P.underlying f5.type = some (.int .i64)) (t6 : P.underlying f6.type = some (.int .i64)) (t7 : P.underlying f7.type = some (.int .i64)) (t8 : P.underlying f8.type = some (.int .i64)) (t9 : P.underlying f9.type = some (.int .i64)) (t10 : P.underlying f10.type = some .bool) (t11 : P.underlying f11.type = some (.slice UI)) (t12 : P.underlying f12.type = some (.slice UN)) (t13 : P.underlying f13.type = some (.slice UB)) (tI : P.underlying UI = some (.struct #[g0, g1])) (hI1 : oneCellFields P #[g0, g1] = true) (cI : P.cellsOf UI = 2) (tI0 : P.underlying g0.type = some .string) (tI1 : P.underlying g1.type = some (.int .i64)) (tN : P.underlying UN = some (.int .i64)) (cN : P.cellsOf UN = 1) (tB : P.underlying UB = some (.int .u8)) (cB : P.cellsOf UB = 1)
    (fuel : Nat) (cs : List Value) (x : DataW H × List MemPlace) (hf : DataW.trod enc P W base sp held fuel E cs = some x) :
    ∃ (m : Msg) (s : Sl), cs = (mv m s).toList ∧ MIn0 W W.heap.size m s := by
  obtain ⟨ys, n, _, hx, hlen, hyl, hg⟩ := DataW.trod_struct hE hf
  rw [hC] at hlen
  obtain ⟨o0, k0⟩ := hone_of h1 0 f0 rfl
  obtain ⟨o1, k1⟩ := hone_of h1 1 f1 rfl
  obtain ⟨o2, k2⟩ := hone_of h1 2 f2 rfl
  obtain ⟨o3, k3⟩ := hone_of h1 3 f3 rfl
  obtain ⟨o4, k4⟩ := hone_of h1 4 f4 rfl
  obtain ⟨o5, k5⟩ := hone_of h1 5 f5 rfl
  obtain ⟨o6, k6⟩ := hone_of h1 6 f6 rfl
  obtain ⟨o7, k7⟩ := hone_of h1 7 f7 rfl
  obtain ⟨o8, k8⟩ := hone_of h1 8 f8 rfl
  obtain ⟨o9, k9⟩ := hone_of h1 9 f9 rfl
  obtain ⟨o10, k10⟩ := hone_of h1 10 f10 rfl
  obtain ⟨o11, k11⟩ := hone_of h1 11 f11 rfl
  obtain ⟨o12, k12⟩ := hone_of h1 12 f12 rfl
  obtain ⟨o13, k13⟩ := hone_of h1 13 f13 rfl
  match cs, hlen, ys, hyl with
  | [c0, c1, c2, c3, c4, c5, c6, c7, c8, c9, c10, c11, c12, c13], _, [y0, y1, y2, y3, y4, y5, y6, y7, y8, y9, y10, y11, y12, y13], _ =>
    have q0 := hg 0 f0 rfl
    simp [o0, k0] at q0
    have q1 := hg 1 f1 rfl
    simp [o1, k1] at q1
    have q2 := hg 2 f2 rfl
    simp [o2, k2] at q2
    have q3 := hg 3 f3 rfl
    simp [o3, k3] at q3
    have q4 := hg 4 f4 rfl
    simp [o4, k4] at q4
    have q5 := hg 5 f5 rfl
    simp [o5, k5] at q5
    have q6 := hg 6 f6 rfl
    simp [o6, k6] at q6
    have q7 := hg 7 f7 rfl
    simp [o7, k7] at q7
    have q8 := hg 8 f8 rfl
    simp [o8, k8] at q8
    have q9 := hg 9 f9 rfl
    simp [o9, k9] at q9
    have q10 := hg 10 f10 rfl
    simp [o10, k10] at q10
    have q11 := hg 11 f11 rfl
    simp [o11, k11] at q11
    have q12 := hg 12 f12 rfl
    simp [o12, k12] at q12
    have q13 := hg 13 f13 rfl
    simp [o13, k13] at q13
    obtain ⟨n0, e0, _, w0⟩ := DataW.trod_int t0 q0
    obtain ⟨n1, e1, _, w1⟩ := DataW.trod_int t1 q1
    obtain ⟨n2, e2, _, w2⟩ := DataW.trod_int t2 q2
    obtain ⟨n3, e3, _, w3⟩ := DataW.trod_int t3 q3
    obtain ⟨n4, e4, _, w4⟩ := DataW.trod_string t4 q4
    obtain ⟨n5, e5, _, w5⟩ := DataW.trod_int t5 q5
    obtain ⟨n6, e6, _, w6⟩ := DataW.trod_int t6 q6
    obtain ⟨n7, e7, _, w7⟩ := DataW.trod_int t7 q7
    obtain ⟨n8, e8, _, w8⟩ := DataW.trod_int t8 q8
    obtain ⟨n9, e9, _, w9⟩ := DataW.trod_int t9 q9
    obtain ⟨n10, e10, _⟩ := DataW.trod_bool t10 q10
    obtain ⟨A11, l11, cc11, e11, le11, m11, hc11, hk11⟩ := structs_in (α := List UInt8 × Int) ([], 0) dc 2 (by decide) (fun _ => rfl) (fun x => x.1.length ≤ 9223372036854775807) t11 cI (fun fuel cs x hf => id_trod tI hI1 cI tI0 tI1 fuel cs x hf) q11
    obtain ⟨A12, l12, cc12, e12, le12, m12, hc12⟩ := ints_in t12 tN cN q12
    obtain ⟨A13, l13, cc13, e13, le13, m13, hc13⟩ := bytes_in t13 tB cB q13
    injection e0 with e0 _
    subst e0
    injection e1 with e1 _
    subst e1
    injection e2 with e2 _
    subst e2
    injection e3 with e3 _
    subst e3
    injection e4 with e4 _
    subst e4
    injection e5 with e5 _
    subst e5
    injection e6 with e6 _
    subst e6
    injection e7 with e7 _
    subst e7
    injection e8 with e8 _
    subst e8
    injection e9 with e9 _
    subst e9
    injection e10 with e10 _
    subst e10
    injection e11 with e11 _
    subst e11
    injection e12 with e12 _
    subst e12
    injection e13 with e13 _
    subst e13
    have b0 : 0 ≤ n0 ∧ n0 ≤ 255 := bounds_u8 w0
    unfold maxLen at w4 m11 m12 m13
    refine ⟨{ kind := n0.toNat, frm := n1, to_ := n2, req := n3, key := n4.data.toList, ver := n5, inc := n6, size := n7, code := n8, node := n9, back := n10, ids := l11, nodes := l12, data := l13 }, ⟨A11, cc11, A12, cc12, A13, cc13⟩, ?_, ⟨hc11, hc12, hc13, by show n0.toNat < 256; omega, by show n4.size ≤ _; omega, by show l11.length ≤ _; omega, by show l12.length ≤ _; omega, by show l13.length ≤ _; omega, hk11⟩⟩
    simp only [mv]
    rw [show ((n0.toNat : Nat) : Int) = n0 from by omega]
    rfl
theorem open_msg {H : Type} {enc : TypeId × Value → H} {P : Program} {W : World} {E UI UN UB : TypeId} {f0 f1 f2 f3 f4 f5 f6 f7 f8 f9 f10 f11 f12 f13 g0 g1 : Field} {r : Reach} {b0 base : Nat} {sp : Nat → Bool} {held : Bool} {v : Value} {d : DataW H} {p : List MemPlace}
    (hE : P.underlying E = some (.struct #[f0, f1, f2, f3, f4, f5, f6, f7, f8, f9, f10, f11, f12, f13])) (h1 : oneCellFields P #[f0, f1, f2, f3, f4, f5, f6, f7, f8, f9, f10, f11, f12, f13] = true) (hC : P.cellsOf E = 14) (t0 : P.underlying f0.type = some (.int .u8)) (t1 : P.underlying f1.type = some (.int .i64)) (t2 : P.underlying f2.type = some (.int .i64)) (t3 : P.underlying f3.type = some (.int .i64)) (t4 : P.underlying f4.type = some .string) (t5 : P.underlying f5.type = some (.int .i64)) (t6 : P.underlying f6.type = some (.int .i64)) (t7 : P.underlying f7.type = some (.int .i64)) (t8 : P.underlying f8.type = some (.int .i64)) (t9 : P.underlying f9.type = some (.int .i64)) (t10 : P.underlying f10.type = some .bool) (t11 : P.underlying f11.type = some (.slice UI)) (t12 : P.underlying f12.type = some (.slice UN)) (t13 : P.underlying f13.type = some (.slice UB)) (tI : P.underlying UI = some (.struct #[g0, g1])) (hI1 : oneCellFields P #[g0, g1] = true) (cI : P.cellsOf UI = 2) (tI0 : P.underlying g0.type = some .string) (tI1 : P.underlying g1.type = some (.int .i64)) (tN : P.underlying UN = some (.int .i64)) (cN : P.cellsOf UN = 1) (tB : P.underlying UB = some (.int .u8)) (cB : P.cellsOf UB = 1)
    (hv : Value.okWide P W r b0 E v) (h : DataW.Trod enc P W base sp held E v d p) :
    ∃ (m : Msg) (s : Sl), v = .agg (mv m s) ∧ MIn0 W W.heap.size m s := by
  obtain ⟨cs, rfl, hs⟩ := okWide_struct hE hv
  obtain ⟨fuel, hf⟩ := h
  obtain ⟨m, s, hy, hg⟩ := msg_trod hE h1 hC t0 t1 t2 t3 t4 t5 t6 t7 t8 t9 t10 t11 t12 t13 tI hI1 cI tI0 tI1 tN cN tB cB fuel _ _ hf
  refine ⟨m, s, ?_, hg⟩
  rw [show cs = mv m s from Array.ext' (by simpa [Value.cells] using hy)]
set_option maxRecDepth 100000 in
theorem open_message {H : Type} {enc : TypeId × Value → H} {W : World} {r : Reach} {b0 base : Nat} {sp : Nat → Bool} {held : Bool} {v : Value} {d : DataW H} {p : List MemPlace}
    (hv : Value.okWide Tryd.prog W r b0 27 v) (h : DataW.Trod enc Tryd.prog W base sp held 27 v d p) :
    ∃ (m : Msg) (s : Sl), v = .agg (mv m s) ∧ MIn0 W W.heap.size m s :=
  open_msg Tryd.underlying27 (by kernel_rfl) (by kernel_rfl) Tryd.underlying5 Tryd.underlying3 Tryd.underlying3 Tryd.underlying2 Tryd.underlying9 Tryd.underlying2 Tryd.underlying2 Tryd.underlying3 Tryd.underlying22 Tryd.underlying3 Tryd.underlying4 Tryd.underlying23 Tryd.underlying24 Tryd.underlying25 Tryd.underlying50 (by kernel_rfl) (by kernel_rfl) Tryd.underlying9 Tryd.underlying2 Tryd.underlying3 (by kernel_rfl) Tryd.underlying5 (by kernel_rfl) hv h
end Go.Proofs.YtebdmfmadbikaaaDoor.Open
