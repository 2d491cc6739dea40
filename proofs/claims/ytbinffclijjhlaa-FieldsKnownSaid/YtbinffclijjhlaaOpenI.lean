/- The arguments of a law, opened: a slice of int16. -/
import Derived.Test.YtbinffclijjhlaaOpen
namespace Go.Proofs.Ytbinffclijjhlaa.Open
open Go.ChangeShapes Go.WideShapes Go.ChangeAt Go.RowKit Mem

def i16v (n : Int) : Value := .int .i16 n
theorem open_i16s {H : Type} {enc : TypeId × Value → H} {P : Program} {W : World} {T E : TypeId} {r : Reach} {b0 base : Nat} {sp : Nat → Bool} {held : Bool} {v : Value} {d : DataW H} {p : List MemPlace}
    (hT : P.underlying T = some (.slice E)) (hE : P.underlying E = some (.int .i16)) (hC : P.cellsOf E = 1) (hv : Value.okWide P W r b0 T v) (h : DataW.Trod enc P W base sp held T v d p) :
    ∃ (A : Option Addr) (l : List Int) (c : Nat), v = .slice A l.length c ∧ l.length ≤ c ∧ c ≤ maxLen ∧ Cells W W.heap.size A (l.map i16v) ∧ ∀ n ∈ l, -32768 ≤ n ∧ n ≤ 32767 := by
  obtain ⟨a, len, cap, rfl⟩ := okWide_slice hT hv
  obtain ⟨fuel, hf⟩ := h
  rcases open_ints hT hE hC hf with ⟨hcs, _⟩ | ⟨x, l, c, zs, hcs, _, hl, hm, hz, _, hcell, hwz⟩
  · simp [Value.cells] at hcs
    obtain ⟨rfl, rfl, rfl⟩ := hcs
    exact ⟨none, [], 0, rfl, Nat.le_refl _, Nat.zero_le _, Cells.nil, by simp⟩
  · simp [Value.cells] at hcs
    obtain ⟨rfl, rfl, rfl⟩ := hcs
    have hzl : len ≤ zs.length := by rw [hz]; split <;> omega
    have hin : ∀ i, i < len → zs.getD i 0 ∈ zs := by
      intro i hi
      have hz' : i < zs.length := by omega
      simp [List.getD, hz']
    refine ⟨some x, (List.range len).map fun i => zs.getD i 0, cap, by simp, by simpa using hl, hm, fun hlen => ?_, fun n hn => ?_⟩
    · simp at hlen
      obtain ⟨b, off, spot⟩ := x
      have hspot : spot = none := by
        have hc0 := hcell 0 (by omega)
        exact by simpa [Addr.add] using World.cell?_spot hc0
      subst hspot
      refine ⟨b, off, rfl, ?_, fun j v hv => ?_⟩
      · have hc0 := hcell 0 (by omega)
        rw [Addr.add_lit] at hc0
        exact World.block_lt_of_cell? _ _ hc0
      · simp only [List.getElem?_map] at hv
        by_cases hj : j < len
        · have hc0 := hcell j (by omega)
          rw [Addr.add_lit] at hc0
          rw [hc0]
          simp [hj] at hv
          rw [← hv]
          simp only [i16v, List.getD]
          try rfl
        · simp [hj] at hv
    · obtain ⟨i, hi, rfl⟩ := List.mem_map.1 hn
      exact bounds_i16 (hwz _ (hin i (List.mem_range.1 hi)))
end Go.Proofs.Ytbinffclijjhlaa.Open
