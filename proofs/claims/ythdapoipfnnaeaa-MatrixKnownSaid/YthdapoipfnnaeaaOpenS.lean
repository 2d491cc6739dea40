/- The arguments of a law, opened: a slice of structs. -/
import Derived.Test.YthdapoipfnnaeaaOpen
import Derived.Deep.Slices
import Derived.Deep.Fields
namespace Go.Proofs.Ythdapoipfnnaeaa.Open
open Go.ChangeShapes Go.WideShapes Go.ChangeAt Go.RowKit Go.Deep Mem

theorem flat_len {α : Type} {cs : α → List Value} {K : Nat} (hK : ∀ x, (cs x).length = K) : ∀ l : List α, (l.flatMap cs).length = l.length * K
  | [] => by simp
  | a :: r => by rw [List.flatMap_cons, List.length_append, hK, flat_len hK r, List.length_cons, Nat.succ_mul, Nat.add_comm]
theorem flat_get {α : Type} {cs : α → List Value} {K : Nat} (hK : ∀ x, (cs x).length = K) : ∀ (l : List α) (j k : Nat) (x : α), l[j]? = some x → k < K → (l.flatMap cs)[j * K + k]? = (cs x)[k]?
  | [], j, k, x, h, _ => by cases h
  | a :: r, 0, k, x, h, hk => by
    injection h with h; subst h
    rw [Nat.zero_mul, Nat.zero_add, List.flatMap_cons, List.getElem?_append_left (by rw [hK]; exact hk)]
  | a :: r, j + 1, k, x, h, hk => by
    rw [List.flatMap_cons, List.getElem?_append_right (by rw [hK, Nat.succ_mul]; omega), hK, show (j + 1) * K + k - K = j * K + k from by rw [Nat.succ_mul]; omega]
    exact flat_get hK r j k x h hk
theorem open_structs {H : Type} {enc : TypeId × Value → H} {P : Program} {W : World} {T E : TypeId} {r : Reach} {b0 base : Nat} {sp : Nat → Bool} {held : Bool} {v : Value} {d : DataW H} {p : List MemPlace}
    {α : Type} (dflt : α) (cs : α → List Value) (K : Nat) (hK0 : 0 < K) (hK : ∀ x, (cs x).length = K) (good : α → Prop) (hT : P.underlying T = some (.slice E)) (hC : P.cellsOf E = K)
    (hfd : ∀ (fuel : Nat) (c : List Value) (x : DataW H × List MemPlace), DataW.trod enc P W base sp held fuel E c = some x → ∃ y, c = cs y ∧ good y)
    (hv : Value.okWide P W r b0 T v) (h : DataW.Trod enc P W base sp held T v d p) :
    ∃ (A : Option Addr) (l : List α) (c : Nat), v = .slice A l.length c ∧ l.length ≤ c ∧ c ≤ maxLen ∧ Cells W W.heap.size A (l.flatMap cs) ∧ ∀ x ∈ l, good x := by
  obtain ⟨a, len, cap, rfl⟩ := okWide_slice hT hv
  obtain ⟨fuel, hf⟩ := h
  rcases open_slice hT hf with ⟨hcs, _⟩ | ⟨x, l, c, m, n, D, Pl, hcs, _, hl, hm, hmm, hx, hel⟩
  · simp [Value.cells] at hcs
    obtain ⟨rfl, rfl, rfl⟩ := hcs
    exact ⟨none, [], 0, rfl, Nat.le_refl _, Nat.zero_le _, Cells.nil, by simp⟩
  · simp [Value.cells] at hcs
    obtain ⟨rfl, rfl, rfl⟩ := hcs
    have hml : len ≤ m := by rw [hmm]; split <;> omega
    have hY : ∀ i, ∃ y : α, i < len → (∀ j v, (cs y)[j]? = some v → W.cell? ((x.add (i * K)).add j) = some v) ∧ good y := by
      intro i
      by_cases hi : i < len
      · obtain ⟨cs', hc, ht⟩ := hel i (by omega)
        rw [hC] at hc
        obtain ⟨_, hcl, hat⟩ := World.cells?_some hc
        obtain ⟨y, rfl, hg⟩ := hfd _ _ _ ht
        refine ⟨y, fun _ => ⟨fun j v hj => ?_, hg⟩⟩
        have hjK : j < K := by
          have := (List.getElem?_eq_some_iff.1 hj).1
          rwa [hK] at this
        rw [hat j hjK, hj]
      · exact ⟨dflt, fun h => absurd h hi⟩
    obtain ⟨Y, hY⟩ := Classical.axiomOfChoice hY
    refine ⟨some x, (List.range len).map Y, cap, by simp, by simpa using hl, hm, fun hlen => ?_, fun y hy => ?_⟩
    · have hlp : 0 < len := by
        rcases Nat.eq_zero_or_pos len with rfl | h
        · simp at hlen
        · exact h
      obtain ⟨b, off, spot⟩ := x
      obtain ⟨v0, hv0⟩ : ∃ v0, (cs (Y 0))[0]? = some v0 := ⟨(cs (Y 0))[0]'(by rw [hK]; exact hK0), List.getElem?_eq_getElem _⟩
      have hc0 := (hY 0 hlp).1 0 _ hv0
      have hspot : spot = none := by
        exact by simpa [Addr.add] using World.cell?_spot hc0
      subst hspot
      rw [Addr.add_lit, Addr.add_lit] at hc0
      refine ⟨b, off, rfl, World.block_lt_of_cell? _ _ hc0, fun j v hj => ?_⟩
      have hjl : j < len * K := by
        have := (List.getElem?_eq_some_iff.1 hj).1
        rwa [flat_len hK, List.length_map, List.length_range] at this
      have hjd : j / K < len := Nat.div_lt_of_lt_mul (by rw [Nat.mul_comm]; exact hjl)
      have hjm : j % K < K := Nat.mod_lt _ hK0
      have e : j = j / K * K + j % K := by rw [Nat.mul_comm]; exact (Nat.div_add_mod j K).symm
      rw [e, flat_get hK ((List.range len).map Y) (j / K) (j % K) (Y (j / K)) (by rw [List.getElem?_map, List.getElem?_range hjd]; rfl) hjm] at hj
      have := (hY (j / K) hjd).1 (j % K) v hj
      rw [Addr.add_lit, Addr.add_lit, Nat.add_assoc, ← e] at this
      exact this
    · obtain ⟨i, hi, rfl⟩ := List.mem_map.1 hy
      exact (hY i (List.mem_range.1 hi)).2
theorem bytes_in {H : Type} {enc : TypeId × Value → H} {P : Program} {W : World} {T E : TypeId} {base fuel : Nat} {sp : Nat → Bool} {held : Bool} {cs : List Value} {x : DataW H × List MemPlace}
    (hT : P.underlying T = some (.slice E)) (hE : P.underlying E = some (.int .u8)) (hC : P.cellsOf E = 1) (hf : DataW.trod enc P W base sp held fuel T cs = some x) :
    ∃ (A : Option Addr) (l : List UInt8) (c : Nat), cs = [.slice A l.length c] ∧ l.length ≤ c ∧ c ≤ maxLen ∧ Bytes W W.heap.size A l := by
  rcases open_ints hT hE hC hf with ⟨hcs, _⟩ | ⟨x, l, c, zs, hcs, _, hl, hm, hz, hx, hcell, hwz⟩
  · exact ⟨none, [], 0, hcs, Nat.le_refl _, Nat.zero_le _, Bytes.nil⟩
  · have hzl : l ≤ zs.length := by rw [hz]; split <;> omega
    refine ⟨some x, (List.range l).map fun i => UInt8.ofNat (zs.getD i 0).toNat, c, by simpa using hcs, by simpa using hl, hm, fun hlen => ?_⟩
    simp at hlen
    have hbd : ∀ i, i < l → 0 ≤ zs.getD i 0 ∧ zs.getD i 0 ≤ 255 := by
      intro i hi
      have hz' : i < zs.length := by omega
      have : zs.getD i 0 ∈ zs := by
        simp [List.getD, hz']
      exact bounds_u8 (hwz _ this)
    obtain ⟨b, off, spot⟩ := x
    have hspot : spot = none := by
      have hc0 := hcell 0 (by omega)
      exact by simpa [Addr.add] using World.cell?_spot hc0
    subst hspot
    refine ⟨b, off, rfl, ?_, fun j v hv => ?_⟩
    · have hc0 := hcell 0 (by omega)
      rw [Addr.add_lit] at hc0
      exact World.block_lt_of_cell? _ _ hc0
    · simp only [List.getElem?_map] at hv
      by_cases hj : j < l
      · have hc0 := hcell j (by omega)
        rw [Addr.add_lit] at hc0
        rw [hc0]
        simp [hj] at hv
        rw [← hv]
        simp only [u8v]
        have hb := hbd j hj
        have e : ((UInt8.ofNat (zs.getD j 0).toNat).toNat : Int) = zs.getD j 0 := by
          rw [UInt8.toNat_ofNat', Nat.mod_eq_of_lt (by show (zs.getD j 0).toNat < 256; omega)]
          omega
        simp only [List.getD] at e
        rw [e]; rfl
      · simp [hj] at hv
end Go.Proofs.Ythdapoipfnnaeaa.Open
