/- The arguments of a law, opened: a slice of bytes. -/
import Derived.Test.YthdapoipfnnaeaaMem
import Derived.Test.YthdapoipfnnaeaaBits
import Derived.WalkKit
import Derived.ProofKit
import Derived.OpenShut
import Derived.ShutString
import Derived.ChangeOld
namespace Go.Proofs.Ythdapoipfnnaeaa.Open
open Go.ChangeShapes Go.WideShapes Go.ChangeAt Go.RowKit Mem

theorem open_bytes {H : Type} {enc : TypeId × Value → H} {P : Program} {W : World} {T E : TypeId} {r : Reach} {b0 base : Nat} {sp : Nat → Bool} {held : Bool} {v : Value} {d : DataW H} {p : List MemPlace}
    (hT : P.underlying T = some (.slice E)) (hE : P.underlying E = some (.int .u8)) (hC : P.cellsOf E = 1) (hv : Value.okWide P W r b0 T v) (h : DataW.Trod enc P W base sp held T v d p) :
    ∃ (A : Option Addr) (l : List UInt8) (c : Nat), v = .slice A l.length c ∧ l.length ≤ c ∧ c ≤ maxLen ∧ Bytes W W.heap.size A l := by
  obtain ⟨a, len, cap, rfl⟩ := okWide_slice hT hv
  obtain ⟨fuel, hf⟩ := h
  rcases open_ints hT hE hC hf with ⟨hcs, _⟩ | ⟨x, l, c, zs, hcs, _, hl, hm, hz, _, hcell, hwz⟩
  · simp [Value.cells] at hcs
    obtain ⟨rfl, rfl, rfl⟩ := hcs
    exact ⟨none, [], 0, rfl, Nat.le_refl _, Nat.zero_le _, Bytes.nil⟩
  · simp [Value.cells] at hcs
    obtain ⟨rfl, rfl, rfl⟩ := hcs
    refine ⟨some x, (List.range len).map fun i => UInt8.ofNat (zs.getD i 0).toNat, cap, by simp, by simpa using hl, hm, fun hlen => ?_⟩
    simp at hlen
    have hzl : len ≤ zs.length := by rw [hz]; split <;> omega
    have hbd : ∀ i, i < len → 0 ≤ zs.getD i 0 ∧ zs.getD i 0 ≤ 255 := by
      intro i hi
      have hz' : i < zs.length := by omega
      have : zs.getD i 0 ∈ zs := by
        simp [List.getD, hz']
      exact bounds_u8 (hwz _ this)
    obtain ⟨b, off, spot⟩ := x
    have hspot : spot = none := by
      have hc0 := hcell 0 (by omega)
      exact by simpa [Addr.add] using World.cell?_spot hc0
    subst hspot
    refine ⟨b, off, rfl, ?_, fun j v hv => ?_⟩
    · have hc0 := hcell 0 (by omega)
      rw [Addr.add_lit] at hc0
      exact World.block_lt_of_cell? _ _ hc0
    · simp only [List.getElem?_map] at hv
      by_cases hj : j < len
      · have hc0 := hcell j (by omega)
        rw [Addr.add_lit] at hc0
        rw [hc0]
        simp [hj] at hv
        rw [← hv]
        simp only [u8v]
        have hb := hbd j hj
        have e : ((UInt8.ofNat (zs.getD j 0).toNat).toNat : Int) = zs.getD j 0 := by
          rw [UInt8.toNat_ofNat', Nat.mod_eq_of_lt (by show (zs.getD j 0).toNat < 256; omega)]
          omega
        simp only [List.getD] at e
        rw [e]; rfl
      · simp [hj] at hv
theorem u32_of_wf {n : Int} (h : (Lit.int .u32 n).wf = true) : ∃ v : BitVec 32, n = Bv.i32 v := by
  have hb : 0 ≤ n ∧ n ≤ 4294967295 := bounds_u32 h
  exact ⟨BitVec.ofInt 32 n, (Bv.i32_ofInt n hb.1 hb.2).symm⟩
theorem u8_of_wf {n : Int} (h : (Lit.int .u8 n).wf = true) : ∃ c : UInt8, n = (c.toNat : Int) := by
  have hb : 0 ≤ n ∧ n ≤ 255 := bounds_u8 h
  exact ⟨UInt8.ofNat n.toNat, by rw [UInt8.toNat_ofNat', Nat.mod_eq_of_lt (by show n.toNat < 256; omega)]; omega⟩
theorem i64_of_wf {n : Int} (h : (Lit.int .i64 n).wf = true) : -9223372036854775808 ≤ n ∧ n ≤ 9223372036854775807 := bounds_i64 h
theorem u64_of_wf {n : Int} (h : (Lit.int .u64 n).wf = true) : 0 ≤ n ∧ n ≤ 18446744073709551615 := bounds_u64 h
theorem u16_of_wf {n : Int} (h : (Lit.int .u16 n).wf = true) : 0 ≤ n ∧ n ≤ 65535 := bounds_u16 h
theorem i16_of_wf {n : Int} (h : (Lit.int .i16 n).wf = true) : -32768 ≤ n ∧ n ≤ 32767 := bounds_i16 h
end Go.Proofs.Ythdapoipfnnaeaa.Open
