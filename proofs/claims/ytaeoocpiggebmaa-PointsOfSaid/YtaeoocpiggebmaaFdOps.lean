/- What a field's calls tell: sums, products, quotients, powers, logarithms, orders. -/
import Derived.Test.YtaeoocpiggebmaaFdMade
import Derived.IntWalk
namespace Go.Proofs.Ytaeoocpiggebmaa.FdW
open Go.RowKit Mem Gf
set_option linter.unusedVariables false

theorem ex_cell {j : Nat} (hj : j < 510) : fcell 1 0 255 (3 + j) = .int .u8 ((pw j).toNat : Nat) := by
  unfold fcell exT
  rw [if_neg (by omega), if_pos (by omega), Nat.add_sub_cancel_left, if_pos (Nat.mod_lt _ (by decide))]
theorem lg_cell {a : UInt8} (ha : a ≠ 0) : fcell 1 0 255 (513 + a.toNat) = .int .i64 (lg a : Nat) := by
  have h : a.toNat ≠ 0 := fun e => ha (UInt8.toNat_inj.1 (by rw [e]; rfl))
  unfold fcell lgT
  rw [if_neg (by omega), if_neg (by omega), Nat.add_sub_cancel_left, if_pos ⟨h, lg_lt a⟩]; rfl
theorem u8_zero (a : UInt8) : ((a.toNat : Int) == 0) = (a == 0) := by
  rw [Bool.eq_iff_iff, beq_iff_eq, beq_iff_eq]
  exact ⟨fun h => UInt8.toNat_inj.1 (by simpa using h), fun h => by rw [h]; rfl⟩
theorem u8_eq (a b : UInt8) : ((a.toNat : Int) == (b.toNat : Int)) = (a == b) := by
  rw [Bool.eq_iff_iff, beq_iff_eq, beq_iff_eq]
  exact ⟨fun h => UInt8.toNat_inj.1 (by omega), fun h => by rw [h]⟩
theorem u8_zero_no {a : UInt8} (h : a ≠ 0) : ((a.toNat : Int) == 0) = false := by rw [u8_zero]; simpa using h

/-- What a field's call leaves: an answer; the field is one still. -/
def Ans (r : Option Nat) (w : World) (v : Value) (e : Ending) (w' : World) : Prop := e = .returned v ∧ FldR w' r ∧ Fr (fun k => r = some k) w w'

theorem FldR.drewN {w : World} {r : Option Nat} {n : Nat} (h : FldR w r) : FldR (w.drewN n) r := fun p hp => (h p hp).keep (nextN (Mem.start w) n)
theorem tmod255 (n : Int) : n.tmod 255 = if n % 255 = 0 ∨ 0 ≤ n then n % 255 else n % 255 - 255 := by
  rw [Int.tmod_eq_emod]
  split <;> split <;> omega
theorem rest_any (n : Int) (w : World) :
    Calls Try.prog 31 #[.int .i64 n] w fun e w' => e = .returned (.int .i64 (n % 255)) ∧ w = w' := by
  have ht := Lib.hid (tmod255 n)
  go_enter Try.func31, Try.ntmps31
  go_wp2_with fail
  · have h0 : n.tmod 255 < 0 := by assumption
    go_ret
    refine ⟨?_, rfl⟩
    have h1 : n.tmod 255 + 255 = n % 255 := by
      have := ht.out
      rw [this] at h0 ⊢
      split at h0
      · omega
      · rename_i h2; rw [if_neg h2]; omega
    rw [IntWalk.wrap64_in _ (by omega), h1]; rfl
  · have h0 : 0 ≤ n.tmod 255 := by assumption
    go_ret
    refine ⟨?_, rfl⟩
    have h1 : n.tmod 255 = n % 255 := by
      have := ht.out
      rw [this] at h0 ⊢
      split at h0
      · rename_i h2; rw [if_pos h2]
      · omega
    rw [h1]; rfl

/-- Is a byte not 0? -/
def nz (b : UInt8) : Bool := b != 0
theorem nz_zero : nz 0 = false := rfl
theorem nz_ne {b : UInt8} (h : b ≠ 0) : nz b = true := by simpa [nz] using h
end Go.Proofs.Ytaeoocpiggebmaa.FdW
