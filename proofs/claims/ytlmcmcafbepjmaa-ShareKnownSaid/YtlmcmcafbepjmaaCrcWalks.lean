/- The walks of package crc: what each function computes. -/
import Derived.Test.YtlmcmcafbepjmaaRows
import Derived.Test.YtlmcmcafbepjmaaCrcMath
import Derived.Test.YtlmcmcafbepjmaaMem
import Derived.WalkKit
import Derived.WalkSpells
import Derived.WalkLawsBesides
import Derived.Lib.Tables
import Derived.Lib.Hide
namespace Go.Proofs.Ytlmcmcafbepjmaa.CrcW
open Go.RowKit Bv Crc Mem

theorem not32 (x : BitVec 32) : bits .xor .u32 IntKind.u32.max (i32 x) = i32 (x ^^^ ones) := by
  rw [xor32, ofInt_i32, BitVec.xor_comm]; rfl
theorem ret_int {k : IntKind} {a b : Int} (h : a = b) : Ending.returned (.int k a) = .returned (.int k b) := by rw [h]

set_option maxHeartbeats 400000 in
theorem revBytes (v : BitVec 32) (w : World) :
    Calls Try.prog 70 #[.int .u32 (i32 v)] w fun e w' => e = .returned (.int .u32 (i32 (turnBytes v))) ∧ w = w' := by
  go_enter Try.func70, Try.ntmps70
  go_wp2
  go_ret
  refine ⟨ret_int ?_, rfl⟩
  simp only [shr32_8, shr32_16, shl32_8, shl32_16, and32, or32, ofInt_i32]
  rfl

set_option maxHeartbeats 400000 in
theorem rev32_any (v : BitVec 32) (w : World) :
    Calls Try.prog 54 #[.int .u32 (i32 v)] w fun e w' => e = .returned (.int .u32 (i32 (turn v))) ∧ w = w' := by
  go_enter Try.func54, Try.ntmps54
  go_wp2_with fail
  simp only [shr32_1, shr32_2, shr32_4, shl32_1, shl32_2, shl32_4, and32, or32, ofInt_i32]
  refine (revBytes _ _).mono ?_
  rintro e w' ⟨rfl, rfl⟩
  go_wp2_with fail
  go_ret
  exact ⟨rfl, rfl⟩

set_option maxHeartbeats 400000 in
set_option maxRecDepth 100000 in
theorem rev8_any (c : UInt8) (w : World) :
    Calls Try.prog 68 #[.int .u8 (c.toNat : Int)] w fun e w' => e = .returned (.int .u8 (Lib.rev8 (c.toNat : Int))) ∧ w = w' := by
  have h0 : (0 : Int) ≤ (c.toNat : Int) := by omega
  have h1 : (c.toNat : Int) ≤ 255 := by have := c.toNat_lt; omega
  go_enter Try.func68, Try.ntmps68
  go_wp2
  go_ret
  exact ⟨rfl, rfl⟩

set_option maxHeartbeats 400000 in
theorem multiples_any (w : World) :
    Calls Try.prog 73 #[] w fun e w' => e = .returned (.agg #[.int .u32 517762881, .int .u32 1035525762, .int .u32 2071051524, .int .u32 4142103048]) ∧ Below w.heap.size w w' := by
  go_enter Try.func73, Try.ntmps73
  go_wp2
  exact bodyPost_ret (v := .agg #[.int .u32 517762881, .int .u32 1035525762, .int .u32 2071051524, .int .u32 4142103048]) (by simp [results, Try.results73, go_sem]) rfl ⟨rfl, (Below.refl _ _).alloc (Nat.le_refl _) _⟩

theorem over_yes {top v : BitVec 32} {k : Nat} (c : Int) (ht : top.getLsbD k = true) (hc : BitVec.ofInt 32 c = D <<< k) : Value.int .u32 (bits .xor .u32 (i32 (overK top v k)) c) = .int .u32 (i32 (overK top v (k + 1))) := by
  rw [xor32, ofInt_i32, hc, overK, if_pos ht]
theorem over_no {top v : BitVec 32} {k : Nat} (ht : top.getLsbD k = false) : Value.int .u32 (i32 (overK top v k)) = .int .u32 (i32 (overK top v (k + 1))) := by
  rw [overK, if_neg (by rw [ht]; decide)]

set_option maxHeartbeats 1000000 in
theorem over_any (v : BitVec 32) (w : World) :
    Calls Try.prog 69 #[.int .u32 (i32 v)] w fun e w' => e = .returned (.int .u32 (i32 (over v))) ∧ Below w.heap.size w w' := by
  have i0 : ∀ w, (Instr.index 97 (.agg #[.int .u32 517762881, .int .u32 1035525762, .int .u32 2071051524, .int .u32 4142103048]) (.int .i64 0)).run Try.prog w = .ok (.int .u32 517762881) w := fun _ => by kernel_rfl
  have i1 : ∀ w, (Instr.index 97 (.agg #[.int .u32 517762881, .int .u32 1035525762, .int .u32 2071051524, .int .u32 4142103048]) (.int .i64 1)).run Try.prog w = .ok (.int .u32 1035525762) w := fun _ => by kernel_rfl
  have i2 : ∀ w, (Instr.index 97 (.agg #[.int .u32 517762881, .int .u32 1035525762, .int .u32 2071051524, .int .u32 4142103048]) (.int .i64 2)).run Try.prog w = .ok (.int .u32 2071051524) w := fun _ => by kernel_rfl
  have i3 : ∀ w, (Instr.index 97 (.agg #[.int .u32 517762881, .int .u32 1035525762, .int .u32 2071051524, .int .u32 4142103048]) (.int .i64 3)).run Try.prog w = .ok (.int .u32 4142103048) w := fun _ => by kernel_rfl
  go_enter Try.func69, Try.ntmps69
  go_wp2_with (go_at_call 73; refine (multiples_any _).mono ?_; rintro e w1 ⟨rfl, hb1⟩)
  simp only [shr32_28, shl32_4]
  go_loop [0, 11] (fun t i => ∃ k : Nat, k ≤ 4 ∧ i = .int .i64 k ∧ t = .int .u32 (i32 (overK (v >>> 28) (v <<< 4) k))) (fun _ i => 4 - (intOf i).toNat)
  case atStart => exact ⟨0, by omega, rfl, rfl⟩
  case round =>
    obtain ⟨k, hk, rfl, rfl⟩ := hrel
    rcases (by omega : k = 0 ∨ k = 1 ∨ k = 2 ∨ k = 3 ∨ k = 4) with rfl | rfl | rfl | rfl | rfl
    · go_wp2
      · have ht : (v >>> 28).getLsbD 0 = true := by rw [← bit32_0]; assumption
        exact ⟨⟨1, by omega, rfl, over_yes _ ht (by decide)⟩, by simp [intOf]⟩
      · have ht : (v >>> 28).getLsbD 0 = false := by rw [← bit32_0]; assumption
        exact ⟨⟨1, by omega, rfl, over_no ht⟩, by simp [intOf]⟩
    · go_wp2
      · have ht : (v >>> 28).getLsbD 1 = true := by rw [← bit32 _ 1 2 rfl]; assumption
        exact ⟨⟨2, by omega, rfl, over_yes _ ht (by decide)⟩, by simp [intOf]⟩
      · have ht : (v >>> 28).getLsbD 1 = false := by rw [← bit32 _ 1 2 rfl]; assumption
        exact ⟨⟨2, by omega, rfl, over_no ht⟩, by simp [intOf]⟩
    · go_wp2
      · have ht : (v >>> 28).getLsbD 2 = true := by rw [← bit32 _ 2 4 rfl]; assumption
        exact ⟨⟨3, by omega, rfl, over_yes _ ht (by decide)⟩, by simp [intOf]⟩
      · have ht : (v >>> 28).getLsbD 2 = false := by rw [← bit32 _ 2 4 rfl]; assumption
        exact ⟨⟨3, by omega, rfl, over_no ht⟩, by simp [intOf]⟩
    · go_wp2
      · have ht : (v >>> 28).getLsbD 3 = true := by rw [← bit32 _ 3 8 rfl]; assumption
        exact ⟨⟨4, by omega, rfl, over_yes _ ht (by decide)⟩, by simp [intOf]⟩
      · have ht : (v >>> 28).getLsbD 3 = false := by rw [← bit32 _ 3 8 rfl]; assumption
        exact ⟨⟨4, by omega, rfl, over_no ht⟩, by simp [intOf]⟩
    · go_wp2
      go_ret
      exact ⟨rfl, hb1⟩

theorem into_table (v : BitVec 32) (c : UInt8) : bits .xor .u32 (i32 v) (Lib.rev8 (c.toNat : Int) % (4294967296 : Int) * (16777216 : Int) % (4294967296 : Int)) = i32 (v ^^^ rv c.toBitVec) := by
  have h : Lib.rev8 (c.toNat : Int) % (4294967296 : Int) = Lib.rev8 (c.toNat : Int) := by unfold Lib.rev8; have := (Lib.rev8tab[(c.toNat : Int).toNat]?.getD 0).toNat_lt; omega
  rw [h, rv_table, xor32, ofInt_i32, ofInt_i32]

set_option maxHeartbeats 1000000 in
theorem into_any (v : BitVec 32) (c : UInt8) (w : World) :
    Calls Try.prog 53 #[.int .u32 (i32 v), .int .u8 (c.toNat : Int)] w fun e w' => e = .returned (.int .u32 (i32 (into v c))) ∧ Below w.heap.size w w' := by
  go_enter Try.func53, Try.ntmps53
  go_wp2_with fail
  refine (rev8_any c _).mono ?_
  rintro e w' ⟨rfl, rfl⟩
  go_wp2_with fail
  rw [into_table]
  go_loopw [0, 11] (fun t i wr => ∃ k : Nat, k ≤ 2 ∧ i = .int .i64 k ∧ t = .int .u32 (i32 (overN k (v ^^^ rv c.toBitVec))) ∧ Below w.heap.size w wr) (fun _ i _ => 2 - (intOf i).toNat)
  case atStart => exact ⟨0, by omega, rfl, rfl, Below.refl _ _⟩
  case round =>
    obtain ⟨k, hk, rfl, rfl, hb⟩ := hrel
    by_cases hlt : k < 2
    · go_wp2_with fail
      refine (over_any _ _).mono ?_
      rintro e w1 ⟨rfl, hb1⟩
      go_wp2_with fail
      go_roundw
      case rel => exact ⟨k + 1, by omega, by go_num, rfl, hb.trans (hb1.mono hb.size)⟩
      case measure => simp [intOf]; omega
    · obtain rfl : k = 2 := by omega
      go_wp2
      go_ret
      exact ⟨rfl, hb⟩

set_option maxHeartbeats 1000000 in
theorem sum_any (A : Option Addr) (l : List UInt8) (c : Nat) (w : World) (hm : l.length ≤ maxLen) (hA : Bytes w w.heap.size A l) :
    Calls Try.prog 27 #[.slice A l.length c] w fun e w' => e = .returned (.int .u32 (i32 (Crc.sum l))) ∧ Below w.heap.size w w' := by
  unfold maxLen at hm
  go_enter Try.func27, Try.ntmps27
  go_wp2_with fail
  go_loopw [3, 8] (fun t i wr => ∃ k : Nat, k ≤ l.length ∧ i = .int .i64 k ∧ t = .int .u32 (i32 (reg ones (l.take k))) ∧ Below w.heap.size w wr) (fun _ i _ => l.length - (intOf i).toNat)
  case atStart => exact ⟨0, by omega, rfl, rfl, Below.refl _ _⟩
  case round =>
    obtain ⟨k, hk, rfl, rfl, hb⟩ := hrel
    by_cases hlt : k < l.length
    · obtain ⟨b, off, rfl, hlt2, hc⟩ := (hA.below hb).at_ hlt
      go_wp2_with fail
      refine (into_any _ _ _).mono ?_
      rintro e w1 ⟨rfl, hb1⟩
      go_wp2_with fail
      go_roundw
      case rel => exact ⟨k + 1, by omega, by go_num, by rw [List.take_succ_eq_append_getElem hlt, reg_append]; rfl, hb.trans (hb1.mono hb.size)⟩
      case measure => simp [intOf]; omega
    · go_wp2_with fail
      obtain rfl : k = l.length := by omega
      rw [not32, List.take_of_length_le (Nat.le_refl _)]
      refine (rev32_any _ _).mono ?_
      rintro e w1 ⟨rfl, rfl⟩
      go_wp2_with fail
      go_ret
      exact ⟨rfl, hb⟩
end Go.Proofs.Ytlmcmcafbepjmaa.CrcW
