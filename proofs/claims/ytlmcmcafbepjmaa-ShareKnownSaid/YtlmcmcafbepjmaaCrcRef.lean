/- The walks of the document's answer for the check (starfishref01). -/
import Derived.Test.YtlmcmcafbepjmaaCrcWalks
import Derived.RegionTactic
import Derived.BigRegion
import Derived.BigQuiet
import Derived.Deep.QuietTactic
import Derived.Deep.RegionWith
import Derived.Deep.RegionHeld3
import Derived.StillTailTactics
import Derived.ChangeAlike
namespace Go.Proofs.Ytlmcmcafbepjmaa.CrcW
open Go.RowKit Bv Crc Mem

theorem row_bit {r : BitVec 32} {c : UInt8} {k : Nat} (hk : k < 32) : (refStep r c).getLsbD k = (divN (row2 r c 8) 8).getLsbD (8 + k) := by
  simp [refStep, hk]
theorem out_no {r : BitVec 32} {c : UInt8} {k : Nat} (hk : k < 32) (h : (divN (row2 r c 8) 8).getLsbD (8 + k) = false) : outN (refStep r c) (k + 1) = outN (refStep r c) k := by
  rw [outN, row_bit hk, h]; rfl
theorem out_yes {r : BitVec 32} {c : UInt8} {k : Nat} (hk : k < 32) (h : (divN (row2 r c 8) 8).getLsbD (8 + k) = true) : (i32 (outN (refStep r c) k) + 2 ^ k % (4294967296 : Int)) % (4294967296 : Int) = i32 (outN (refStep r c) (k + 1)) := by
  rw [outN, row_bit hk, h]
  exact add_pow k hk _
theorem top32 (v : BitVec 32) : decide ((2147483648 : Int) ≤ i32 v) = v.getLsbD 31 := by
  rw [bit_eq, Bool.eq_iff_iff, decide_eq_true_iff, beq_iff_eq]
  have := v.isLt
  unfold i32; omega
theorem refBit_test (v : BitVec 32) (c : UInt8) (j : Nat) : (!(decide ((2147483648 : Int) ≤ i32 v) == (bits .and .u8 ((c.toNat : Int) / 2 ^ j) (1 : Int) == (1 : Int)))) = (v.getLsbD 31 ^^ c.toBitVec.getLsbD j) := by
  rw [top32, bit8 c j _ (by simp), ← xor_bne]
theorem refBit_yes {v : BitVec 32} {b : Bool} (h : true = (v.getLsbD 31 ^^ b)) : bits .xor .u32 (i32 v * (2 : Int) % (4294967296 : Int)) (517762881 : Int) = i32 (refBit v b) := by
  rw [shl32_1, xor32, ofInt_i32, refBit, if_pos h.symm]; rfl
theorem refBit_no {v : BitVec 32} {b : Bool} (h : false = (v.getLsbD 31 ^^ b)) : i32 v * (2 : Int) % (4294967296 : Int) = i32 (refBit v b) := by
  rw [shl32_1, refBit, if_neg (by rw [← h]; decide)]
set_option maxHeartbeats 1000000 in
set_option maxRecDepth 100000 in
theorem refSum_any (A : Option Addr) (l : List UInt8) (c : Nat) (w : World) (hm : l.length ≤ maxLen) (hA : Bytes w w.heap.size A l) :
    Calls Try.prog 29 #[.slice A l.length c] w fun e w' => e = .returned (.int .u32 (i32 (refSum l))) ∧ w = w' := by
  unfold maxLen at hm
  go_enter Try.func29, Try.ntmps29
  go_wp2_with fail
  go_loop [3, 4] (fun t i => ∃ k : Nat, k ≤ l.length ∧ i = .int .i64 k ∧ t = .int .u32 (i32 (refReg (l.take k)))) (fun _ i => l.length - (intOf i).toNat)
  case atStart => exact ⟨0, by omega, rfl, rfl⟩
  case round =>
    obtain ⟨k, hk, rfl, rfl⟩ := hrel
    by_cases hlt : k < l.length
    · obtain ⟨b, off, rfl, hlt2, hc⟩ := hA.at_ hlt
      have HT := Lib.hid (show refReg (l.take (k + 1)) = refBits (refReg (l.take k)) l[k] 8 by rw [List.take_succ_eq_append_getElem hlt, refReg_snoc])
      have g1 : (k : Int) < l.length := by omega
      go_wp2_with fail
      go_loop [3, 5] (fun t i => ∃ j : Nat, j ≤ 8 ∧ i = .int .i64 j ∧ t = .int .u32 (i32 (refBits (refReg (l.take k)) l[k] j))) (fun _ i => 8 - (intOf i).toNat)
      case atStart => exact ⟨0, by omega, rfl, rfl⟩
      case round =>
        obtain ⟨j, hj, rfl, rfl⟩ := hrel
        by_cases hjlt : j < 8
        · have g3 : (0 : Int) ≤ (j : Int) := by omega
          have g4 : (j : Int) < 8 := by omega
          go_wp2_with fail
          · have ht := refBit_test (refBits (refReg (l.take k)) l[k] j) l[k] j
            rw [‹(!decide (2147483648 ≤ i32 (refBits (refReg (List.take k l)) l[k] j)) == (bits BinOp.and IntKind.u8 ((l[k].toNat : Int) / 2 ^ j) 1 == 1)) = true›] at ht
            go_round
            case rel => exact ⟨j + 1, by omega, by go_num, by rw [refBits, refBit_yes ht]⟩
            case measure => simp [intOf]; omega
          · have ht := refBit_test (refBits (refReg (l.take k)) l[k] j) l[k] j
            rw [‹(!decide (2147483648 ≤ i32 (refBits (refReg (List.take k l)) l[k] j)) == (bits BinOp.and IntKind.u8 ((l[k].toNat : Int) / 2 ^ j) 1 == 1)) = false›] at ht
            go_round
            case rel => exact ⟨j + 1, by omega, by go_num, by rw [refBits, refBit_no ht]⟩
            case measure => simp [intOf]; omega
        · obtain rfl : j = 8 := by omega
          go_wp2_with fail
          go_round
          case rel => exact ⟨k + 1, by omega, by go_num, by rw [HT.out]⟩
          case measure => simp [intOf]; omega
    · obtain rfl : k = l.length := by omega
      rw [List.take_of_length_le (Nat.le_refl _)]
      go_wp2_with fail
      go_loop [7, 8] (fun t i => ∃ k : Nat, k ≤ 32 ∧ i = .int .i64 k ∧ t = .int .u32 (i32 (outR (refReg l) k))) (fun _ i => 32 - (intOf i).toNat)
      case atStart => exact ⟨0, by omega, rfl, rfl⟩
      case round =>
        obtain ⟨k, hk, rfl, rfl⟩ := hrel
        by_cases hlt : k < 32
        · have g0 : (0 : Int) ≤ (k : Int) := by omega
          have g1 : (k : Int) < 32 := by omega
          go_wp2_with fail
          · have ht := bit32z (refReg l) (31 - k) (2 ^ (31 - k)) (by simp)
            rw [‹(bits BinOp.and IntKind.u32 (i32 (refReg l) / 2 ^ (31 - k)) 1 == 0) = true›] at ht
            go_round
            case rel => exact ⟨k + 1, by omega, by go_num, by rw [outR, if_pos (by simpa using ht.symm), add_pow k hlt]⟩
            case measure => simp [intOf]; omega
          · have ht := bit32z (refReg l) (31 - k) (2 ^ (31 - k)) (by simp)
            rw [‹(bits BinOp.and IntKind.u32 (i32 (refReg l) / 2 ^ (31 - k)) 1 == 0) = false›] at ht
            go_round
            case rel => exact ⟨k + 1, by omega, by go_num, by rw [outR, if_neg (by simpa using ht.symm)]⟩
            case measure => simp [intOf]; omega
        · obtain rfl : k = 32 := by omega
          go_wp2_with fail
          go_ret
          exact ⟨rfl, rfl⟩
end Go.Proofs.Ytlmcmcafbepjmaa.CrcW
