/- The walks of the document's answer for the check (starfishref01). -/
import Derived.Test.YtpebfflokkdfhaaCrcWalks
import Derived.RegionTactic
import Derived.BigRegion
import Derived.BigQuiet
import Derived.Deep.QuietTactic
import Derived.Deep.RegionWith
import Derived.Deep.RegionHeld3
import Derived.StillTailTactics
import Derived.ChangeAlike
namespace Go.Proofs.Ytpebfflokkdfhaa.CrcW
open Go.RowKit Bv Crc Mem

set_option maxHeartbeats 400000 in
theorem divisor_any (k : Nat) (hk : k ≤ 32) (w : World) :
    Calls Try.prog 18 #[.int .i64 k] w fun e w' => e = .returned (.bool (P.getLsbD k)) ∧ w = w' := by
  by_cases h0 : k = 0
  · subst h0
    go_enter Try.func18, Try.ntmps18
    go_wp2
    go_ret
    exact ⟨rfl, rfl⟩
  · have hz : ((k : Int) == 0) = false := by simp; omega
    go_enter Try.func18, Try.ntmps18
    go_wp2
    go_ret
    rw [P_bit k h0 hk, ← bitI 517762881 (by omega) (32 - k)]
    exact ⟨rfl, rfl⟩
theorem row_bit {r : BitVec 32} {c : UInt8} {k : Nat} (hk : k < 32) : (refStep r c).getLsbD k = (divN (row2 r c 8) 8).getLsbD (8 + k) := by
  simp [refStep, hk]
theorem out_no {r : BitVec 32} {c : UInt8} {k : Nat} (hk : k < 32) (h : (divN (row2 r c 8) 8).getLsbD (8 + k) = false) : outN (refStep r c) (k + 1) = outN (refStep r c) k := by
  rw [outN, row_bit hk, h]; rfl
theorem out_yes {r : BitVec 32} {c : UInt8} {k : Nat} (hk : k < 32) (h : (divN (row2 r c 8) 8).getLsbD (8 + k) = true) : (i32 (outN (refStep r c) k) + 2 ^ k % (4294967296 : Int)) % (4294967296 : Int) = i32 (outN (refStep r c) (k + 1)) := by
  rw [outN, row_bit hk, h]
  exact add_pow k hk _
set_option maxHeartbeats 400000 in
set_option maxRecDepth 100000 in
theorem refStep_any (r : BitVec 32) (c : UInt8) (w : World) :
    Calls Try.prog 11 #[.int .u32 (i32 r), .int .u8 (c.toNat : Int)] w fun e w' => e = .returned (.int .u32 (i32 (refStep r c))) ∧ Below w.heap.size w w' := by
  go_enter Try.func11, Try.ntmps11
  go_wp2_with fail
  rw [cells40_zero]
  go_loopw [6] (fun i wr => ∃ k : Nat, k ≤ 32 ∧ i = .int .i64 k ∧ wr = w.alloc (.cells (cells40 (row1 r k)) 36)) (fun i _ => 32 - (intOf i).toNat)
  case atStart => exact ⟨0, by omega, rfl, rfl⟩
  case round =>
    obtain ⟨k, hk, rfl, rfl⟩ := hrel
    by_cases hlt : k < 32
    · have g0 : (0 : Int) ≤ (k : Int) := by omega
      have g1 : (k : Int) < 32 := by omega
      have hc := cells40_at (row1 r k) k (by omega)
      go_wp2_with fail
      go_roundw
      case rel => exact ⟨k + 1, by omega, by go_num, by rw [bit32 r k _ (by simp), row1_step r k hlt]⟩
      case measure => simp [intOf]; omega
    · obtain rfl : k = 32 := by omega
      go_wp2_with fail
      rw [row1_all r c]
      go_loopw [7] (fun i wr => ∃ (k n : Nat), k ≤ 8 ∧ i = .int .i64 k ∧ wr = (w.alloc (.cells (cells40 (row2 r c k)) 36)).drewN n) (fun i _ => 8 - (intOf i).toNat)
      case atStart => exact ⟨0, 0, by omega, rfl, rfl⟩
      case round =>
        obtain ⟨k, n, hk, rfl, rfl⟩ := hrel
        by_cases hlt : k < 8
        · have g0 : (0 : Int) ≤ (k : Int) := by omega
          have g1 : (k : Int) < 8 := by omega
          have g2 : (k : Int) < 40 := by omega
          have hc := cells40_at (row2 r c k) k (by omega)
          go_wp2_with fail
          go_region
          go_wp2_with fail
          go_roundw
          case rel => exact ⟨k + 1, n + 1, by omega, by go_num, by rw [bit8 c k _ (by simp), setCell_new, row2_step r c k hlt]⟩
          case measure => simp [intOf]; omega
        · obtain rfl : k = 8 := by omega
          go_wp2_with fail
          simp only [Int.cast_ofNat_Int]
          go_loopw [8] (fun i wr => ∃ (k n : Nat), k ≤ 8 ∧ i = .int .i64 k ∧ wr = (w.alloc (.cells (cells40 (divN (row2 r c 8) k)) 36)).drewN n) (fun i _ => 8 - (intOf i).toNat)
          case atStart => exact ⟨0, n, by omega, rfl, rfl⟩
          case round =>
            obtain ⟨k, n, hk, rfl, rfl⟩ := hrel
            by_cases hlt : k < 8
            · have g0 : (0 : Int) ≤ (k : Int) := by omega
              have g1 : (k : Int) < 8 := by omega
              have g2 : (k : Int) < 40 := by omega
              have hc := cells40_at (divN (row2 r c 8) k) k (by omega)
              cases hbit : (divN (row2 r c 8) k).getLsbD k
              · rw [hbit] at hc
                go_wp2_with fail
                go_roundw
                case rel => exact ⟨k + 1, n, by omega, by go_num, by rw [divN, hbit]; rfl⟩
                case measure => simp [intOf]; omega
              · rw [hbit] at hc
                go_wp2_with fail
                go_loopw [9] (fun i wr => ∃ (j n : Nat), j ≤ 33 ∧ i = .int .i64 j ∧ wr = (w.alloc (.cells (cells40 (div1 (divN (row2 r c 8) k) k j)) 36)).drewN n) (fun i _ => 33 - (intOf i).toNat)
                case atStart => exact ⟨0, n, by omega, rfl, by rw [div1_zero]⟩
                case round =>
                  obtain ⟨j, n, hj, rfl, rfl⟩ := hrel
                  by_cases hjlt : j ≤ 32
                  · have g3 : (0 : Int) ≤ (j : Int) := by omega
                    have g4 : (j : Int) ≤ 32 := by omega
                    have hc2 := cells40_at (div1 (divN (row2 r c 8) k) k j) (k + j) (by omega)
                    clear hc
                    have g5 : IntKind.i64.wrap ((k : Int) + (j : Int)) = (k : Int) + (j : Int) := IntWalk.i64_in _ (by omega)
                    have g6 : (0 : Int) ≤ (k : Int) + (j : Int) := by omega
                    have g7 : (k : Int) + (j : Int) < 40 := by omega
                    have g8 : ((k : Int) + (j : Int)).toNat = k + j := by omega
                    go_wp2_with fail
                    go_region_with ((go_at_call 18; refine (divisor_any j hjlt _).mono ?_; rintro e w' ⟨rfl, rfl⟩))
                    all_goals
                      go_wp2_with fail
                      go_roundw
                      case rel => exact ⟨j + 1, n + 1, by omega, by go_num, by rw [setCell_new, div1_step _ k j hlt hjlt]⟩
                      case measure => simp [intOf]; omega
                  · obtain rfl : j = 33 := by omega
                    go_wp2_with fail
                    go_roundw
                    case rel => exact ⟨k + 1, n, by omega, by go_num, by rw [div1_all, divN, hbit]; rfl⟩
                    case measure => simp [intOf]; omega
            · obtain rfl : k = 8 := by omega
              go_wp2_with fail
              have hB : Below w.heap.size w ((w.alloc (.cells (cells40 (divN (row2 r c 8) 8)) 36)).drewN n) := ((Below.refl _ _).alloc (Nat.le_refl _) _).trans ⟨rfl, rfl, rfl, Nat.le_refl _, fun _ _ => rfl⟩
              go_loop [10, 11] (fun t i => ∃ k : Nat, k ≤ 32 ∧ i = .int .i64 k ∧ t = .int .u32 (i32 (outN (refStep r c) k))) (fun _ i => 32 - (intOf i).toNat)
              case atStart => exact ⟨0, by omega, rfl, rfl⟩
              case round =>
                obtain ⟨k, hk, rfl, rfl⟩ := hrel
                by_cases hlt : k < 32
                · have g0 : (0 : Int) ≤ (k : Int) := by omega
                  have g1 : (k : Int) < 32 := by omega
                  have hc := cells40_at (divN (row2 r c 8) 8) (8 + k) (by omega)
                  cases hbit : (divN (row2 r c 8) 8).getLsbD (8 + k)
                  · rw [hbit] at hc
                    go_wp2_with fail
                    go_round
                    case rel => exact ⟨k + 1, by omega, by go_num, by rw [out_no hlt hbit]⟩
                    case measure => simp [intOf]; omega
                  · rw [hbit] at hc
                    go_wp2_with fail
                    go_round
                    case rel => exact ⟨k + 1, by omega, by go_num, by rw [out_yes hlt hbit]⟩
                    case measure => simp [intOf]; omega
                · obtain rfl : k = 32 := by omega
                  go_wp2_with fail
                  rw [outN_all]
                  go_ret
                  exact ⟨rfl, hB⟩

theorem top32 (v : BitVec 32) : decide ((2147483648 : Int) ≤ i32 v) = v.getLsbD 31 := by
  rw [bit_eq, Bool.eq_iff_iff, decide_eq_true_iff, beq_iff_eq]
  have := v.isLt
  unfold i32; omega
theorem refBit_test (v : BitVec 32) (c : UInt8) (j : Nat) : (!(decide ((2147483648 : Int) ≤ i32 v) == (bits .and .u8 ((c.toNat : Int) / 2 ^ j) (1 : Int) == (1 : Int)))) = (v.getLsbD 31 ^^ c.toBitVec.getLsbD j) := by
  rw [top32, bit8 c j _ (by simp), ← xor_bne]
theorem refBit_yes {v : BitVec 32} {b : Bool} (h : true = (v.getLsbD 31 ^^ b)) : bits .xor .u32 (i32 v * (2 : Int) % (4294967296 : Int)) (517762881 : Int) = i32 (refBit v b) := by
  rw [shl32_1, xor32, ofInt_i32, refBit, if_pos h.symm]; rfl
theorem refBit_no {v : BitVec 32} {b : Bool} (h : false = (v.getLsbD 31 ^^ b)) : i32 v * (2 : Int) % (4294967296 : Int) = i32 (refBit v b) := by
  rw [shl32_1, refBit, if_neg (by rw [← h]; decide)]
set_option maxHeartbeats 1000000 in
set_option maxRecDepth 100000 in
theorem refSum_any (A : Option Addr) (l : List UInt8) (c : Nat) (w : World) (hm : l.length ≤ maxLen) (hA : Bytes w w.heap.size A l) :
    Calls Try.prog 14 #[.slice A l.length c] w fun e w' => e = .returned (.int .u32 (i32 (refSum l))) ∧ w = w' := by
  unfold maxLen at hm
  go_enter Try.func14, Try.ntmps14
  go_wp2_with fail
  go_loop [3, 4] (fun t i => ∃ k : Nat, k ≤ l.length ∧ i = .int .i64 k ∧ t = .int .u32 (i32 (refReg (l.take k)))) (fun _ i => l.length - (intOf i).toNat)
  case atStart => exact ⟨0, by omega, rfl, rfl⟩
  case round =>
    obtain ⟨k, hk, rfl, rfl⟩ := hrel
    by_cases hlt : k < l.length
    · obtain ⟨b, off, rfl, hlt2, hc⟩ := hA.at_ hlt
      have HT := Lib.hid (show refReg (l.take (k + 1)) = refBits (refReg (l.take k)) l[k] 8 by rw [List.take_succ_eq_append_getElem hlt, refReg_snoc])
      have g1 : (k : Int) < l.length := by omega
      go_wp2_with fail
      go_loop [3, 5] (fun t i => ∃ j : Nat, j ≤ 8 ∧ i = .int .i64 j ∧ t = .int .u32 (i32 (refBits (refReg (l.take k)) l[k] j))) (fun _ i => 8 - (intOf i).toNat)
      case atStart => exact ⟨0, by omega, rfl, rfl⟩
      case round =>
        obtain ⟨j, hj, rfl, rfl⟩ := hrel
        by_cases hjlt : j < 8
        · have g3 : (0 : Int) ≤ (j : Int) := by omega
          have g4 : (j : Int) < 8 := by omega
          go_wp2_with fail
          · have ht := refBit_test (refBits (refReg (l.take k)) l[k] j) l[k] j
            rw [‹(!decide (2147483648 ≤ i32 (refBits (refReg (List.take k l)) l[k] j)) == (bits BinOp.and IntKind.u8 ((l[k].toNat : Int) / 2 ^ j) 1 == 1)) = true›] at ht
            go_round
            case rel => exact ⟨j + 1, by omega, by go_num, by rw [refBits, refBit_yes ht]⟩
            case measure => simp [intOf]; omega
          · have ht := refBit_test (refBits (refReg (l.take k)) l[k] j) l[k] j
            rw [‹(!decide (2147483648 ≤ i32 (refBits (refReg (List.take k l)) l[k] j)) == (bits BinOp.and IntKind.u8 ((l[k].toNat : Int) / 2 ^ j) 1 == 1)) = false›] at ht
            go_round
            case rel => exact ⟨j + 1, by omega, by go_num, by rw [refBits, refBit_no ht]⟩
            case measure => simp [intOf]; omega
        · obtain rfl : j = 8 := by omega
          go_wp2_with fail
          go_round
          case rel => exact ⟨k + 1, by omega, by go_num, by rw [HT.out]⟩
          case measure => simp [intOf]; omega
    · obtain rfl : k = l.length := by omega
      rw [List.take_of_length_le (Nat.le_refl _)]
      go_wp2_with fail
      go_loop [7, 8] (fun t i => ∃ k : Nat, k ≤ 32 ∧ i = .int .i64 k ∧ t = .int .u32 (i32 (outR (refReg l) k))) (fun _ i => 32 - (intOf i).toNat)
      case atStart => exact ⟨0, by omega, rfl, rfl⟩
      case round =>
        obtain ⟨k, hk, rfl, rfl⟩ := hrel
        by_cases hlt : k < 32
        · have g0 : (0 : Int) ≤ (k : Int) := by omega
          have g1 : (k : Int) < 32 := by omega
          go_wp2_with fail
          · have ht := bit32z (refReg l) (31 - k) (2 ^ (31 - k)) (by simp)
            rw [‹(bits BinOp.and IntKind.u32 (i32 (refReg l) / 2 ^ (31 - k)) 1 == 0) = true›] at ht
            go_round
            case rel => exact ⟨k + 1, by omega, by go_num, by rw [outR, if_pos (by simpa using ht.symm), add_pow k hlt]⟩
            case measure => simp [intOf]; omega
          · have ht := bit32z (refReg l) (31 - k) (2 ^ (31 - k)) (by simp)
            rw [‹(bits BinOp.and IntKind.u32 (i32 (refReg l) / 2 ^ (31 - k)) 1 == 0) = false›] at ht
            go_round
            case rel => exact ⟨k + 1, by omega, by go_num, by rw [outR, if_neg (by simpa using ht.symm)]⟩
            case measure => simp [intOf]; omega
        · obtain rfl : k = 32 := by omega
          go_wp2_with fail
          go_ret
          exact ⟨rfl, rfl⟩
end Go.Proofs.Ytpebfflokkdfhaa.CrcW
