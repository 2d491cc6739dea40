/- The walks of the laws of chapter 1. -/
import Derived.Test.YtpebfflokkdfhaaCrcRef
import Derived.Test.YtpebfflokkdfhaaOwn
import Derived.Lib.SlBytesConst
namespace Go.Proofs.Ytpebfflokkdfhaa.CrcW
open Go.RowKit Bv Crc Mem

theorem sum_nine : i32 (sum [49, 50, 51, 52, 53, 54, 55, 56, 57]) = 3808858755 := by decide +kernel
theorem step_one : i32 (Crc.step (BitVec.ofInt 32 0) 1) = 4067132163 := by decide +kernel
theorem step_two : i32 (Crc.step (BitVec.ofInt 32 1) 1) = 0 := by decide +kernel
/-- A contract over a register and a byte that stand as numbers. -/
theorem step_num (r : Int) (c : Int) (w : World) (h0 : 0 ≤ r) (h1 : r ≤ 4294967295) (h2 : 0 ≤ c) (h3 : c ≤ 255) :
    Calls Try.prog 10 #[.int .u32 r, .int .u8 c] w fun e w' => e = .returned (.int .u32 (i32 (Crc.step (BitVec.ofInt 32 r) (UInt8.ofNat c.toNat)))) ∧ Below w.heap.size w w' := by
  have h := step_any (BitVec.ofInt 32 r) (UInt8.ofNat c.toNat) w
  rw [i32_ofInt r h0 h1] at h
  have e : ((UInt8.ofNat c.toNat).toNat : Int) = c := by
    rw [UInt8.toNat_ofNat', Nat.mod_eq_of_lt (by show c.toNat < 256; omega)]; omega
  rwa [e] at h

set_option maxHeartbeats 1000000 in
theorem works_any (w : World) :
    Calls Try.prog 12 #[] w fun e w' => e = .returned (.bool true) ∧ Below w.heap.size w w' := by
  have kc := fun (w : World) (C : Array Value) (n c : Nat) => Lib.run_convert_bytes_const (P := Try.prog) w 26 5 C n c Try.underlying26 Try.underlying5
  go_enter Try.func12, Try.ntmps12
  go_wp2_with fail
  refine (sum_any _ [49, 50, 51, 52, 53, 54, 55, 56, 57] _ _ (by decide) (Bytes.new w _ _ _ _ (by rfl) _ (by simp))).mono ?_
  rintro e w1 ⟨rfl, hb1⟩
  rw [sum_nine]
  go_wp2_with fail
  refine (step_num 0 1 _ (by decide) (by decide) (by decide) (by decide)).mono ?_
  rintro e w2 ⟨rfl, hb2⟩
  have e1 : i32 (Crc.step (BitVec.ofInt 32 0) (UInt8.ofNat (1 : Int).toNat)) = 4067132163 := step_one
  rw [e1]; clear e1
  go_wp2_with fail
  refine (step_num 1 1 _ (by decide) (by decide) (by decide) (by decide)).mono ?_
  rintro e w3 ⟨rfl, hb3⟩
  have e2 : i32 (Crc.step (BitVec.ofInt 32 1) (UInt8.ofNat (1 : Int).toNat)) = 0 := step_two
  rw [e2]; clear e2
  go_wp2_with fail
  go_ret
  exact ⟨rfl, (((Below.refl _ _).alloc (Nat.le_refl _) _).trans (hb1.mono (by simp))).trans ((hb2.mono (by have := hb1.size; simp at this; omega)).trans (hb3.mono (by have := hb1.size; have := hb2.size; simp at *; omega)))⟩

set_option maxHeartbeats 400000 in
theorem left_any (w : World) (r : BitVec 32) (c : UInt8) :
    Calls Try.prog 3 #[.int .u32 (i32 r), .int .u8 (c.toNat : Int)] w fun e w' => e = .returned (.bool true) ∧ Below w.heap.size w w' := by
  go_enter Try.func3, Try.ntmps3
  go_wp2_with fail
  refine (step_any _ _ _).mono ?_
  rintro e w1 ⟨rfl, hb1⟩
  go_wp2_with fail
  refine (refStep_any _ _ _).mono ?_
  rintro e w2 ⟨rfl, hb2⟩
  rw [refStep_eq]
  go_wp2_with fail
  refine (works_any _).mono ?_
  rintro e w3 ⟨rfl, hb3⟩
  go_wp2_with fail
  go_ret
  exact ⟨rfl, next (next hb1 hb2) hb3⟩

set_option maxHeartbeats 400000 in
set_option maxRecDepth 100000 in
theorem whole_any (w : World) (A : Option Addr) (l : List UInt8) (c : Nat) (hle : l.length ≤ c) (hmx : c ≤ maxLen) (hA : Bytes w w.heap.size A l) :
    Calls Try.prog 4 #[.slice A l.length c] w fun e w' => e = .returned (.bool true) ∧ Below w.heap.size w w' := by
  have hm : l.length ≤ maxLen := Nat.le_trans hle hmx
  clear hle hmx
  unfold maxLen at hm
  by_cases hl : 1000 < l.length
  · have hl' : (1000 : Int) < (l.length : Int) := by omega
    go_enter Try.func4, Try.ntmps4
    go_wp2_with fail
    refine (works_any _).mono ?_
    rintro e w1 ⟨rfl, hb1⟩
    go_wp2_with fail
    go_ret
    exact ⟨rfl, hb1⟩
  · have hl' : (l.length : Int) ≤ (1000 : Int) := by omega
    have hs0 := run_str (P := Try.prog) w 26 5 Try.underlying26 Try.underlying5 hA c 9 Try.underlying9
    go_enter Try.func4, Try.ntmps4
    go_wp2_with fail
    clear hs0
    go_loopw [4, 5] (fun t i wr => ∃ k : Nat, k ≤ l.length ∧ i = .int .i64 k ∧ t = .int .u32 (i32 (stepReg (l.take k))) ∧ Below w.heap.size w wr) (fun _ i _ => l.length - (intOf i).toNat)
    case atStart => exact ⟨0, by omega, rfl, rfl, Below.refl _ _⟩
    case round =>
      obtain ⟨k, hk, rfl, rfl, hb⟩ := hrel
      by_cases hlt : k < l.length
      · obtain ⟨b, off, rfl, hlt2, hc⟩ := (hA.below hb).at_ hlt
        go_wp2_with fail
        refine (step_any _ _ _).mono ?_
        rintro e w1 ⟨rfl, hb1⟩
        go_wp2_with fail
        go_roundw
        case rel => exact ⟨k + 1, by omega, by go_num, by rw [List.take_succ_eq_append_getElem hlt, stepReg_snoc], next hb hb1⟩
        case measure => simp [intOf]; omega
      · obtain rfl : k = l.length := by omega
        rw [List.take_of_length_le (Nat.le_refl _)]
        go_wp2_with fail
        refine (sum_any A l c _ (by unfold maxLen; omega) ((hA.below hb).up hb.size)).mono ?_
        rintro e w1 ⟨rfl, hb1⟩
        have hb2 := next hb hb1
        go_wp2_with ((with_reducible show wpList _ _ _ ((⟨some 29, _, _, _, _, _⟩ : Oper) :: _) _ _); refine wpList_bytesOf _ (by rfl) 9 26 _ rfl 5 Try.underlying9 Try.underlying26 Try.underlying5 l rfl ?_; intro c1 w2 hc1 hr2 hb3 hsz2)
        refine (refSum_any _ l _ _ (by unfold maxLen; omega) (hr2.cells)).mono ?_
        rintro e w3 ⟨rfl, rfl⟩
        have hb4 := next hb2 hb3
        rw [refSum_eq]
        have hn : bits .xor .u32 IntKind.u32.max (i32 (stepReg l)) = i32 (Crc.sum l) := by rw [not32, sum_stepReg]
        have hs1 := run_str (P := Try.prog) w2 26 5 Try.underlying26 Try.underlying5 (hA.below hb4) c 9 Try.underlying9
        go_wp2_with fail
        refine (works_any _).mono ?_
        rintro e w4 ⟨rfl, hb5⟩
        clear hn hs1 hsz2 hc1 hr2
        go_wp2_with fail
        go_ret
        exact ⟨rfl, next hb4 hb5⟩
end Go.Proofs.Ytpebfflokkdfhaa.CrcW
