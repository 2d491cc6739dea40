/- The document's field: what its functions tell. -/
import Derived.Test.YthdapoipfnnaeaaFdPow
namespace Go.Proofs.Ythdapoipfnnaeaa.FdW
open Go.RowKit Mem Gf
set_option linter.unusedVariables false

theorem two_pow (k : Nat) : (2 : Int) ^ k = ((2 ^ k : Nat) : Int) := by simp
theorem bit_u8 (b : UInt8) (k : Nat) : (bits .and .u8 ((b.toNat : Int) / 2 ^ k) 1 == 1) = b.toNat.testBit k := by
  rw [two_pow]; exact Bv.bit8 b k _ rfl
theorem shl_a {c a k : Nat} (hc : c < 65536) (ha : a < 256) (hk : k < 8) : bits .xor .i64 (c : Int) (wrap64 ((a : Int) * 2 ^ k)) = ((c ^^^ (a <<< k) : Nat) : Int) := by
  have h2 : 2 ^ k ≤ 128 := by
    have : 2 ^ k ≤ 2 ^ 7 := Nat.pow_le_pow_right (by decide) (by omega)
    simpa using this
  have h3 : a * 2 ^ k ≤ 255 * 128 := Nat.mul_le_mul (by omega) h2
  have e : wrap64 ((a : Int) * 2 ^ k) = ((a <<< k : Nat) : Int) := by
    rw [two_pow, Nat.shiftLeft_eq]
    have : (a : Int) * ((2 ^ k : Nat) : Int) = ((a * 2 ^ k : Nat) : Int) := by simp
    rw [this]
    exact IntWalk.wrap64_in _ (by omega)
  rw [e, xorI c _ (by omega) (by rw [Nat.shiftLeft_eq]; omega)]
theorem shl_285 {c k : Nat} (hc : c < 65536) (hk : k < 7) : bits .xor .i64 (c : Int) (wrap64 (285 * 2 ^ (14 - k - 8))) = ((c ^^^ (285 <<< (6 - k)) : Nat) : Int) := by
  rw [show 14 - k - 8 = 6 - k by omega]
  have h2 : 2 ^ (6 - k) ≤ 64 := by
    have : 2 ^ (6 - k) ≤ 2 ^ 6 := Nat.pow_le_pow_right (by decide) (by omega)
    simpa using this
  have e : wrap64 (285 * 2 ^ (6 - k)) = ((285 <<< (6 - k) : Nat) : Int) := by
    rw [two_pow, Nat.shiftLeft_eq]
    have : (285 : Int) * ((2 ^ (6 - k) : Nat) : Int) = ((285 * 2 ^ (6 - k) : Nat) : Int) := by simp
    rw [this]
    exact IntWalk.wrap64_in _ (by omega)
  rw [e, xorI c _ (by omega) (by rw [Nat.shiftLeft_eq]; omega)]

set_option maxHeartbeats 800000 in
theorem refMul_any (x y : Int) (a b : UInt8) (hx : x = (a.toNat : Int)) (hy : y = (b.toNat : Int)) (w : World) :
    Calls Try.prog 51 #[.int .u8 x, .int .u8 y] w fun e w' => e = .returned (.int .u8 ((mul a b).toNat : Int)) ∧ w = w' := by
  subst hx; subst hy
  have ha5 : a.toNat < 256 := a.toNat_lt
  have HM := Lib.hid (mul_toNat a b)
  have HR := Lib.hid (fun k hk => rd_lt (cl a.toNat b.toNat 8) (cl_lt' _ _ ha5) k hk)
  generalize (mul a b).toNat = res at *
  go_enter Try.func51, Try.ntmps51
  go_wp2_with fail
  go_loop [5, 6] (fun n i => ∃ k : Nat, i = .int .i64 (k : Int) ∧ n = .int .i64 (cl a.toNat b.toNat k : Nat) ∧ k ≤ 8) (fun _ i => 8 - (intOf i).toNat)
  case atStart => exact ⟨0, rfl, rfl, by omega⟩
  case round =>
    obtain ⟨k, rfl, rfl, hk⟩ := hrel
    by_cases hk8 : k < 8
    · have hk8i : (k : Int) < 8 := by omega
      have hc := cl8_lt a.toNat b.toNat k ha5 hk
      have HX := Lib.hid (shl_a hc ha5 hk8)
      by_cases hb : b.toNat.testBit k = true
      · have hb1 := (bit_u8 b k).trans hb
        have HC := Lib.hid (show cl a.toNat b.toNat (k + 1) = cl a.toNat b.toNat k ^^^ (a.toNat <<< k) from if_pos hb)
        clear hb
        generalize cl a.toNat b.toNat k = c at *
        go_wp2_with fail
        go_round
        case rel => exact ⟨k + 1, by go_num, by rw [HC.out, HX.out], by omega⟩
        case measure => simp [intOf]; omega
      · have hb1 := (bit_u8 b k).trans (by simpa using hb)
        have HC := Lib.hid (show cl a.toNat b.toNat (k + 1) = cl a.toNat b.toNat k from if_neg hb)
        clear hb
        generalize cl a.toNat b.toNat k = c at *
        go_wp2_with fail
        go_round
        case rel => exact ⟨k + 1, by go_num, by rw [HC.out], by omega⟩
        case measure => simp [intOf]; omega
    · obtain rfl : k = 8 := by omega
      go_wp2_with fail
      go_loop [5, 7] (fun n i => ∃ k : Nat, i = .int .i64 ((14 : Int) - k) ∧ n = .int .i64 (rd (cl a.toNat b.toNat 8) k : Nat) ∧ k ≤ 7) (fun _ i => (intOf i).toNat)
      case atStart => exact ⟨0, rfl, rfl, by omega⟩
      case round =>
      obtain ⟨k, rfl, rfl, hk⟩ := hrel
      have hc : rd (cl a.toNat b.toNat 8) k < 65536 := Nat.lt_of_lt_of_le (HR.out k hk) (show 2 ^ (15 - k) ≤ 2 ^ 16 from Nat.pow_le_pow_right (by decide) (by omega))
      by_cases hk8 : k < 7
      · have h1 : (8 : Int) ≤ (14 : Int) - (k : Int) := by omega
        have HX := Lib.hid (shl_285 hc hk8)
        have hbi := Bv.bitI (rd (cl a.toNat b.toNat 8) k) (by omega) (14 - k)
        by_cases hb : (rd (cl a.toNat b.toNat 8) k).testBit (14 - k) = true
        · rw [hb] at hbi
          have HC := Lib.hid (show rd (cl a.toNat b.toNat 8) (k + 1) = rd (cl a.toNat b.toNat 8) k ^^^ (285 <<< (6 - k)) from if_pos hb)
          clear hb
          generalize rd (cl a.toNat b.toNat 8) k = c at *
          go_wp2_with fail
          go_round
          case rel => exact ⟨k + 1, by congr 1; omega, by rw [HC.out, HX.out], by omega⟩
          case measure => simp [intOf]; omega
        · rw [show (rd (cl a.toNat b.toNat 8) k).testBit (14 - k) = false by simpa using hb] at hbi
          have HC := Lib.hid (show rd (cl a.toNat b.toNat 8) (k + 1) = rd (cl a.toNat b.toNat 8) k from if_neg hb)
          clear hb
          generalize rd (cl a.toNat b.toNat 8) k = c at *
          go_wp2_with fail
          go_round
          case rel => exact ⟨k + 1, by congr 1; omega, by rw [HC.out], by omega⟩
          case measure => simp [intOf]; omega
      · obtain rfl : k = 7 := by omega
        have hc7 : rd (cl a.toNat b.toNat 8) 7 < 256 := HR.out 7 (by omega)
        have HN := Lib.hid (show res = rd (cl a.toNat b.toNat 8) 7 from HM.out)
        generalize rd (cl a.toNat b.toNat 8) 7 = c at *
        go_wp2_with fail
        go_ret
        exact ⟨by rw [HN.out]; rfl, rfl⟩

theorem ofNat_toNat {k : Nat} (hk : k < 256) : (k : Int) = ((UInt8.ofNat k).toNat : Int) := by
  rw [UInt8.toNat_ofNat']; omega
theorem one_eq (a : UInt8) : ((a.toNat : Int) == 1) = (a == 1) := u8_eq a 1
set_option maxHeartbeats 800000 in
theorem refInv_any (x : Int) (a : UInt8) (hx : x = (a.toNat : Int)) (w : World) :
    Calls Try.prog 66 #[.int .u8 x] w fun e w' => e = .returned (.tuple #[.int .u8 ((inv a).toNat : Int), .bool (nz a)]) ∧ w = w' := by
  subst hx
  go_enter Try.func66, Try.ntmps66
  go_wp2_with fail
  go_loop [4] (fun i => ∃ k : Nat, i = .int .i64 (k : Int) ∧ 1 ≤ k ∧ k ≤ 256 ∧ ∀ j, 1 ≤ j → j < k → mul a (UInt8.ofNat j) ≠ 1) (fun i => 256 - (intOf i).toNat)
  case atStart => exact ⟨1, rfl, by omega, by omega, fun j h1 h2 => by omega⟩
  case round =>
    obtain ⟨k, rfl, hk1, hk, hall⟩ := hrel
    have HA := Lib.hid hall
    clear hall
    by_cases hk8 : k < 256
    · have hk8i : (k : Int) < 256 := by omega
      have hk0i : (0 : Int) ≤ (k : Int) := by omega
      go_wp2_with fail
      refine (refMul_any _ _ a (UInt8.ofNat k) rfl (ofNat_toNat hk8) _).mono ?_
      rintro e w' ⟨rfl, rfl⟩
      have ho := one_eq (mul a (UInt8.ofNat k))
      by_cases hm : mul a (UInt8.ofNat k) = 1
      · rw [hm] at ho ⊢
        have HI := Lib.hid (inv_of hm)
        have HZ := Lib.hid (nz_ne (b := a) (by rintro rfl; rw [zero_mul] at hm; exact absurd hm (by decide)))
        clear hm ho
        have h1 : (((1 : UInt8).toNat : Int) == 1) = true := rfl
        go_wp2_with fail
        go_ret2
        exact ⟨by rw [← HI.out, HZ.out, ← ofNat_toNat hk8]; rfl, rfl⟩
      · rw [show (mul a (UInt8.ofNat k) == 1) = false by simpa using hm] at ho
        have HM := Lib.hid hm
        clear hm
        generalize (mul a (UInt8.ofNat k)).toNat = y at *
        go_wp2_with fail
        go_round
        case rel =>
          refine ⟨k + 1, by go_num, by omega, by omega, fun j h1 h2 => ?_⟩
          by_cases e : j = k
          · subst e; exact HM.out
          · exact HA.out j h1 (by omega)
        case measure => simp [intOf]; omega
    · obtain rfl : k = 256 := by omega
      have ha : a = 0 := by
        by_cases h : a = 0
        · exact h
        · refine absurd (mul_inv h) ?_
          have h2 := HA.out (inv a).toNat ?_ (inv a).toNat_lt
          · rwa [UInt8.ofNat_toNat] at h2
          · have := inv_ne h
            have h3 : (inv a).toNat ≠ 0 := fun e => this (UInt8.toNat_inj.1 (by rw [e]; rfl))
            omega
      subst ha
      go_wp2_with fail
      go_ret2
      exact ⟨rfl, rfl⟩

theorem rp_zero : ∀ k, 1 ≤ k → rp 0 k = 0
  | k + 1, _ => mul_zero _
theorem pow_rp {a : UInt8} {n : Int} (hn : n ≠ 0) (ha : a ≠ 0) : pow a n = rp a (n % 255).toNat := by rw [pow, if_neg hn, if_neg ha]
end Go.Proofs.Ythdapoipfnnaeaa.FdW
