/- The law FieldKnown: its walk. -/
import Derived.Test.YtokpcgfkfmjkkaaFdLawTwo
import Derived.Test.YtokpcgfkfmjkkaaFdLawPowers
import Derived.Test.YtokpcgfkfmjkkaaFdLawLaws
import Derived.Test.YtokpcgfkfmjkkaaFdLawLogs
import Derived.Outline
namespace Go.Proofs.Ytokpcgfkfmjkkaa.FdW
open Go.RowKit Mem Gf
set_option linter.unusedVariables false

theorem u8_of (x : Int) (h : 0 ≤ x ∧ x ≤ 255) : ∃ a : UInt8, x = (a.toNat : Int) := ⟨UInt8.ofNat x.toNat, by rw [← ofNat_toNat (by omega)]; omega⟩
theorem two_i (w : World) (x y : Int) (hx : 0 ≤ x ∧ x ≤ 255) (hy : 0 ≤ y ∧ y ≤ 255) : Calls Try.prog 3 #[.int .u8 x, .int .u8 y] w fun e w' => e = .returned (.bool true) ∧ Below w.heap.size w w' := by
  obtain ⟨a, rfl⟩ := u8_of x hx; obtain ⟨b, rfl⟩ := u8_of y hy; exact two_any w a b
theorem powers_i (w : World) (x n : Int) (hx : 0 ≤ x ∧ x ≤ 255) : Calls Try.prog 4 #[.int .u8 x, .int .i64 n] w fun e w' => e = .returned (.bool true) ∧ Below w.heap.size w w' := by
  obtain ⟨a, rfl⟩ := u8_of x hx; exact powers_any w a n
theorem laws_i (w : World) (x y z : Int) (hx : 0 ≤ x ∧ x ≤ 255) (hy : 0 ≤ y ∧ y ≤ 255) (hz : 0 ≤ z ∧ z ≤ 255) : Calls Try.prog 5 #[.int .u8 x, .int .u8 y, .int .u8 z] w fun e w' => e = .returned (.bool true) ∧ Below w.heap.size w w' := by
  obtain ⟨a, rfl⟩ := u8_of x hx; obtain ⟨b, rfl⟩ := u8_of y hy; obtain ⟨c, rfl⟩ := u8_of z hz; exact laws_any w a b c
theorem logs_i (w : World) (x y i k : Int) (hx : 0 ≤ x ∧ x ≤ 255) (hy : 0 ≤ y ∧ y ≤ 255) (hi : -32768 ≤ i ∧ i ≤ 32767) (hk : -32768 ≤ k ∧ k ≤ 32767) : Calls Try.prog 6 #[.int .u8 x, .int .u8 y, .int .i16 i, .int .i16 k] w fun e w' => e = .returned (.bool true) ∧ Below w.heap.size w w' := by
  obtain ⟨a, rfl⟩ := u8_of x hx; obtain ⟨b, rfl⟩ := u8_of y hy; exact logs_any w a b i k hi hk

def manyA : Array Value := #[.int .i64 (-9223372036854775808), .int .i64 (-256), .int .i64 (-255), .int .i64 (-254), .int .i64 (-1), .int .i64 0, .int .i64 1, .int .i64 254, .int .i64 255, .int .i64 256, .int .i64 9223372036854775807]
theorem many (wr : World) (j : Nat) (hj : j < 11) : ∃ v, (wr.alloc (.cells manyA 3)).cell? ⟨wr.heap.size, j, none⟩ = some (.int .i64 v) := by
  have hc := (Blk.new wr 3 manyA).cell j
  rw [hc]
  rcases (by omega : j = 0 ∨ j = 1 ∨ j = 2 ∨ j = 3 ∨ j = 4 ∨ j = 5 ∨ j = 6 ∨ j = 7 ∨ j = 8 ∨ j = 9 ∨ j = 10) with rfl | rfl | rfl | rfl | rfl | rfl | rfl | rfl | rfl | rfl | rfl <;> exact ⟨_, rfl⟩
set_option maxRecDepth 100000 in
set_option maxHeartbeats 3200000 in
theorem known_any (w : World) : Calls Try.prog 7 #[] w fun e w' => e = .returned (.bool true) ∧ Below w.heap.size w w' := by
  go_enter Try.func7, Try.ntmps7
  go_wp2_with fail
  go_loopw [1] (fun i wr => ∃ k : Nat, i = .int .i64 (k : Int) ∧ k ≤ 256 ∧ Below w.heap.size w wr) (fun i _ => 256 - (intOf i).toNat)
  case atStart => exact ⟨0, rfl, by omega, Below.refl _ _⟩
  case round =>
    obtain ⟨k, rfl, hk, hb⟩ := hrel
    have HB := Lib.hid hb
    clear hb
    obtain ⟨wo, rfl⟩ : ∃ wo : World, wo = wr := ⟨_, rfl⟩
    by_cases hk8 : k < 256
    · have hk8i : (k : Int) < 256 := by omega
      have hk0i : (0 : Int) ≤ (k : Int) := by omega
      have hcells : ∀ j, j < 7 → ∃ v, (wo.alloc (.cells #[.int .i64 0, .int .i64 1, .int .i64 2, .int .i64 128, .int .i64 255, .int .i64 (k : Int), .int .i64 (255 - (k : Int))] 3)).cell? ⟨wo.heap.size, j, none⟩ = some (.int .i64 v) ∧ 0 ≤ v ∧ v ≤ 255 := by
        intro j hj
        rcases (by omega : j = 0 ∨ j = 1 ∨ j = 2 ∨ j = 3 ∨ j = 4 ∨ j = 5 ∨ j = 6) with rfl | rfl | rfl | rfl | rfl | rfl | rfl
        · exact ⟨0, by simp, by omega, by omega⟩
        · exact ⟨1, by simp, by omega, by omega⟩
        · exact ⟨2, by simp, by omega, by omega⟩
        · exact ⟨128, by simp, by omega, by omega⟩
        · exact ⟨255, by simp, by omega, by omega⟩
        · exact ⟨k, by simp, by omega, by omega⟩
        · exact ⟨255 - k, by simp, by omega, by omega⟩
      have HC := Lib.hid hcells
      have HB1 := Lib.hid (nextA HB.out (.cells #[.int .i64 0, .int .i64 1, .int .i64 2, .int .i64 128, .int .i64 255, .int .i64 (k : Int), .int .i64 (255 - (k : Int))] 3))
      have HL := Lib.hid (show wo.heap.size < (wo.alloc (.cells #[.int .i64 0, .int .i64 1, .int .i64 2, .int .i64 128, .int .i64 255, .int .i64 (k : Int), .int .i64 (255 - (k : Int))] 3)).heap.size by simp)
      clear hcells
      go_wp2_with fail
      generalize wo.alloc (.cells #[.int .i64 0, .int .i64 1, .int .i64 2, .int .i64 128, .int .i64 255, .int .i64 (k : Int), .int .i64 (255 - (k : Int))] 3) = wb at *
      go_loopw [15] (fun i wq => ∃ j : Nat, i = .int .i64 (j : Int) ∧ j ≤ 7 ∧ Below w.heap.size w wq ∧ Below wb.heap.size wb wq) (fun i _ => 7 - (intOf i).toNat)
      case atStart => exact ⟨0, rfl, by omega, HB1.out, Below.refl _ _⟩
      case round =>
        obtain ⟨j, rfl, hj, hb1, hb2⟩ := hrel
        have HQ := Lib.hid (And.intro hb1 hb2)
        clear hb1 hb2
        by_cases hj7 : j < 7
        · obtain ⟨v, hcell, hv0, hv5⟩ := HC.out j hj7
          replace hcell := (HQ.out.2.cell (p := ⟨wo.heap.size, j, none⟩) HL.out).trans hcell
          have hj7i : (j : Int) < 7 := by omega
          have hj0i : (0 : Int) ≤ (j : Int) := by omega
          go_wp2_with fail
          refine (laws_i _ _ _ _ (by omega) (by omega) (by omega)).mono ?_
          rintro e w1 ⟨rfl, hb⟩
          have H1 := Lib.hid (And.intro (next HQ.out.1 hb) (next HQ.out.2 hb))
          clear hb hcell
          go_wp2_with fail
          refine (logs_i _ _ _ _ _ (by omega) (by omega) (by omega) (by omega)).mono ?_
          rintro e w2 ⟨rfl, hb⟩
          have H2 := Lib.hid (And.intro (next H1.out.1 hb) (next H1.out.2 hb))
          clear hb
          go_wp2_with fail
          go_roundw
          case rel => exact ⟨j + 1, by go_num, by omega, H2.out⟩
          case measure => simp [intOf]; omega
        · obtain rfl : j = 7 := by omega
          go_wp2_with fail
          refine (two_i _ _ _ (by omega) (by omega)).mono ?_
          rintro e w1 ⟨rfl, hb⟩
          have H1 := Lib.hid (next HQ.out.1 hb)
          clear hb
          by_cases h4 : (k : Int) % 4 = 0
          · have h4b : ((k : Int) % 4 == 0) = true := by simpa using h4
            clear h4
            go_wp2_with fail
            refine (two_i _ _ _ (by omega) (by omega)).mono ?_
            rintro e w2 ⟨rfl, hb⟩
            have H2 := Lib.hid (next H1.out hb)
            clear hb
            go_wp2_with fail
            refine (powers_i _ _ _ (by omega)).mono ?_
            rintro e w3 ⟨rfl, hb⟩
            have H3 := Lib.hid (next H2.out hb)
            clear hb
            go_wp2_with fail
            go_roundw
            case rel => exact ⟨k + 1, by go_num, by omega, H3.out⟩
            case measure => simp [intOf]; omega
          · have h4b : ((k : Int) % 4 == 0) = false := by simpa using h4
            clear h4
            go_wp2_with fail
            refine (powers_i _ _ _ (by omega)).mono ?_
            rintro e w3 ⟨rfl, hb⟩
            have H3 := Lib.hid (next H1.out hb)
            clear hb
            go_wp2_with fail
            go_roundw
            case rel => exact ⟨k + 1, by go_num, by omega, H3.out⟩
            case measure => simp [intOf]; omega
    · obtain rfl : k = 256 := by omega
      rw [show ((256 : Nat) : Int) = 256 from rfl]
      go_wp2_with fail
      have HC := Lib.hid (fun j (hj : j < 11) => many wo j hj)
      have HB1 := Lib.hid (nextA HB.out (.cells manyA 3))
      have HL := Lib.hid (show wo.heap.size < (wo.alloc (.cells manyA 3)).heap.size by simp)
      unfold manyA at HC HB1 HL
      generalize hwb : wo.alloc (.cells _ 3) = wb at *
      clear hwb
      go_loopw [73] (fun i wq => ∃ j : Nat, i = .int .i64 (j : Int) ∧ j ≤ 11 ∧ Below w.heap.size w wq ∧ Below wb.heap.size wb wq) (fun i _ => 11 - (intOf i).toNat)
      case atStart => exact ⟨0, rfl, by omega, HB1.out, Below.refl _ _⟩
      case round =>
        obtain ⟨j, rfl, hj, hb1, hb2⟩ := hrel
        have HQ := Lib.hid (And.intro hb1 hb2)
        clear hb1 hb2
        by_cases hj7 : j < 11
        · obtain ⟨v, hcell⟩ := HC.out j hj7
          replace hcell := (HQ.out.2.cell (p := ⟨wo.heap.size, j, none⟩) HL.out).trans hcell
          have hj7i : (j : Int) < 11 := by omega
          have hj0i : (0 : Int) ≤ (j : Int) := by omega
          go_wp2_with fail
          refine (powers_i _ 0 v (by omega)).mono ?_
          rintro e w1 ⟨rfl, hb⟩
          have H1 := Lib.hid (And.intro (next HQ.out.1 hb) (next HQ.out.2 hb))
          clear hb hcell
          go_wp2_with fail
          refine (powers_i _ 1 v (by omega)).mono ?_
          rintro e w2 ⟨rfl, hb⟩
          have H2 := Lib.hid (And.intro (next H1.out.1 hb) (next H1.out.2 hb))
          clear hb
          go_wp2_with fail
          refine (powers_i _ 2 v (by omega)).mono ?_
          rintro e w3 ⟨rfl, hb⟩
          have H3 := Lib.hid (And.intro (next H2.out.1 hb) (next H2.out.2 hb))
          clear hb
          go_wp2_with fail
          refine (powers_i _ 200 v (by omega)).mono ?_
          rintro e w4 ⟨rfl, hb⟩
          have H4 := Lib.hid (And.intro (next H3.out.1 hb) (next H3.out.2 hb))
          clear hb
          go_wp2_with fail
          go_roundw
          case rel => exact ⟨j + 1, by go_num, by omega, H4.out⟩
          case measure => simp [intOf]; omega
        · obtain rfl : j = 11 := by omega
          go_wp2_with fail
          refine (works_any _).mono ?_
          rintro e w1 ⟨rfl, hb⟩
          have H1 := Lib.hid (next HQ.out.1 hb)
          clear hb
          go_wp2_with fail
          go_ret
          exact ⟨rfl, H1.out⟩
end Go.Proofs.Ytokpcgfkfmjkkaa.FdW
