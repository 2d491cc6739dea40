/- What a field's calls tell: powers, orders. -/
import Derived.Test.YthdapoipfnnaeaaFdOps
namespace Go.Proofs.Ythdapoipfnnaeaa.FdW
open Go.RowKit Mem Gf
set_option linter.unusedVariables false

theorem FldR.keep {w w' : World} {r : Option Nat} (h : FldR w r) (hb : Below w.heap.size w w') : FldR w' r := fun p hp => (h p hp).keep hb
theorem FldR.fr {w w' : World} {r : Option Nat} {S : Nat → Prop} (h : FldR w r) (hf : Fr S w w') (hS : ∀ p, r = some p → ¬ S p) : FldR w' r := fun p hp => (h p hp).fr hf (hS p hp)
theorem FldR.some {w : World} {p : Nat} (h : Fld w p) : FldR w (some p) := fun q hq => by injection hq with hq; rw [← hq]; exact h
theorem FldR.none {w : World} : FldR w none := fun _ h => by cases h

theorem rest_q (n : Int) (w : World) : Calls Try.prog 59 #[.int .i64 n] w fun e w' => e = .returned (.int .i64 (n % 255)) ∧ w' = w :=
  (rest_any n w).mono fun e w' h => ⟨h.1, h.2.symm⟩
set_option maxHeartbeats 800000 in
theorem pow_any (w : World) (r : Option Nat) (h : FldR w r) (x : Int) (a : UInt8) (hx : x = (a.toNat : Int)) (n : Int) :
    Calls Try.prog 45 #[fptr r, .int .u8 x, .int .i64 n] w (Ans r w (.int .u8 ((pow a n).toNat : Int))) := by
  subst hx
  have HH := Lib.hid h
  clear h
  by_cases hn : n = 0
  · subst hn
    have HM := Lib.hid (pow_zero a)
    go_enter Try.func45, Try.ntmps45
    go_wp2_with fail
    go_ret
    exact ⟨by rw [HM.out]; rfl, HH.out, Fr.refl _ _⟩
  · have hz : (n == 0) = false := by simpa using hn
    by_cases ha : a = 0
    · subst ha
      have HM := Lib.hid (zero_pow hn)
      have hz0 : (((0 : UInt8).toNat : Int) == 0) = true := rfl
      clear hn
      go_enter Try.func45, Try.ntmps45
      go_wp2_with fail
      go_ret
      exact ⟨by rw [HM.out]; rfl, HH.out, Fr.refl _ _⟩
    · have hz1 := u8_zero_no ha
      obtain ⟨m, hm⟩ : ∃ m : Nat, n % 255 = (m : Int) := ⟨(n % 255).toNat, by omega⟩
      have hm5 : m < 255 := by omega
      have hpw : pow a n = pw (lg a * m % 255) := by rw [pow_pw ha, pw_mod, show (n % 255).toNat = m by omega]
      have HM := Lib.hid hpw
      have HL := Lib.hid (lg_cell ha)
      have hi := lg_lt a
      have ha5 : a.toNat < 256 := a.toNat_lt
      clear hpw hn
      generalize pow a n = c at *
      generalize lg a = i at *
      generalize a.toNat = x at *
      have hk : (i : Int) * (m : Int) = ((i * m : Nat) : Int) := by simp
      have hk2 : i * m ≤ 254 * 254 := Nat.mul_le_mul (by omega) (by omega)
      have hj : ((i * m : Nat) : Int) % 255 = ((i * m % 255 : Nat) : Int) := by omega
      have hj5 : i * m % 255 < 255 := Nat.mod_lt _ (by decide)
      generalize i * m % 255 = j at *
      generalize i * m = k at *
      have hk0 : (0 : Int) ≤ (k : Int) := by omega
      have hk9 : (k : Int) ≤ 64516 := by omega
      go_enter Try.func45, Try.ntmps45
      go_wp2_with fail
      refine (made_any w r HH.out).mono ?_
      rintro e w1 ⟨q, rfl, hF, hfr, hq⟩
      have h1 := hF.cell (j := 513 + x) (by omega)
      have h3 := hF.cell (j := 3 + j) (by omega)
      rw [HL.out] at h1
      rw [ex_cell (by omega)] at h3
      have HF := Lib.hid (And.intro (MadeOk.fld hF hq) hfr)
      clear hF hfr hq
      have hx5 : (x : Int) < 256 := by omega
      have hji : (j : Int) < 510 := by omega
      clear hk2
      go_wp2_with fail
      go_quiet ((go_at_call 59; exact Calls.quiet_of_same (rest_q _ _)))
      go_wp2_with fail
      go_ret
      exact ⟨by rw [HM.out]; rfl, HF.out.1.drewN, HF.out.2.drewN _⟩

end Go.Proofs.Ythdapoipfnnaeaa.FdW
