/- What a field's calls tell: sums, products, quotients, powers, logarithms, orders. -/
import Derived.Test.YthdapoipfnnaeaaFdMade
import Derived.IntWalk
namespace Go.Proofs.Ythdapoipfnnaeaa.FdW
open Go.RowKit Mem Gf
set_option linter.unusedVariables false

theorem ex_cell {j : Nat} (hj : j < 510) : fcell 1 0 255 (3 + j) = .int .u8 ((pw j).toNat : Nat) := by
  unfold fcell exT
  rw [if_neg (by omega), if_pos (by omega), Nat.add_sub_cancel_left, if_pos (Nat.mod_lt _ (by decide))]
theorem lg_cell {a : UInt8} (ha : a ≠ 0) : fcell 1 0 255 (513 + a.toNat) = .int .i64 (lg a : Nat) := by
  have h : a.toNat ≠ 0 := fun e => ha (UInt8.toNat_inj.1 (by rw [e]; rfl))
  unfold fcell lgT
  rw [if_neg (by omega), if_neg (by omega), Nat.add_sub_cancel_left, if_pos ⟨h, lg_lt a⟩]; rfl
theorem u8_zero (a : UInt8) : ((a.toNat : Int) == 0) = (a == 0) := by
  rw [Bool.eq_iff_iff, beq_iff_eq, beq_iff_eq]
  exact ⟨fun h => UInt8.toNat_inj.1 (by simpa using h), fun h => by rw [h]; rfl⟩
theorem u8_eq (a b : UInt8) : ((a.toNat : Int) == (b.toNat : Int)) = (a == b) := by
  rw [Bool.eq_iff_iff, beq_iff_eq, beq_iff_eq]
  exact ⟨fun h => UInt8.toNat_inj.1 (by omega), fun h => by rw [h]⟩
theorem u8_zero_no {a : UInt8} (h : a ≠ 0) : ((a.toNat : Int) == 0) = false := by rw [u8_zero]; simpa using h

/-- What a field's call leaves: an answer; the field is one still. -/
def Ans (r : Option Nat) (w : World) (v : Value) (e : Ending) (w' : World) : Prop := e = .returned v ∧ FldR w' r ∧ Fr (fun k => r = some k) w w'

theorem FldR.drewN {w : World} {r : Option Nat} {n : Nat} (h : FldR w r) : FldR (w.drewN n) r := fun p hp => (h p hp).keep (nextN (Mem.start w) n)
theorem add_any (x y : Int) (a b : UInt8) (hx : x = (a.toNat : Int)) (hy : y = (b.toNat : Int)) (w : World) :
    Calls Try.prog 63 #[.int .u8 x, .int .u8 y] w fun e w' => e = .returned (.int .u8 ((a ^^^ b).toNat : Int)) ∧ w = w' := by
  subst hx; subst hy
  have hn : bits .xor .u8 (a.toNat : Int) (b.toNat : Int) = ((a ^^^ b).toNat : Int) := by rw [u8_xor_nat _ _ a.toNat_lt b.toNat_lt, UInt8.toNat_xor]
  have HN := Lib.hid hn
  clear hn
  go_enter Try.func63, Try.ntmps63
  go_wp2_with fail
  go_ret
  exact ⟨by rw [HN.out]; rfl, rfl⟩

theorem tmod255 (n : Int) : n.tmod 255 = if n % 255 = 0 ∨ 0 ≤ n then n % 255 else n % 255 - 255 := by
  rw [Int.tmod_eq_emod]
  split <;> split <;> omega
theorem rest_any (n : Int) (w : World) :
    Calls Try.prog 59 #[.int .i64 n] w fun e w' => e = .returned (.int .i64 (n % 255)) ∧ w = w' := by
  have ht := Lib.hid (tmod255 n)
  go_enter Try.func59, Try.ntmps59
  go_wp2_with fail
  · have h0 : n.tmod 255 < 0 := by assumption
    go_ret
    refine ⟨?_, rfl⟩
    have h1 : n.tmod 255 + 255 = n % 255 := by
      have := ht.out
      rw [this] at h0 ⊢
      split at h0
      · omega
      · rename_i h2; rw [if_neg h2]; omega
    rw [IntWalk.wrap64_in _ (by omega), h1]; rfl
  · have h0 : 0 ≤ n.tmod 255 := by assumption
    go_ret
    refine ⟨?_, rfl⟩
    have h1 : n.tmod 255 = n % 255 := by
      have := ht.out
      rw [this] at h0 ⊢
      split at h0
      · rename_i h2; rw [if_pos h2]
      · omega
    rw [h1]; rfl

set_option maxHeartbeats 800000 in
theorem mul_any (w : World) (r : Option Nat) (h : FldR w r) (x y : Int) (a b : UInt8) (hx : x = (a.toNat : Int)) (hy : y = (b.toNat : Int)) :
    Calls Try.prog 61 #[fptr r, .int .u8 x, .int .u8 y] w (Ans r w (.int .u8 ((mul a b).toNat : Int))) := by
  subst hx; subst hy
  by_cases ha : a = 0
  · subst ha
    have HM := Lib.hid (zero_mul b)
    have hz : (((0 : UInt8).toNat : Int) == 0) = true := rfl
    have HH := Lib.hid h
    clear h
    go_enter Try.func61, Try.ntmps61
    go_wp2_with fail
    go_ret
    exact ⟨by rw [HM.out]; rfl, HH.out, Fr.refl _ _⟩
  · by_cases hb : b = 0
    · subst hb
      have HM := Lib.hid (mul_zero a)
      have hz : (((0 : UInt8).toNat : Int) == 0) = true := rfl
      have hz2 := u8_zero_no ha
      have HH := Lib.hid h
      clear h
      go_enter Try.func61, Try.ntmps61
      go_wp2_with fail
      go_ret
      exact ⟨by rw [HM.out]; rfl, HH.out, Fr.refl _ _⟩
    · have hz1 := u8_zero_no ha
      have hz2 := u8_zero_no hb
      have HM := Lib.hid (mul_pw ha hb)
      have HH := Lib.hid h
      have HL := Lib.hid (And.intro (lg_cell ha) (lg_cell hb))
      have hi := lg_lt a
      have hj := lg_lt b
      have ha5 : a.toNat < 256 := a.toNat_lt
      have hb5 : b.toNat < 256 := b.toNat_lt
      clear h
      generalize mul a b = c at *
      generalize lg a = i at *
      generalize lg b = j at *
      generalize a.toNat = x at *
      generalize b.toNat = y at *
      go_enter Try.func61, Try.ntmps61
      go_wp2_with fail
      refine (made_any w r HH.out).mono ?_
      rintro e w1 ⟨q, rfl, hF, hfr, hq⟩
      have h1 := hF.cell (j := 513 + x) (by omega)
      have h2 := hF.cell (j := 513 + y) (by omega)
      have h3 := hF.cell (j := 3 + (i + j)) (by omega)
      rw [HL.out.1] at h1
      rw [HL.out.2] at h2
      rw [ex_cell (by omega)] at h3
      have HF := Lib.hid (And.intro (MadeOk.fld hF hq) hfr)
      have HQ := Lib.hid hq
      clear hF hfr hq
      have hx5 : (x : Int) < 256 := by omega
      have hy5 : (y : Int) < 256 := by omega
      have hij : (i : Int) + (j : Int) < 510 := by omega
      go_wp2_with fail
      go_quiet (fail)
      go_wp2_with fail
      go_ret
      exact ⟨by rw [HM.out]; rfl, HF.out.1.drewN, HF.out.2.drewN _⟩

/-- Is a byte not 0? -/
def nz (b : UInt8) : Bool := b != 0
theorem nz_zero : nz 0 = false := rfl
theorem nz_ne {b : UInt8} (h : b ≠ 0) : nz b = true := by simpa [nz] using h
set_option maxHeartbeats 800000 in
theorem div_any (w : World) (r : Option Nat) (h : FldR w r) (x y : Int) (a b : UInt8) (hx : x = (a.toNat : Int)) (hy : y = (b.toNat : Int)) :
    Calls Try.prog 69 #[fptr r, .int .u8 x, .int .u8 y] w (Ans r w (.tuple #[.int .u8 ((div a b).toNat : Int), .bool (nz b)])) := by
  subst hx; subst hy
  have HH := Lib.hid h
  clear h
  by_cases hb : b = 0
  · subst hb
    have HM := Lib.hid (div_zero a)
    have hz : (((0 : UInt8).toNat : Int) == 0) = true := rfl
    go_enter Try.func69, Try.ntmps69
    go_wp2_with fail
    refine (made_any w r HH.out).mono ?_
    rintro e w1 ⟨q, rfl, hF, hfr, hq⟩
    have HF := Lib.hid (And.intro (MadeOk.fld hF hq) hfr)
    clear hF hfr hq
    go_wp2_with fail
    go_ret2
    exact ⟨by rw [HM.out]; rfl, HF.out⟩
  · by_cases ha : a = 0
    · subst ha
      have HM := Lib.hid (And.intro (zero_div b) (nz_ne hb))
      have hz : (((0 : UInt8).toNat : Int) == 0) = true := rfl
      have hz2 := u8_zero_no hb
      go_enter Try.func69, Try.ntmps69
      go_wp2_with fail
      refine (made_any w r HH.out).mono ?_
      rintro e w1 ⟨q, rfl, hF, hfr, hq⟩
      have HF := Lib.hid (And.intro (MadeOk.fld hF hq) hfr)
      clear hF hfr hq
      go_wp2_with fail
      go_ret2
      exact ⟨by rw [HM.out.1, HM.out.2]; rfl, HF.out⟩
    · have hz1 := u8_zero_no ha
      have hz2 := u8_zero_no hb
      have HM := Lib.hid (And.intro (div_pw ha hb) (nz_ne hb))
      have HL := Lib.hid (And.intro (lg_cell ha) (lg_cell hb))
      have hi := lg_lt a
      have hj := lg_lt b
      have ha5 : a.toNat < 256 := a.toNat_lt
      have hb5 : b.toNat < 256 := b.toNat_lt
      generalize div a b = c at *
      generalize nz b = n at *
      generalize lg a = i at *
      generalize lg b = j at *
      generalize a.toNat = x at *
      generalize b.toNat = y at *
      go_enter Try.func69, Try.ntmps69
      go_wp2_with fail
      refine (made_any w r HH.out).mono ?_
      rintro e w1 ⟨q, rfl, hF, hfr, hq⟩
      have h1 := hF.cell (j := 513 + x) (by omega)
      have h2 := hF.cell (j := 513 + y) (by omega)
      have h3 := hF.cell (j := 3 + (i + 255 - j)) (by omega)
      rw [HL.out.1] at h1
      rw [HL.out.2] at h2
      rw [ex_cell (by omega)] at h3
      have HF := Lib.hid (And.intro (MadeOk.fld hF hq) hfr)
      clear hF hfr hq
      have hx5 : (x : Int) < 256 := by omega
      have hy5 : (y : Int) < 256 := by omega
      have hsum : (i : Int) + 255 - (j : Int) = ((i + 255 - j : Nat) : Int) := by omega
      have hk1 : i + 255 - j < 510 := by omega
      have hi5 : (i : Int) < 255 := by omega
      have hj5 : (j : Int) < 255 := by omega
      generalize i + 255 - j = k at *
      have hk5 : (k : Int) < 510 := by omega
      go_wp2_with fail
      go_quiet (fail)
      go_wp2_with fail
      go_ret2
      exact ⟨by rw [HM.out.1, HM.out.2]; rfl, HF.out.1.drewN, HF.out.2.drewN _⟩
set_option maxHeartbeats 800000 in
theorem inv_any (w : World) (r : Option Nat) (h : FldR w r) (x : Int) (a : UInt8) (hx : x = (a.toNat : Int)) :
    Calls Try.prog 60 #[fptr r, .int .u8 x] w (Ans r w (.tuple #[.int .u8 ((inv a).toNat : Int), .bool (nz a)])) := by
  subst hx
  have HH := Lib.hid h
  clear h
  have HM := Lib.hid (one_div a)
  go_enter Try.func60, Try.ntmps60
  go_wp2_with fail
  refine (div_any w r HH.out 1 _ 1 a rfl rfl).mono ?_
  rintro e w1 ⟨rfl, hF, hfr⟩
  rw [HM.out]
  have HF := Lib.hid (And.intro hF hfr)
  clear hF hfr
  generalize inv a = c at *
  generalize nz a = n at *
  go_wp2_with fail
  go_ret2
  exact ⟨rfl, HF.out⟩
end Go.Proofs.Ythdapoipfnnaeaa.FdW
