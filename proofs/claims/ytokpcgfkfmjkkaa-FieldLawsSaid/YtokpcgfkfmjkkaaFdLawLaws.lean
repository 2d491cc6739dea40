/- The law FieldLaws: its walk. -/
import Derived.Test.YtokpcgfkfmjkkaaFdWorks
namespace Go.Proofs.Ytokpcgfkfmjkkaa.FdW
open Go.RowKit Mem Gf
set_option linter.unusedVariables false

theorem square (a b : UInt8) : mul (a ^^^ b) (a ^^^ b) = mul a a ^^^ mul b b := by
  rw [mul_xor, xor_mul, xor_mul, mul_comm b a, UInt8.xor_assoc, ← UInt8.xor_assoc (mul a b), UInt8.xor_self, UInt8.zero_xor]

set_option maxRecDepth 100000 in
set_option maxHeartbeats 3200000 in
theorem laws_nn (w : World) (a b c : UInt8) (ha : a ≠ 0) (hb : b ≠ 0) : Calls Try.prog 5 #[.int .u8 (a.toNat : Int), .int .u8 (b.toNat : Int), .int .u8 (c.toNat : Int)] w fun e w' => e = .returned (.bool true) ∧ Below w.heap.size w w' := by
  have h1 : ((((mul a b).toNat : Nat) : Int) == 0) = false := by rw [u8_zero]; simpa using mul_ne ha hb
  have h2 : ((((a.toNat : Nat) : Int)) != 0) = true := by rw [bne, u8_zero_no ha]; rfl
  have h3 : ((((b.toNat : Nat) : Int)) != 0) = true := by rw [bne, u8_zero_no hb]; rfl
  have HA := Lib.hid ha
  have HB := Lib.hid hb
  clear ha hb
  have H0 := Lib.hid (St.start w)
  go_enter Try.func5, Try.ntmps5
  go_wp2_with fail
  refine (newS H0.out).mono ?_
  rintro e w1 ⟨rfl, h⟩
  have H1 := Lib.hid h
  clear h
  have M1 := Lib.hid (List.mem_cons_self (a := w.heap.size) (l := []))
  go_wp2_with fail
  refine (add_any _ _ a b rfl rfl _).mono ?_
  rintro e w' ⟨rfl, rfl⟩
  go_wp2_with fail
  refine (add_any _ _ b a rfl rfl _).mono ?_
  rintro e w' ⟨rfl, rfl⟩
  rw [UInt8.xor_comm b a]
  go_wp2_with fail
  refine (add_any _ _ a b rfl rfl _).mono ?_
  rintro e w' ⟨rfl, rfl⟩
  go_wp2_with fail
  refine (add_any _ _ (a ^^^ b) c rfl rfl _).mono ?_
  rintro e w' ⟨rfl, rfl⟩
  go_wp2_with fail
  refine (add_any _ _ b c rfl rfl _).mono ?_
  rintro e w' ⟨rfl, rfl⟩
  go_wp2_with fail
  refine (add_any _ _ a (b ^^^ c) rfl rfl _).mono ?_
  rintro e w' ⟨rfl, rfl⟩
  rw [← UInt8.xor_assoc]
  go_wp2_with fail
  refine (add_any _ _ a a rfl rfl _).mono ?_
  rintro e w' ⟨rfl, rfl⟩
  rw [show (((a ^^^ a).toNat : Nat) : Int) = 0 from by rw [UInt8.xor_self]; rfl]
  go_wp2_with fail
  refine (add_any _ _ a 0 rfl rfl _).mono ?_
  rintro e w' ⟨rfl, rfl⟩
  rw [UInt8.xor_zero]
  go_wp2_with fail
  refine (mulS H1.out (some _) (one_in (by simp)) _ _ a b rfl rfl).mono ?_
  rintro e w2 ⟨rfl, h⟩
  have H2 := Lib.hid h
  clear h
  go_wp2_with fail
  refine (mulS H2.out (some _) (one_in (by simp)) _ _ b a rfl rfl).mono ?_
  rintro e w3 ⟨rfl, h⟩
  have H3 := Lib.hid h
  clear h
  rw [mul_comm b a]
  go_wp2_with fail
  refine (mulS H3.out (some _) (one_in (by simp)) _ _ a b rfl rfl).mono ?_
  rintro e w4 ⟨rfl, h⟩
  have H4 := Lib.hid h
  clear h
  go_wp2_with fail
  refine (mulS H4.out (some _) (one_in (by simp)) _ _ (mul a b) c rfl rfl).mono ?_
  rintro e w5 ⟨rfl, h⟩
  have H5 := Lib.hid h
  clear h
  go_wp2_with fail
  refine (mulS H5.out (some _) (one_in (by simp)) _ _ b c rfl rfl).mono ?_
  rintro e w6 ⟨rfl, h⟩
  have H6 := Lib.hid h
  clear h
  go_wp2_with fail
  refine (mulS H6.out (some _) (one_in (by simp)) _ _ a (mul b c) rfl rfl).mono ?_
  rintro e w7 ⟨rfl, h⟩
  have H7 := Lib.hid h
  clear h
  rw [← mul_assoc]
  go_wp2_with fail
  refine (mulS H7.out (some _) (one_in (by simp)) _ _ a 1 rfl rfl).mono ?_
  rintro e w8 ⟨rfl, h⟩
  have H8 := Lib.hid h
  clear h
  rw [mul_one]
  go_wp2_with fail
  refine (mulS H8.out (some _) (one_in (by simp)) _ _ a 0 rfl rfl).mono ?_
  rintro e w9 ⟨rfl, h⟩
  have H9 := Lib.hid h
  clear h
  rw [show (((mul a 0).toNat : Nat) : Int) = 0 from by rw [mul_zero]; rfl]
  go_wp2_with fail
  refine (mulS H9.out (some _) (one_in (by simp)) _ _ a b rfl rfl).mono ?_
  rintro e w10 ⟨rfl, h⟩
  have H10 := Lib.hid h
  clear h
  go_wp2_with fail
  refine (add_any _ _ b c rfl rfl _).mono ?_
  rintro e w' ⟨rfl, rfl⟩
  go_wp2_with fail
  refine (mulS H10.out (some _) (one_in (by simp)) _ _ a (b ^^^ c) rfl rfl).mono ?_
  rintro e w11 ⟨rfl, h⟩
  have H11 := Lib.hid h
  clear h
  go_wp2_with fail
  refine (mulS H11.out (some _) (one_in (by simp)) _ _ a b rfl rfl).mono ?_
  rintro e w12 ⟨rfl, h⟩
  have H12 := Lib.hid h
  clear h
  go_wp2_with fail
  refine (mulS H12.out (some _) (one_in (by simp)) _ _ a c rfl rfl).mono ?_
  rintro e w13 ⟨rfl, h⟩
  have H13 := Lib.hid h
  clear h
  go_wp2_with fail
  refine (add_any _ _ (mul a b) (mul a c) rfl rfl _).mono ?_
  rintro e w' ⟨rfl, rfl⟩
  rw [← mul_xor]
  go_wp2_with fail
  refine (mulS H13.out (some _) (one_in (by simp)) _ _ a b rfl rfl).mono ?_
  rintro e w14 ⟨rfl, h⟩
  have H14 := Lib.hid h
  clear h
  go_wp2_with fail
  refine (divS H14.out (some _) (one_in (by simp)) _ _ (mul a b) b rfl rfl).mono ?_
  rintro e w15 ⟨rfl, h⟩
  have H15 := Lib.hid h
  clear h
  rw [mul_div HB.out, nz_ne HB.out]
  go_wp2_with fail
  refine (add_any _ _ a b rfl rfl _).mono ?_
  rintro e w' ⟨rfl, rfl⟩
  go_wp2_with fail
  refine (mulS H15.out (some _) (one_in (by simp)) _ _ (a ^^^ b) (a ^^^ b) rfl rfl).mono ?_
  rintro e w16 ⟨rfl, h⟩
  have H16 := Lib.hid h
  clear h
  go_wp2_with fail
  refine (mulS H16.out (some _) (one_in (by simp)) _ _ a a rfl rfl).mono ?_
  rintro e w17 ⟨rfl, h⟩
  have H17 := Lib.hid h
  clear h
  go_wp2_with fail
  refine (mulS H17.out (some _) (one_in (by simp)) _ _ b b rfl rfl).mono ?_
  rintro e w18 ⟨rfl, h⟩
  have H18 := Lib.hid h
  clear h
  go_wp2_with fail
  refine (add_any _ _ (mul a a) (mul b b) rfl rfl _).mono ?_
  rintro e w' ⟨rfl, rfl⟩
  rw [← square]
  go_wp2_with fail
  refine (works_any _).mono ?_
  rintro e w19 ⟨rfl, hb⟩
  have H19 := Lib.hid (H18.out.keep hb)
  clear hb
  go_wp2_with fail
  go_ret
  exact ⟨rfl, H19.out.2⟩
set_option maxRecDepth 100000 in
set_option maxHeartbeats 3200000 in
theorem laws_zn (w : World) (a b c : UInt8) (ha : a = 0) (hb : b ≠ 0) : Calls Try.prog 5 #[.int .u8 (a.toNat : Int), .int .u8 (b.toNat : Int), .int .u8 (c.toNat : Int)] w fun e w' => e = .returned (.bool true) ∧ Below w.heap.size w w' := by
  have h1 : ((((mul a b).toNat : Nat) : Int) == 0) = true := by rw [u8_zero]; subst ha; rw [zero_mul]; rfl
  have h2 : ((((a.toNat : Nat) : Int)) != 0) = false := by subst ha; rfl
  have h3 : ((((b.toNat : Nat) : Int)) != 0) = true := by rw [bne, u8_zero_no hb]; rfl
  have HA := Lib.hid ha
  have HB := Lib.hid hb
  clear ha hb
  have H0 := Lib.hid (St.start w)
  go_enter Try.func5, Try.ntmps5
  go_wp2_with fail
  refine (newS H0.out).mono ?_
  rintro e w1 ⟨rfl, h⟩
  have H1 := Lib.hid h
  clear h
  have M1 := Lib.hid (List.mem_cons_self (a := w.heap.size) (l := []))
  go_wp2_with fail
  refine (add_any _ _ a b rfl rfl _).mono ?_
  rintro e w' ⟨rfl, rfl⟩
  go_wp2_with fail
  refine (add_any _ _ b a rfl rfl _).mono ?_
  rintro e w' ⟨rfl, rfl⟩
  rw [UInt8.xor_comm b a]
  go_wp2_with fail
  refine (add_any _ _ a b rfl rfl _).mono ?_
  rintro e w' ⟨rfl, rfl⟩
  go_wp2_with fail
  refine (add_any _ _ (a ^^^ b) c rfl rfl _).mono ?_
  rintro e w' ⟨rfl, rfl⟩
  go_wp2_with fail
  refine (add_any _ _ b c rfl rfl _).mono ?_
  rintro e w' ⟨rfl, rfl⟩
  go_wp2_with fail
  refine (add_any _ _ a (b ^^^ c) rfl rfl _).mono ?_
  rintro e w' ⟨rfl, rfl⟩
  rw [← UInt8.xor_assoc]
  go_wp2_with fail
  refine (add_any _ _ a a rfl rfl _).mono ?_
  rintro e w' ⟨rfl, rfl⟩
  rw [show (((a ^^^ a).toNat : Nat) : Int) = 0 from by rw [UInt8.xor_self]; rfl]
  go_wp2_with fail
  refine (add_any _ _ a 0 rfl rfl _).mono ?_
  rintro e w' ⟨rfl, rfl⟩
  rw [UInt8.xor_zero]
  go_wp2_with fail
  refine (mulS H1.out (some _) (one_in (by simp)) _ _ a b rfl rfl).mono ?_
  rintro e w2 ⟨rfl, h⟩
  have H2 := Lib.hid h
  clear h
  go_wp2_with fail
  refine (mulS H2.out (some _) (one_in (by simp)) _ _ b a rfl rfl).mono ?_
  rintro e w3 ⟨rfl, h⟩
  have H3 := Lib.hid h
  clear h
  rw [mul_comm b a]
  go_wp2_with fail
  refine (mulS H3.out (some _) (one_in (by simp)) _ _ a b rfl rfl).mono ?_
  rintro e w4 ⟨rfl, h⟩
  have H4 := Lib.hid h
  clear h
  go_wp2_with fail
  refine (mulS H4.out (some _) (one_in (by simp)) _ _ (mul a b) c rfl rfl).mono ?_
  rintro e w5 ⟨rfl, h⟩
  have H5 := Lib.hid h
  clear h
  go_wp2_with fail
  refine (mulS H5.out (some _) (one_in (by simp)) _ _ b c rfl rfl).mono ?_
  rintro e w6 ⟨rfl, h⟩
  have H6 := Lib.hid h
  clear h
  go_wp2_with fail
  refine (mulS H6.out (some _) (one_in (by simp)) _ _ a (mul b c) rfl rfl).mono ?_
  rintro e w7 ⟨rfl, h⟩
  have H7 := Lib.hid h
  clear h
  rw [← mul_assoc]
  go_wp2_with fail
  refine (mulS H7.out (some _) (one_in (by simp)) _ _ a 1 rfl rfl).mono ?_
  rintro e w8 ⟨rfl, h⟩
  have H8 := Lib.hid h
  clear h
  rw [mul_one]
  go_wp2_with fail
  refine (mulS H8.out (some _) (one_in (by simp)) _ _ a 0 rfl rfl).mono ?_
  rintro e w9 ⟨rfl, h⟩
  have H9 := Lib.hid h
  clear h
  rw [show (((mul a 0).toNat : Nat) : Int) = 0 from by rw [mul_zero]; rfl]
  go_wp2_with fail
  refine (mulS H9.out (some _) (one_in (by simp)) _ _ a b rfl rfl).mono ?_
  rintro e w10 ⟨rfl, h⟩
  have H10 := Lib.hid h
  clear h
  go_wp2_with fail
  refine (add_any _ _ b c rfl rfl _).mono ?_
  rintro e w' ⟨rfl, rfl⟩
  go_wp2_with fail
  refine (mulS H10.out (some _) (one_in (by simp)) _ _ a (b ^^^ c) rfl rfl).mono ?_
  rintro e w11 ⟨rfl, h⟩
  have H11 := Lib.hid h
  clear h
  go_wp2_with fail
  refine (mulS H11.out (some _) (one_in (by simp)) _ _ a b rfl rfl).mono ?_
  rintro e w12 ⟨rfl, h⟩
  have H12 := Lib.hid h
  clear h
  go_wp2_with fail
  refine (mulS H12.out (some _) (one_in (by simp)) _ _ a c rfl rfl).mono ?_
  rintro e w13 ⟨rfl, h⟩
  have H13 := Lib.hid h
  clear h
  go_wp2_with fail
  refine (add_any _ _ (mul a b) (mul a c) rfl rfl _).mono ?_
  rintro e w' ⟨rfl, rfl⟩
  rw [← mul_xor]
  go_wp2_with fail
  refine (mulS H13.out (some _) (one_in (by simp)) _ _ a b rfl rfl).mono ?_
  rintro e w14 ⟨rfl, h⟩
  have H14 := Lib.hid h
  clear h
  go_wp2_with fail
  refine (divS H14.out (some _) (one_in (by simp)) _ _ (mul a b) b rfl rfl).mono ?_
  rintro e w15 ⟨rfl, h⟩
  have H15 := Lib.hid h
  clear h
  rw [mul_div HB.out, nz_ne HB.out]
  go_wp2_with fail
  refine (add_any _ _ a b rfl rfl _).mono ?_
  rintro e w' ⟨rfl, rfl⟩
  go_wp2_with fail
  refine (mulS H15.out (some _) (one_in (by simp)) _ _ (a ^^^ b) (a ^^^ b) rfl rfl).mono ?_
  rintro e w16 ⟨rfl, h⟩
  have H16 := Lib.hid h
  clear h
  go_wp2_with fail
  refine (mulS H16.out (some _) (one_in (by simp)) _ _ a a rfl rfl).mono ?_
  rintro e w17 ⟨rfl, h⟩
  have H17 := Lib.hid h
  clear h
  go_wp2_with fail
  refine (mulS H17.out (some _) (one_in (by simp)) _ _ b b rfl rfl).mono ?_
  rintro e w18 ⟨rfl, h⟩
  have H18 := Lib.hid h
  clear h
  go_wp2_with fail
  refine (add_any _ _ (mul a a) (mul b b) rfl rfl _).mono ?_
  rintro e w' ⟨rfl, rfl⟩
  rw [← square]
  go_wp2_with fail
  refine (works_any _).mono ?_
  rintro e w19 ⟨rfl, hb⟩
  have H19 := Lib.hid (H18.out.keep hb)
  clear hb
  go_wp2_with fail
  go_ret
  exact ⟨rfl, H19.out.2⟩
set_option maxRecDepth 100000 in
set_option maxHeartbeats 3200000 in
theorem laws_nz (w : World) (a b c : UInt8) (ha : a ≠ 0) (hb : b = 0) : Calls Try.prog 5 #[.int .u8 (a.toNat : Int), .int .u8 (b.toNat : Int), .int .u8 (c.toNat : Int)] w fun e w' => e = .returned (.bool true) ∧ Below w.heap.size w w' := by
  have h1 : ((((mul a b).toNat : Nat) : Int) == 0) = true := by rw [u8_zero]; subst hb; rw [mul_zero]; rfl
  have h2 : ((((a.toNat : Nat) : Int)) != 0) = true := by rw [bne, u8_zero_no ha]; rfl
  have h3 : ((((b.toNat : Nat) : Int)) != 0) = false := by subst hb; rfl
  have HA := Lib.hid ha
  have HB := Lib.hid hb
  clear ha hb
  have H0 := Lib.hid (St.start w)
  go_enter Try.func5, Try.ntmps5
  go_wp2_with fail
  refine (newS H0.out).mono ?_
  rintro e w1 ⟨rfl, h⟩
  have H1 := Lib.hid h
  clear h
  have M1 := Lib.hid (List.mem_cons_self (a := w.heap.size) (l := []))
  go_wp2_with fail
  refine (add_any _ _ a b rfl rfl _).mono ?_
  rintro e w' ⟨rfl, rfl⟩
  go_wp2_with fail
  refine (add_any _ _ b a rfl rfl _).mono ?_
  rintro e w' ⟨rfl, rfl⟩
  rw [UInt8.xor_comm b a]
  go_wp2_with fail
  refine (add_any _ _ a b rfl rfl _).mono ?_
  rintro e w' ⟨rfl, rfl⟩
  go_wp2_with fail
  refine (add_any _ _ (a ^^^ b) c rfl rfl _).mono ?_
  rintro e w' ⟨rfl, rfl⟩
  go_wp2_with fail
  refine (add_any _ _ b c rfl rfl _).mono ?_
  rintro e w' ⟨rfl, rfl⟩
  go_wp2_with fail
  refine (add_any _ _ a (b ^^^ c) rfl rfl _).mono ?_
  rintro e w' ⟨rfl, rfl⟩
  rw [← UInt8.xor_assoc]
  go_wp2_with fail
  refine (add_any _ _ a a rfl rfl _).mono ?_
  rintro e w' ⟨rfl, rfl⟩
  rw [show (((a ^^^ a).toNat : Nat) : Int) = 0 from by rw [UInt8.xor_self]; rfl]
  go_wp2_with fail
  refine (add_any _ _ a 0 rfl rfl _).mono ?_
  rintro e w' ⟨rfl, rfl⟩
  rw [UInt8.xor_zero]
  go_wp2_with fail
  refine (mulS H1.out (some _) (one_in (by simp)) _ _ a b rfl rfl).mono ?_
  rintro e w2 ⟨rfl, h⟩
  have H2 := Lib.hid h
  clear h
  go_wp2_with fail
  refine (mulS H2.out (some _) (one_in (by simp)) _ _ b a rfl rfl).mono ?_
  rintro e w3 ⟨rfl, h⟩
  have H3 := Lib.hid h
  clear h
  rw [mul_comm b a]
  go_wp2_with fail
  refine (mulS H3.out (some _) (one_in (by simp)) _ _ a b rfl rfl).mono ?_
  rintro e w4 ⟨rfl, h⟩
  have H4 := Lib.hid h
  clear h
  go_wp2_with fail
  refine (mulS H4.out (some _) (one_in (by simp)) _ _ (mul a b) c rfl rfl).mono ?_
  rintro e w5 ⟨rfl, h⟩
  have H5 := Lib.hid h
  clear h
  go_wp2_with fail
  refine (mulS H5.out (some _) (one_in (by simp)) _ _ b c rfl rfl).mono ?_
  rintro e w6 ⟨rfl, h⟩
  have H6 := Lib.hid h
  clear h
  go_wp2_with fail
  refine (mulS H6.out (some _) (one_in (by simp)) _ _ a (mul b c) rfl rfl).mono ?_
  rintro e w7 ⟨rfl, h⟩
  have H7 := Lib.hid h
  clear h
  rw [← mul_assoc]
  go_wp2_with fail
  refine (mulS H7.out (some _) (one_in (by simp)) _ _ a 1 rfl rfl).mono ?_
  rintro e w8 ⟨rfl, h⟩
  have H8 := Lib.hid h
  clear h
  rw [mul_one]
  go_wp2_with fail
  refine (mulS H8.out (some _) (one_in (by simp)) _ _ a 0 rfl rfl).mono ?_
  rintro e w9 ⟨rfl, h⟩
  have H9 := Lib.hid h
  clear h
  rw [show (((mul a 0).toNat : Nat) : Int) = 0 from by rw [mul_zero]; rfl]
  go_wp2_with fail
  refine (mulS H9.out (some _) (one_in (by simp)) _ _ a b rfl rfl).mono ?_
  rintro e w10 ⟨rfl, h⟩
  have H10 := Lib.hid h
  clear h
  go_wp2_with fail
  refine (add_any _ _ b c rfl rfl _).mono ?_
  rintro e w' ⟨rfl, rfl⟩
  go_wp2_with fail
  refine (mulS H10.out (some _) (one_in (by simp)) _ _ a (b ^^^ c) rfl rfl).mono ?_
  rintro e w11 ⟨rfl, h⟩
  have H11 := Lib.hid h
  clear h
  go_wp2_with fail
  refine (mulS H11.out (some _) (one_in (by simp)) _ _ a b rfl rfl).mono ?_
  rintro e w12 ⟨rfl, h⟩
  have H12 := Lib.hid h
  clear h
  go_wp2_with fail
  refine (mulS H12.out (some _) (one_in (by simp)) _ _ a c rfl rfl).mono ?_
  rintro e w13 ⟨rfl, h⟩
  have H13 := Lib.hid h
  clear h
  go_wp2_with fail
  refine (add_any _ _ (mul a b) (mul a c) rfl rfl _).mono ?_
  rintro e w' ⟨rfl, rfl⟩
  rw [← mul_xor]
  go_wp2_with fail
  refine (mulS H13.out (some _) (one_in (by simp)) _ _ a b rfl rfl).mono ?_
  rintro e w14 ⟨rfl, h⟩
  have H14 := Lib.hid h
  clear h
  go_wp2_with fail
  refine (divS H14.out (some _) (one_in (by simp)) _ _ (mul a b) b rfl rfl).mono ?_
  rintro e w15 ⟨rfl, h⟩
  have H15 := Lib.hid h
  clear h
  rw [show nz b = false from by rw [HB.out]; rfl]
  go_wp2_with fail
  refine (add_any _ _ a b rfl rfl _).mono ?_
  rintro e w' ⟨rfl, rfl⟩
  go_wp2_with fail
  refine (mulS H15.out (some _) (one_in (by simp)) _ _ (a ^^^ b) (a ^^^ b) rfl rfl).mono ?_
  rintro e w16 ⟨rfl, h⟩
  have H16 := Lib.hid h
  clear h
  go_wp2_with fail
  refine (mulS H16.out (some _) (one_in (by simp)) _ _ a a rfl rfl).mono ?_
  rintro e w17 ⟨rfl, h⟩
  have H17 := Lib.hid h
  clear h
  go_wp2_with fail
  refine (mulS H17.out (some _) (one_in (by simp)) _ _ b b rfl rfl).mono ?_
  rintro e w18 ⟨rfl, h⟩
  have H18 := Lib.hid h
  clear h
  go_wp2_with fail
  refine (add_any _ _ (mul a a) (mul b b) rfl rfl _).mono ?_
  rintro e w' ⟨rfl, rfl⟩
  rw [← square]
  go_wp2_with fail
  refine (works_any _).mono ?_
  rintro e w19 ⟨rfl, hb⟩
  have H19 := Lib.hid (H18.out.keep hb)
  clear hb
  go_wp2_with fail
  go_ret
  exact ⟨rfl, H19.out.2⟩
set_option maxRecDepth 100000 in
set_option maxHeartbeats 3200000 in
theorem laws_zz (w : World) (a b c : UInt8) (ha : a = 0) (hb : b = 0) : Calls Try.prog 5 #[.int .u8 (a.toNat : Int), .int .u8 (b.toNat : Int), .int .u8 (c.toNat : Int)] w fun e w' => e = .returned (.bool true) ∧ Below w.heap.size w w' := by
  have h1 : ((((mul a b).toNat : Nat) : Int) == 0) = true := by rw [u8_zero]; subst ha; rw [zero_mul]; rfl
  have h2 : ((((a.toNat : Nat) : Int)) != 0) = false := by subst ha; rfl
  have h3 : ((((b.toNat : Nat) : Int)) != 0) = false := by subst hb; rfl
  have HA := Lib.hid ha
  have HB := Lib.hid hb
  clear ha hb
  have H0 := Lib.hid (St.start w)
  go_enter Try.func5, Try.ntmps5
  go_wp2_with fail
  refine (newS H0.out).mono ?_
  rintro e w1 ⟨rfl, h⟩
  have H1 := Lib.hid h
  clear h
  have M1 := Lib.hid (List.mem_cons_self (a := w.heap.size) (l := []))
  go_wp2_with fail
  refine (add_any _ _ a b rfl rfl _).mono ?_
  rintro e w' ⟨rfl, rfl⟩
  go_wp2_with fail
  refine (add_any _ _ b a rfl rfl _).mono ?_
  rintro e w' ⟨rfl, rfl⟩
  rw [UInt8.xor_comm b a]
  go_wp2_with fail
  refine (add_any _ _ a b rfl rfl _).mono ?_
  rintro e w' ⟨rfl, rfl⟩
  go_wp2_with fail
  refine (add_any _ _ (a ^^^ b) c rfl rfl _).mono ?_
  rintro e w' ⟨rfl, rfl⟩
  go_wp2_with fail
  refine (add_any _ _ b c rfl rfl _).mono ?_
  rintro e w' ⟨rfl, rfl⟩
  go_wp2_with fail
  refine (add_any _ _ a (b ^^^ c) rfl rfl _).mono ?_
  rintro e w' ⟨rfl, rfl⟩
  rw [← UInt8.xor_assoc]
  go_wp2_with fail
  refine (add_any _ _ a a rfl rfl _).mono ?_
  rintro e w' ⟨rfl, rfl⟩
  rw [show (((a ^^^ a).toNat : Nat) : Int) = 0 from by rw [UInt8.xor_self]; rfl]
  go_wp2_with fail
  refine (add_any _ _ a 0 rfl rfl _).mono ?_
  rintro e w' ⟨rfl, rfl⟩
  rw [UInt8.xor_zero]
  go_wp2_with fail
  refine (mulS H1.out (some _) (one_in (by simp)) _ _ a b rfl rfl).mono ?_
  rintro e w2 ⟨rfl, h⟩
  have H2 := Lib.hid h
  clear h
  go_wp2_with fail
  refine (mulS H2.out (some _) (one_in (by simp)) _ _ b a rfl rfl).mono ?_
  rintro e w3 ⟨rfl, h⟩
  have H3 := Lib.hid h
  clear h
  rw [mul_comm b a]
  go_wp2_with fail
  refine (mulS H3.out (some _) (one_in (by simp)) _ _ a b rfl rfl).mono ?_
  rintro e w4 ⟨rfl, h⟩
  have H4 := Lib.hid h
  clear h
  go_wp2_with fail
  refine (mulS H4.out (some _) (one_in (by simp)) _ _ (mul a b) c rfl rfl).mono ?_
  rintro e w5 ⟨rfl, h⟩
  have H5 := Lib.hid h
  clear h
  go_wp2_with fail
  refine (mulS H5.out (some _) (one_in (by simp)) _ _ b c rfl rfl).mono ?_
  rintro e w6 ⟨rfl, h⟩
  have H6 := Lib.hid h
  clear h
  go_wp2_with fail
  refine (mulS H6.out (some _) (one_in (by simp)) _ _ a (mul b c) rfl rfl).mono ?_
  rintro e w7 ⟨rfl, h⟩
  have H7 := Lib.hid h
  clear h
  rw [← mul_assoc]
  go_wp2_with fail
  refine (mulS H7.out (some _) (one_in (by simp)) _ _ a 1 rfl rfl).mono ?_
  rintro e w8 ⟨rfl, h⟩
  have H8 := Lib.hid h
  clear h
  rw [mul_one]
  go_wp2_with fail
  refine (mulS H8.out (some _) (one_in (by simp)) _ _ a 0 rfl rfl).mono ?_
  rintro e w9 ⟨rfl, h⟩
  have H9 := Lib.hid h
  clear h
  rw [show (((mul a 0).toNat : Nat) : Int) = 0 from by rw [mul_zero]; rfl]
  go_wp2_with fail
  refine (mulS H9.out (some _) (one_in (by simp)) _ _ a b rfl rfl).mono ?_
  rintro e w10 ⟨rfl, h⟩
  have H10 := Lib.hid h
  clear h
  go_wp2_with fail
  refine (add_any _ _ b c rfl rfl _).mono ?_
  rintro e w' ⟨rfl, rfl⟩
  go_wp2_with fail
  refine (mulS H10.out (some _) (one_in (by simp)) _ _ a (b ^^^ c) rfl rfl).mono ?_
  rintro e w11 ⟨rfl, h⟩
  have H11 := Lib.hid h
  clear h
  go_wp2_with fail
  refine (mulS H11.out (some _) (one_in (by simp)) _ _ a b rfl rfl).mono ?_
  rintro e w12 ⟨rfl, h⟩
  have H12 := Lib.hid h
  clear h
  go_wp2_with fail
  refine (mulS H12.out (some _) (one_in (by simp)) _ _ a c rfl rfl).mono ?_
  rintro e w13 ⟨rfl, h⟩
  have H13 := Lib.hid h
  clear h
  go_wp2_with fail
  refine (add_any _ _ (mul a b) (mul a c) rfl rfl _).mono ?_
  rintro e w' ⟨rfl, rfl⟩
  rw [← mul_xor]
  go_wp2_with fail
  refine (mulS H13.out (some _) (one_in (by simp)) _ _ a b rfl rfl).mono ?_
  rintro e w14 ⟨rfl, h⟩
  have H14 := Lib.hid h
  clear h
  go_wp2_with fail
  refine (divS H14.out (some _) (one_in (by simp)) _ _ (mul a b) b rfl rfl).mono ?_
  rintro e w15 ⟨rfl, h⟩
  have H15 := Lib.hid h
  clear h
  rw [show nz b = false from by rw [HB.out]; rfl]
  go_wp2_with fail
  refine (add_any _ _ a b rfl rfl _).mono ?_
  rintro e w' ⟨rfl, rfl⟩
  go_wp2_with fail
  refine (mulS H15.out (some _) (one_in (by simp)) _ _ (a ^^^ b) (a ^^^ b) rfl rfl).mono ?_
  rintro e w16 ⟨rfl, h⟩
  have H16 := Lib.hid h
  clear h
  go_wp2_with fail
  refine (mulS H16.out (some _) (one_in (by simp)) _ _ a a rfl rfl).mono ?_
  rintro e w17 ⟨rfl, h⟩
  have H17 := Lib.hid h
  clear h
  go_wp2_with fail
  refine (mulS H17.out (some _) (one_in (by simp)) _ _ b b rfl rfl).mono ?_
  rintro e w18 ⟨rfl, h⟩
  have H18 := Lib.hid h
  clear h
  go_wp2_with fail
  refine (add_any _ _ (mul a a) (mul b b) rfl rfl _).mono ?_
  rintro e w' ⟨rfl, rfl⟩
  rw [← square]
  go_wp2_with fail
  refine (works_any _).mono ?_
  rintro e w19 ⟨rfl, hb⟩
  have H19 := Lib.hid (H18.out.keep hb)
  clear hb
  go_wp2_with fail
  go_ret
  exact ⟨rfl, H19.out.2⟩
theorem laws_any (w : World) (a b c : UInt8) : Calls Try.prog 5 #[.int .u8 (a.toNat : Int), .int .u8 (b.toNat : Int), .int .u8 (c.toNat : Int)] w fun e w' => e = .returned (.bool true) ∧ Below w.heap.size w w' := by
  by_cases ha : a = 0 <;> by_cases hb : b = 0
  · exact laws_zz w a b c ha hb
  · exact laws_zn w a b c ha hb
  · exact laws_nz w a b c ha hb
  · exact laws_nn w a b c ha hb
end Go.Proofs.Ytokpcgfkfmjkkaa.FdW
