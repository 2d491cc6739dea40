/- The law FieldLogs: its walk. -/
import Derived.Test.YtokpcgfkfmjkkaaFdWorks
namespace Go.Proofs.Ytokpcgfkfmjkkaa.FdW
open Go.RowKit Mem Gf
set_option linter.unusedVariables false

theorem exp_log {a : UInt8} (ha : a ≠ 0) : pow 2 ((lg a : Nat) : Int) = a := by
  have h := lg_lt a
  rw [pow_two, show (((lg a : Nat) : Int) % 255).toNat = lg a by omega, pw_lg a ha]
theorem pow_255 {a : UInt8} (ha : a ≠ 0) : pow a 255 = 1 := by rw [pow_pw ha]; rfl
theorem pow_one_iff {a : UInt8} (ha : a ≠ 0) (o : Nat) : pow a (o : Nat) = 1 ↔ lg a * o % 255 = 0 := by
  rw [pow_pw ha, pw_one, show (((o : Nat) : Int) % 255).toNat = o % 255 by omega, Nat.mul_mod, Nat.mod_mod, ← Nat.mul_mod]
theorem pow_ord {a : UInt8} (ha : a ≠ 0) : pow a (ord a : Nat) = 1 := (pow_one_iff ha _).2 ((rp_one ha _).1 (ord_facts ha).2.2.2.1)
theorem pow_ne {a : UInt8} (ha : a ≠ 0) (n : Int) : pow a n ≠ 0 := by rw [pow_pw ha]; exact pw_ne _
theorem ord_mod {a : UInt8} (ha : a ≠ 0) : (255 : Int) % ((ord a : Nat) : Int) = 0 := by
  have h2 : ((255 % ord a : Nat) : Int) = 0 := by rw [(ord_facts ha).2.2.1]; rfl
  rw [← h2]; rfl
theorem pow_pow_ord {a : UInt8} (ha : a ≠ 0) (n : Int) : pow (pow a n) (ord a : Nat) = 1 := by
  refine (pow_one_iff (pow_ne ha n) _).2 ?_
  have h := (rp_one ha _).1 (ord_facts ha).2.2.2.1
  rw [pow_pw ha, lg_pw_mod, Nat.mul_mod, Nat.mod_mod, ← Nat.mul_mod, Nat.mul_right_comm, Nat.mul_mod, h, Nat.zero_mul, Nat.zero_mod]

set_option maxRecDepth 100000 in
set_option maxHeartbeats 3200000 in
theorem logs_nn (w : World) (a b : UInt8) (i k : Int) (hi1 : -32768 ≤ i) (hi2 : i ≤ 32767) (hk1 : -32768 ≤ k) (hk2 : k ≤ 32767) (ha : a ≠ 0) (hb : b ≠ 0) : Calls Try.prog 6 #[.int .u8 (a.toNat : Int), .int .u8 (b.toNat : Int), .int .i16 i, .int .i16 k] w fun e w' => e = .returned (.bool true) ∧ Below w.heap.size w w' := by
  have h2 : ((((a.toNat : Nat) : Int)) != 0) = true := by rw [bne, u8_zero_no ha]; rfl
  have h4 := u8_zero_no ha
  have hi := lg_lt a
  have hj := lg_lt b
  have HA := Lib.hid ha
  have HB := Lib.hid hb
  clear ha hb
  have H0 := Lib.hid (St.start w)
  go_enter Try.func6, Try.ntmps6
  go_wp2_with fail
  refine (newS H0.out).mono ?_
  rintro e w1 ⟨rfl, h⟩
  have H1 := Lib.hid h
  clear h
  have M1 := Lib.hid (List.mem_cons_self (a := w.heap.size) (l := []))
  go_wp2_with fail
  refine (logS H1.out (some _) (one_in (by simp)) _ a rfl).mono ?_
  rintro e w2 ⟨rfl, h⟩
  have H2 := Lib.hid h
  clear h
  rw [nz_ne HA.out]
  go_wp2_with fail
  refine (logS H2.out (some _) (one_in (by simp)) _ b rfl).mono ?_
  rintro e w3 ⟨rfl, h⟩
  have H3 := Lib.hid h
  clear h
  rw [nz_ne HB.out]
  go_wp2_with fail
  refine (mulS H3.out (some _) (one_in (by simp)) _ _ a b rfl rfl).mono ?_
  rintro e w4 ⟨rfl, h⟩
  have H4 := Lib.hid h
  clear h
  go_wp2_with fail
  refine (logS H4.out (some _) (one_in (by simp)) _ (mul a b) rfl).mono ?_
  rintro e w5 ⟨rfl, h⟩
  have H5 := Lib.hid h
  clear h
  rw [nz_ne (mul_ne HA.out HB.out), show ((lg (mul a b) : Nat) : Int) = ((lg a : Nat) + (lg b : Nat) : Int) % 255 from by rw [lg_mul HA.out HB.out]; omega]
  go_wp2_with fail
  refine (expS H5.out (some _) (one_in (by simp)) _).mono ?_
  rintro e w6 ⟨rfl, h⟩
  have H6 := Lib.hid h
  clear h
  rw [exp_log HA.out]
  go_wp2_with fail
  refine (expS H6.out (some _) (one_in (by simp)) _).mono ?_
  rintro e w7 ⟨rfl, h⟩
  have H7 := Lib.hid h
  clear h
  go_wp2_with fail
  refine (expS H7.out (some _) (one_in (by simp)) _).mono ?_
  rintro e w8 ⟨rfl, h⟩
  have H8 := Lib.hid h
  clear h
  go_wp2_with fail
  refine (expS H8.out (some _) (one_in (by simp)) _).mono ?_
  rintro e w9 ⟨rfl, h⟩
  have H9 := Lib.hid h
  clear h
  go_wp2_with fail
  refine (mulS H9.out (some _) (one_in (by simp)) _ _ _ _ rfl rfl).mono ?_
  rintro e w10 ⟨rfl, h⟩
  have H10 := Lib.hid h
  clear h
  rw [← pow_add (show (2 : UInt8) ≠ 0 by decide)]
  go_wp2_with fail
  refine (powS H10.out (some _) (one_in (by simp)) _ a rfl _).mono ?_
  rintro e w11 ⟨rfl, h⟩
  have H11 := Lib.hid h
  clear h
  go_wp2_with fail
  refine (powS H11.out (some _) (one_in (by simp)) _ a rfl _).mono ?_
  rintro e w12 ⟨rfl, h⟩
  have H12 := Lib.hid h
  clear h
  go_wp2_with fail
  refine (powS H12.out (some _) (one_in (by simp)) _ a rfl _).mono ?_
  rintro e w13 ⟨rfl, h⟩
  have H13 := Lib.hid h
  clear h
  go_wp2_with fail
  refine (mulS H13.out (some _) (one_in (by simp)) _ _ _ _ rfl rfl).mono ?_
  rintro e w14 ⟨rfl, h⟩
  have H14 := Lib.hid h
  clear h
  rw [← pow_add HA.out]
  go_wp2_with fail
  refine (orderS H14.out (some _) (one_in (by simp)) _ a rfl).mono ?_
  rintro e w15 ⟨rfl, h⟩
  have H15 := Lib.hid h
  clear h
  have HO := Lib.hid (ord_facts HA.out)
  have ho1 := HO.out.1
  have ho2 : ((ord a : Nat) : Int) ≤ 255 := by have := HO.out.2.1; omega
  have ho3 := ord_mod HA.out
  have ho4 : (0 : Int) < ((ord a : Nat) : Int) := by omega
  have ho4 : (0 : Int) < ((ord a : Nat) : Int) := by omega
  have HP := Lib.hid (And.intro (pow_255 HA.out) (And.intro (pow_ord HA.out) (pow_pow_ord HA.out i)))
  generalize hor : ord a = o at *
  have HOR := Lib.hid hor
  clear hor
  go_wp2_with fail
  refine (powS H15.out (some _) (one_in (by simp)) _ a rfl _).mono ?_
  rintro e w16 ⟨rfl, h⟩
  have H16 := Lib.hid h
  clear h
  rw [show (((pow a 255).toNat : Nat) : Int) = 1 from by rw [HP.out.1]; rfl]
  go_wp2_with fail
  refine (powS H16.out (some _) (one_in (by simp)) _ a rfl _).mono ?_
  rintro e w17 ⟨rfl, h⟩
  have H17 := Lib.hid h
  clear h
  rw [show (((pow a (o : Nat)).toNat : Nat) : Int) = 1 from by rw [HP.out.2.1]; rfl]
  go_wp2_with fail
  refine (powS H17.out (some _) (one_in (by simp)) _ a rfl _).mono ?_
  rintro e w18 ⟨rfl, h⟩
  have H18 := Lib.hid h
  clear h
  go_wp2_with fail
  refine (powS H18.out (some _) (one_in (by simp)) _ (pow a i) rfl _).mono ?_
  rintro e w19 ⟨rfl, h⟩
  have H19 := Lib.hid h
  clear h
  rw [show (((pow (pow a i) (o : Nat)).toNat : Nat) : Int) = 1 from by rw [HP.out.2.2]; rfl]
  go_wp2_with fail
  refine (works_any _).mono ?_
  rintro e w20 ⟨rfl, hb⟩
  have H20 := Lib.hid (H19.out.keep hb)
  clear hb
  go_wp2_with fail
  go_ret
  exact ⟨rfl, H20.out.2⟩
set_option maxRecDepth 100000 in
set_option maxHeartbeats 3200000 in
theorem logs_zn (w : World) (a b : UInt8) (i k : Int) (hi1 : -32768 ≤ i) (hi2 : i ≤ 32767) (hk1 : -32768 ≤ k) (hk2 : k ≤ 32767) (ha : a = 0) (hb : b ≠ 0) : Calls Try.prog 6 #[.int .u8 (a.toNat : Int), .int .u8 (b.toNat : Int), .int .i16 i, .int .i16 k] w fun e w' => e = .returned (.bool true) ∧ Below w.heap.size w w' := by
  have h2 : ((((a.toNat : Nat) : Int)) != 0) = false := by subst ha; rfl
  have h4 : ((((a.toNat : Nat) : Int)) == 0) = true := by subst ha; rfl
  have hi := lg_lt a
  have hj := lg_lt b
  have HA := Lib.hid ha
  have HB := Lib.hid hb
  clear ha hb
  have H0 := Lib.hid (St.start w)
  go_enter Try.func6, Try.ntmps6
  go_wp2_with fail
  refine (newS H0.out).mono ?_
  rintro e w1 ⟨rfl, h⟩
  have H1 := Lib.hid h
  clear h
  have M1 := Lib.hid (List.mem_cons_self (a := w.heap.size) (l := []))
  go_wp2_with fail
  refine (logS H1.out (some _) (one_in (by simp)) _ a rfl).mono ?_
  rintro e w2 ⟨rfl, h⟩
  have H2 := Lib.hid h
  clear h
  rw [show nz a = false from by rw [HA.out]; rfl]
  go_wp2_with fail
  refine (logS H2.out (some _) (one_in (by simp)) _ b rfl).mono ?_
  rintro e w3 ⟨rfl, h⟩
  have H3 := Lib.hid h
  clear h
  rw [nz_ne HB.out]
  go_wp2_with fail
  refine (expS H3.out (some _) (one_in (by simp)) _).mono ?_
  rintro e w4 ⟨rfl, h⟩
  have H4 := Lib.hid h
  clear h
  go_wp2_with fail
  refine (expS H4.out (some _) (one_in (by simp)) _).mono ?_
  rintro e w5 ⟨rfl, h⟩
  have H5 := Lib.hid h
  clear h
  go_wp2_with fail
  refine (expS H5.out (some _) (one_in (by simp)) _).mono ?_
  rintro e w6 ⟨rfl, h⟩
  have H6 := Lib.hid h
  clear h
  go_wp2_with fail
  refine (mulS H6.out (some _) (one_in (by simp)) _ _ _ _ rfl rfl).mono ?_
  rintro e w7 ⟨rfl, h⟩
  have H7 := Lib.hid h
  clear h
  rw [← pow_add (show (2 : UInt8) ≠ 0 by decide)]
  go_wp2_with fail
  refine (orderS H7.out (some _) (one_in (by simp)) _ a rfl).mono ?_
  rintro e w8 ⟨rfl, h⟩
  have H8 := Lib.hid h
  clear h
  rw [show ((ord a : Nat) : Int) = 0 from by rw [HA.out]; rfl]
  go_wp2_with fail
  refine (works_any _).mono ?_
  rintro e w9 ⟨rfl, hb⟩
  have H9 := Lib.hid (H8.out.keep hb)
  clear hb
  go_wp2_with fail
  go_ret
  exact ⟨rfl, H9.out.2⟩
set_option maxRecDepth 100000 in
set_option maxHeartbeats 3200000 in
theorem logs_nz (w : World) (a b : UInt8) (i k : Int) (hi1 : -32768 ≤ i) (hi2 : i ≤ 32767) (hk1 : -32768 ≤ k) (hk2 : k ≤ 32767) (ha : a ≠ 0) (hb : b = 0) : Calls Try.prog 6 #[.int .u8 (a.toNat : Int), .int .u8 (b.toNat : Int), .int .i16 i, .int .i16 k] w fun e w' => e = .returned (.bool true) ∧ Below w.heap.size w w' := by
  have h2 : ((((a.toNat : Nat) : Int)) != 0) = true := by rw [bne, u8_zero_no ha]; rfl
  have h4 := u8_zero_no ha
  have hi := lg_lt a
  have hj := lg_lt b
  have HA := Lib.hid ha
  have HB := Lib.hid hb
  clear ha hb
  have H0 := Lib.hid (St.start w)
  go_enter Try.func6, Try.ntmps6
  go_wp2_with fail
  refine (newS H0.out).mono ?_
  rintro e w1 ⟨rfl, h⟩
  have H1 := Lib.hid h
  clear h
  have M1 := Lib.hid (List.mem_cons_self (a := w.heap.size) (l := []))
  go_wp2_with fail
  refine (logS H1.out (some _) (one_in (by simp)) _ a rfl).mono ?_
  rintro e w2 ⟨rfl, h⟩
  have H2 := Lib.hid h
  clear h
  rw [nz_ne HA.out]
  go_wp2_with fail
  refine (logS H2.out (some _) (one_in (by simp)) _ b rfl).mono ?_
  rintro e w3 ⟨rfl, h⟩
  have H3 := Lib.hid h
  clear h
  rw [show nz b = false from by rw [HB.out]; rfl]
  go_wp2_with fail
  refine (expS H3.out (some _) (one_in (by simp)) _).mono ?_
  rintro e w4 ⟨rfl, h⟩
  have H4 := Lib.hid h
  clear h
  go_wp2_with fail
  refine (expS H4.out (some _) (one_in (by simp)) _).mono ?_
  rintro e w5 ⟨rfl, h⟩
  have H5 := Lib.hid h
  clear h
  go_wp2_with fail
  refine (expS H5.out (some _) (one_in (by simp)) _).mono ?_
  rintro e w6 ⟨rfl, h⟩
  have H6 := Lib.hid h
  clear h
  go_wp2_with fail
  refine (mulS H6.out (some _) (one_in (by simp)) _ _ _ _ rfl rfl).mono ?_
  rintro e w7 ⟨rfl, h⟩
  have H7 := Lib.hid h
  clear h
  rw [← pow_add (show (2 : UInt8) ≠ 0 by decide)]
  go_wp2_with fail
  refine (powS H7.out (some _) (one_in (by simp)) _ a rfl _).mono ?_
  rintro e w8 ⟨rfl, h⟩
  have H8 := Lib.hid h
  clear h
  go_wp2_with fail
  refine (powS H8.out (some _) (one_in (by simp)) _ a rfl _).mono ?_
  rintro e w9 ⟨rfl, h⟩
  have H9 := Lib.hid h
  clear h
  go_wp2_with fail
  refine (powS H9.out (some _) (one_in (by simp)) _ a rfl _).mono ?_
  rintro e w10 ⟨rfl, h⟩
  have H10 := Lib.hid h
  clear h
  go_wp2_with fail
  refine (mulS H10.out (some _) (one_in (by simp)) _ _ _ _ rfl rfl).mono ?_
  rintro e w11 ⟨rfl, h⟩
  have H11 := Lib.hid h
  clear h
  rw [← pow_add HA.out]
  go_wp2_with fail
  refine (orderS H11.out (some _) (one_in (by simp)) _ a rfl).mono ?_
  rintro e w12 ⟨rfl, h⟩
  have H12 := Lib.hid h
  clear h
  have HO := Lib.hid (ord_facts HA.out)
  have ho1 := HO.out.1
  have ho2 : ((ord a : Nat) : Int) ≤ 255 := by have := HO.out.2.1; omega
  have ho3 := ord_mod HA.out
  have ho4 : (0 : Int) < ((ord a : Nat) : Int) := by omega
  have ho4 : (0 : Int) < ((ord a : Nat) : Int) := by omega
  have HP := Lib.hid (And.intro (pow_255 HA.out) (And.intro (pow_ord HA.out) (pow_pow_ord HA.out i)))
  generalize hor : ord a = o at *
  have HOR := Lib.hid hor
  clear hor
  go_wp2_with fail
  refine (powS H12.out (some _) (one_in (by simp)) _ a rfl _).mono ?_
  rintro e w13 ⟨rfl, h⟩
  have H13 := Lib.hid h
  clear h
  rw [show (((pow a 255).toNat : Nat) : Int) = 1 from by rw [HP.out.1]; rfl]
  go_wp2_with fail
  refine (powS H13.out (some _) (one_in (by simp)) _ a rfl _).mono ?_
  rintro e w14 ⟨rfl, h⟩
  have H14 := Lib.hid h
  clear h
  rw [show (((pow a (o : Nat)).toNat : Nat) : Int) = 1 from by rw [HP.out.2.1]; rfl]
  go_wp2_with fail
  refine (powS H14.out (some _) (one_in (by simp)) _ a rfl _).mono ?_
  rintro e w15 ⟨rfl, h⟩
  have H15 := Lib.hid h
  clear h
  go_wp2_with fail
  refine (powS H15.out (some _) (one_in (by simp)) _ (pow a i) rfl _).mono ?_
  rintro e w16 ⟨rfl, h⟩
  have H16 := Lib.hid h
  clear h
  rw [show (((pow (pow a i) (o : Nat)).toNat : Nat) : Int) = 1 from by rw [HP.out.2.2]; rfl]
  go_wp2_with fail
  refine (works_any _).mono ?_
  rintro e w17 ⟨rfl, hb⟩
  have H17 := Lib.hid (H16.out.keep hb)
  clear hb
  go_wp2_with fail
  go_ret
  exact ⟨rfl, H17.out.2⟩
set_option maxRecDepth 100000 in
set_option maxHeartbeats 3200000 in
theorem logs_zz (w : World) (a b : UInt8) (i k : Int) (hi1 : -32768 ≤ i) (hi2 : i ≤ 32767) (hk1 : -32768 ≤ k) (hk2 : k ≤ 32767) (ha : a = 0) (hb : b = 0) : Calls Try.prog 6 #[.int .u8 (a.toNat : Int), .int .u8 (b.toNat : Int), .int .i16 i, .int .i16 k] w fun e w' => e = .returned (.bool true) ∧ Below w.heap.size w w' := by
  have h2 : ((((a.toNat : Nat) : Int)) != 0) = false := by subst ha; rfl
  have h4 : ((((a.toNat : Nat) : Int)) == 0) = true := by subst ha; rfl
  have hi := lg_lt a
  have hj := lg_lt b
  have HA := Lib.hid ha
  have HB := Lib.hid hb
  clear ha hb
  have H0 := Lib.hid (St.start w)
  go_enter Try.func6, Try.ntmps6
  go_wp2_with fail
  refine (newS H0.out).mono ?_
  rintro e w1 ⟨rfl, h⟩
  have H1 := Lib.hid h
  clear h
  have M1 := Lib.hid (List.mem_cons_self (a := w.heap.size) (l := []))
  go_wp2_with fail
  refine (logS H1.out (some _) (one_in (by simp)) _ a rfl).mono ?_
  rintro e w2 ⟨rfl, h⟩
  have H2 := Lib.hid h
  clear h
  rw [show nz a = false from by rw [HA.out]; rfl]
  go_wp2_with fail
  refine (logS H2.out (some _) (one_in (by simp)) _ b rfl).mono ?_
  rintro e w3 ⟨rfl, h⟩
  have H3 := Lib.hid h
  clear h
  rw [show nz b = false from by rw [HB.out]; rfl]
  go_wp2_with fail
  refine (expS H3.out (some _) (one_in (by simp)) _).mono ?_
  rintro e w4 ⟨rfl, h⟩
  have H4 := Lib.hid h
  clear h
  go_wp2_with fail
  refine (expS H4.out (some _) (one_in (by simp)) _).mono ?_
  rintro e w5 ⟨rfl, h⟩
  have H5 := Lib.hid h
  clear h
  go_wp2_with fail
  refine (expS H5.out (some _) (one_in (by simp)) _).mono ?_
  rintro e w6 ⟨rfl, h⟩
  have H6 := Lib.hid h
  clear h
  go_wp2_with fail
  refine (mulS H6.out (some _) (one_in (by simp)) _ _ _ _ rfl rfl).mono ?_
  rintro e w7 ⟨rfl, h⟩
  have H7 := Lib.hid h
  clear h
  rw [← pow_add (show (2 : UInt8) ≠ 0 by decide)]
  go_wp2_with fail
  refine (orderS H7.out (some _) (one_in (by simp)) _ a rfl).mono ?_
  rintro e w8 ⟨rfl, h⟩
  have H8 := Lib.hid h
  clear h
  rw [show ((ord a : Nat) : Int) = 0 from by rw [HA.out]; rfl]
  go_wp2_with fail
  refine (works_any _).mono ?_
  rintro e w9 ⟨rfl, hb⟩
  have H9 := Lib.hid (H8.out.keep hb)
  clear hb
  go_wp2_with fail
  go_ret
  exact ⟨rfl, H9.out.2⟩
theorem logs_any (w : World) (a b : UInt8) (i k : Int) (hi : -32768 ≤ i ∧ i ≤ 32767) (hk : -32768 ≤ k ∧ k ≤ 32767) : Calls Try.prog 6 #[.int .u8 (a.toNat : Int), .int .u8 (b.toNat : Int), .int .i16 i, .int .i16 k] w fun e w' => e = .returned (.bool true) ∧ Below w.heap.size w w' := by
  by_cases ha : a = 0 <;> by_cases hb : b = 0
  · exact logs_zz w a b i k hi.1 hi.2 hk.1 hk.2 ha hb
  · exact logs_zn w a b i k hi.1 hi.2 hk.1 hk.2 ha hb
  · exact logs_nz w a b i k hi.1 hi.2 hk.1 hk.2 ha hb
  · exact logs_nn w a b i k hi.1 hi.2 hk.1 hk.2 ha hb
theorem logsL (w : World) (a b : UInt8) (i : Int) (hi : -32768 ≤ i ∧ i ≤ 32767) (k : Int) (hk : -32768 ≤ k ∧ k ≤ 32767) : Calls Try.prog 6 #[.int .u8 (a.toNat : Int), .int .u8 (b.toNat : Int), .int .i16 i, .int .i16 k] w fun e w' => e = .returned (.bool true) ∧ Below w.heap.size w w' := logs_any w a b i k hi hk
end Go.Proofs.Ytokpcgfkfmjkkaa.FdW
