/- The law PolyFactors: its walk. -/
import Derived.Test.YtciilojlfaihjaaPlLawSt
namespace Go.Proofs.Ytciilojlfaihjaa.PlW
open Go.RowKit Mem Gf FdW Pl Rng
set_option linter.unusedVariables false
set_option maxRecDepth 100000 in
set_option maxHeartbeats 4000000 in
theorem polyfactors_big0 (w : World) (A : Option Addr) (a : List UInt8) (ca : Nat) (hca : a.length ≤ ca) (hA : Bytes w w.heap.size A a) (B : Option Addr) (b : List UInt8) (cb : Nat) (hcb : b.length ≤ cb) (hB : Bytes w w.heap.size B b) (x : UInt8) (h : 30 < a.length) :
    Calls Try.prog 10 #[.slice A a.length ca, .slice B b.length cb, .int .u8 (x.toNat : Int)] w fun e w' => e = .returned (.bool true) ∧ Below w.heap.size w w' := by
  have h0 : (30 : Int) < (a.length : Int) := by omega
  clear h
  go_enter Try.func10, Try.ntmps10
  go_wp2_with fail
  refine (works_any _).mono ?_
  rintro e w1 ⟨rfl, hb⟩
  have H1 := Lib.hid hb
  clear hb
  go_wp2_with fail
  go_ret
  exact ⟨rfl, H1.out⟩
set_option maxRecDepth 100000 in
set_option maxHeartbeats 4000000 in
theorem polyfactors_big1 (w : World) (A : Option Addr) (a : List UInt8) (ca : Nat) (hca : a.length ≤ ca) (hA : Bytes w w.heap.size A a) (B : Option Addr) (b : List UInt8) (cb : Nat) (hcb : b.length ≤ cb) (hB : Bytes w w.heap.size B b) (x : UInt8) (h : a.length ≤ 30 ∧ 30 < b.length) :
    Calls Try.prog 10 #[.slice A a.length ca, .slice B b.length cb, .int .u8 (x.toNat : Int)] w fun e w' => e = .returned (.bool true) ∧ Below w.heap.size w w' := by
  have h0 : ¬ (30 : Int) < (a.length : Int) := by omega
  have h1 : (30 : Int) < (b.length : Int) := by omega
  clear h
  go_enter Try.func10, Try.ntmps10
  go_wp2_with fail
  refine (works_any _).mono ?_
  rintro e w1 ⟨rfl, hb⟩
  have H1 := Lib.hid hb
  clear hb
  go_wp2_with fail
  go_ret
  exact ⟨rfl, H1.out⟩
set_option maxRecDepth 100000 in
set_option maxHeartbeats 4000000 in
theorem factors_00 (w : World) (A : Option Addr) (a : List UInt8) (ca : Nat) (hca : a.length ≤ ca) (hA : Bytes w w.heap.size A a) (B : Option Addr) (b : List UInt8) (cb : Nat) (hcb : b.length ≤ cb) (hB : Bytes w w.heap.size B b) (x : UInt8) (h : a.length ≤ 30 ∧ b.length ≤ 30) (ha : ev a x ≠ 0) (hb : ev b x ≠ 0) :
    Calls Try.prog 10 #[.slice A a.length ca, .slice B b.length cb, .int .u8 (x.toNat : Int)] w fun e w' => e = .returned (.bool true) ∧ Below w.heap.size w w' := by
  have hs0 : ¬ (30 : Int) < (a.length : Int) := by omega
  have hs1 : ¬ (30 : Int) < (b.length : Int) := by omega
  have H0 := Lib.hid (((PB.start w).arg 30 hB hcb h.2).arg 30 hA hca h.1)
  have HR1 := Lib.hid (show len (trim (rootsP [x])) ≠ 0 from by rw [len_congr (trim_eqv _), rootsP_len]; simp)
  have HE := Lib.hid (show ev (trim (mulP a b)) x = mul (ev a x) (ev b x) from by rw [ev_congr (trim_eqv _), ev_mulP])
  have hz1 : (((ev a x).toNat : Int) == 0) = false := u8_zero_no ha
  have hz2 : (((ev b x).toNat : Int) == 0) = false := u8_zero_no hb
  have hz3 : (((mul (ev a x) (ev b x)).toNat : Int) == 0) = false := u8_zero_no (mul_ne ha hb)
  have HA0 := Lib.hid (show trim [ev a x] = [ev a x] from trim_one ha)
  clear h hA hB ha hb
  go_enter Try.func10, Try.ntmps10
  go_wp2_with fail
  refine (newP H0.out).mono ?_
  rintro e w1 ⟨rfl, h⟩
  have H1 := Lib.hid h
  clear h
  have hb2 := build1 w1 ((x.toNat : Int))
  have L2 := Lib.hid (show PS _ _ (⟨some ⟨w1.heap.size, 0, none⟩, [x], 1, 1⟩ :: _) (w1.alloc (.cells #[.int .u8 (x.toNat : Int)] 5)) from lit1 (H1.out) x)
  go_wp2_with fail
  generalize (w1.alloc (.cells #[.int .u8 (x.toNat : Int)] 5)) = w3 at *
  have H3 := L2
  clear hb2 L2
  go_wp2_with fail
  refine (rootsR H3.out (a := [x]) (na := 1) (by simp) _ rfl (by decide) 2 (by decide)).mono ?_
  rintro e w4 ⟨A4, c4, rfl, h⟩
  have H4 := Lib.hid h
  clear h
  go_wp2_with fail
  refine (divR H4.out (a := a) (na := 30) (by simp) _ rfl (b := trim (rootsP [x])) (nb := 2) (by simp) _ rfl (by decide) (by decide) HR1.out 30 (by decide)).mono ?_
  rintro e w5 ⟨q5, r5, A5, c5, B5, d5, hd, rfl, h⟩
  have e1 := (rest_roots hd).trans HA0.out
  rw [e1] at h ⊢
  clear e1 hd
  have H5 := Lib.hid h
  clear h
  go_wp2_with fail
  refine (atR H5.out (a := a) (na := 30) (by simp) _ rfl (by decide) _ x rfl).mono ?_
  rintro e w6 ⟨rfl, h⟩
  have H6 := Lib.hid h
  clear h
  go_wp2_with fail
  refine (mulR H6.out (a := a) (na := 30) (by simp) _ rfl (b := b) (nb := 30) (by simp) _ rfl (by decide) 60 (by decide)).mono ?_
  rintro e w7 ⟨A7, c7, rfl, h⟩
  have H7 := Lib.hid h
  clear h
  go_wp2_with fail
  refine (atR H7.out (a := trim (mulP a b)) (na := 60) (by simp) _ rfl (by decide) _ x rfl).mono ?_
  rintro e w8 ⟨rfl, h⟩
  rw [HE.out]
  have H8 := Lib.hid h
  clear h
  go_wp2_with fail
  refine (atR H8.out (a := b) (na := 30) (by simp) _ rfl (by decide) _ x rfl).mono ?_
  rintro e w9 ⟨rfl, h⟩
  have H9 := Lib.hid h
  clear h
  go_wp2_with fail
  refine (works_any _).mono ?_
  rintro e w10 ⟨rfl, hb⟩
  have H10 := Lib.hid (PS.keep H9.out hb)
  clear hb
  go_wp2_with fail
  go_ret
  exact ⟨rfl, PS.below H10.out⟩
set_option maxRecDepth 100000 in
set_option maxHeartbeats 4000000 in
theorem factors_01 (w : World) (A : Option Addr) (a : List UInt8) (ca : Nat) (hca : a.length ≤ ca) (hA : Bytes w w.heap.size A a) (B : Option Addr) (b : List UInt8) (cb : Nat) (hcb : b.length ≤ cb) (hB : Bytes w w.heap.size B b) (x : UInt8) (h : a.length ≤ 30 ∧ b.length ≤ 30) (ha : ev a x ≠ 0) (hb : ev b x = 0) :
    Calls Try.prog 10 #[.slice A a.length ca, .slice B b.length cb, .int .u8 (x.toNat : Int)] w fun e w' => e = .returned (.bool true) ∧ Below w.heap.size w w' := by
  have hs0 : ¬ (30 : Int) < (a.length : Int) := by omega
  have hs1 : ¬ (30 : Int) < (b.length : Int) := by omega
  have H0 := Lib.hid (((PB.start w).arg 30 hB hcb h.2).arg 30 hA hca h.1)
  have HR1 := Lib.hid (show len (trim (rootsP [x])) ≠ 0 from by rw [len_congr (trim_eqv _), rootsP_len]; simp)
  have HE := Lib.hid (show ev (trim (mulP a b)) x = mul (ev a x) (ev b x) from by rw [ev_congr (trim_eqv _), ev_mulP])
  have hz1 : (((ev a x).toNat : Int) == 0) = false := u8_zero_no ha
  have hz2 : (((ev b x).toNat : Int) == 0) = true := zero_yes hb
  have hz3 : (((mul (ev a x) (ev b x)).toNat : Int) == 0) = true := zero_yes (mul_zero_iff.2 (.inr hb))
  have HA0 := Lib.hid (show trim [ev a x] = [ev a x] from trim_one ha)
  clear h hA hB ha hb
  go_enter Try.func10, Try.ntmps10
  go_wp2_with fail
  refine (newP H0.out).mono ?_
  rintro e w1 ⟨rfl, h⟩
  have H1 := Lib.hid h
  clear h
  have hb2 := build1 w1 ((x.toNat : Int))
  have L2 := Lib.hid (show PS _ _ (⟨some ⟨w1.heap.size, 0, none⟩, [x], 1, 1⟩ :: _) (w1.alloc (.cells #[.int .u8 (x.toNat : Int)] 5)) from lit1 (H1.out) x)
  go_wp2_with fail
  generalize (w1.alloc (.cells #[.int .u8 (x.toNat : Int)] 5)) = w3 at *
  have H3 := L2
  clear hb2 L2
  go_wp2_with fail
  refine (rootsR H3.out (a := [x]) (na := 1) (by simp) _ rfl (by decide) 2 (by decide)).mono ?_
  rintro e w4 ⟨A4, c4, rfl, h⟩
  have H4 := Lib.hid h
  clear h
  go_wp2_with fail
  refine (divR H4.out (a := a) (na := 30) (by simp) _ rfl (b := trim (rootsP [x])) (nb := 2) (by simp) _ rfl (by decide) (by decide) HR1.out 30 (by decide)).mono ?_
  rintro e w5 ⟨q5, r5, A5, c5, B5, d5, hd, rfl, h⟩
  have e1 := (rest_roots hd).trans HA0.out
  rw [e1] at h ⊢
  clear e1 hd
  have H5 := Lib.hid h
  clear h
  go_wp2_with fail
  refine (atR H5.out (a := a) (na := 30) (by simp) _ rfl (by decide) _ x rfl).mono ?_
  rintro e w6 ⟨rfl, h⟩
  have H6 := Lib.hid h
  clear h
  go_wp2_with fail
  refine (mulR H6.out (a := a) (na := 30) (by simp) _ rfl (b := b) (nb := 30) (by simp) _ rfl (by decide) 60 (by decide)).mono ?_
  rintro e w7 ⟨A7, c7, rfl, h⟩
  have H7 := Lib.hid h
  clear h
  go_wp2_with fail
  refine (atR H7.out (a := trim (mulP a b)) (na := 60) (by simp) _ rfl (by decide) _ x rfl).mono ?_
  rintro e w8 ⟨rfl, h⟩
  rw [HE.out]
  have H8 := Lib.hid h
  clear h
  go_wp2_with fail
  refine (atR H8.out (a := b) (na := 30) (by simp) _ rfl (by decide) _ x rfl).mono ?_
  rintro e w9 ⟨rfl, h⟩
  have H9 := Lib.hid h
  clear h
  go_wp2_with fail
  refine (works_any _).mono ?_
  rintro e w10 ⟨rfl, hb⟩
  have H10 := Lib.hid (PS.keep H9.out hb)
  clear hb
  go_wp2_with fail
  go_ret
  exact ⟨rfl, PS.below H10.out⟩
set_option maxRecDepth 100000 in
set_option maxHeartbeats 4000000 in
theorem factors_10 (w : World) (A : Option Addr) (a : List UInt8) (ca : Nat) (hca : a.length ≤ ca) (hA : Bytes w w.heap.size A a) (B : Option Addr) (b : List UInt8) (cb : Nat) (hcb : b.length ≤ cb) (hB : Bytes w w.heap.size B b) (x : UInt8) (h : a.length ≤ 30 ∧ b.length ≤ 30) (ha : ev a x = 0) (hb : ev b x ≠ 0) :
    Calls Try.prog 10 #[.slice A a.length ca, .slice B b.length cb, .int .u8 (x.toNat : Int)] w fun e w' => e = .returned (.bool true) ∧ Below w.heap.size w w' := by
  have hs0 : ¬ (30 : Int) < (a.length : Int) := by omega
  have hs1 : ¬ (30 : Int) < (b.length : Int) := by omega
  have H0 := Lib.hid (((PB.start w).arg 30 hB hcb h.2).arg 30 hA hca h.1)
  have HR1 := Lib.hid (show len (trim (rootsP [x])) ≠ 0 from by rw [len_congr (trim_eqv _), rootsP_len]; simp)
  have HE := Lib.hid (show ev (trim (mulP a b)) x = mul (ev a x) (ev b x) from by rw [ev_congr (trim_eqv _), ev_mulP])
  have hz1 : (((ev a x).toNat : Int) == 0) = true := zero_yes ha
  have hz2 : (((ev b x).toNat : Int) == 0) = false := u8_zero_no hb
  have hz3 : (((mul (ev a x) (ev b x)).toNat : Int) == 0) = true := zero_yes (mul_zero_iff.2 (.inl ha))
  have HA0 := Lib.hid (show trim [ev a x] = [] from by rw [ha]; rfl)
  clear h hA hB ha hb
  go_enter Try.func10, Try.ntmps10
  go_wp2_with fail
  refine (newP H0.out).mono ?_
  rintro e w1 ⟨rfl, h⟩
  have H1 := Lib.hid h
  clear h
  have hb2 := build1 w1 ((x.toNat : Int))
  have L2 := Lib.hid (show PS _ _ (⟨some ⟨w1.heap.size, 0, none⟩, [x], 1, 1⟩ :: _) (w1.alloc (.cells #[.int .u8 (x.toNat : Int)] 5)) from lit1 (H1.out) x)
  go_wp2_with fail
  generalize (w1.alloc (.cells #[.int .u8 (x.toNat : Int)] 5)) = w3 at *
  have H3 := L2
  clear hb2 L2
  go_wp2_with fail
  refine (rootsR H3.out (a := [x]) (na := 1) (by simp) _ rfl (by decide) 2 (by decide)).mono ?_
  rintro e w4 ⟨A4, c4, rfl, h⟩
  have H4 := Lib.hid h
  clear h
  go_wp2_with fail
  refine (divR H4.out (a := a) (na := 30) (by simp) _ rfl (b := trim (rootsP [x])) (nb := 2) (by simp) _ rfl (by decide) (by decide) HR1.out 30 (by decide)).mono ?_
  rintro e w5 ⟨q5, r5, A5, c5, B5, d5, hd, rfl, h⟩
  have e1 := (rest_roots hd).trans HA0.out
  rw [e1] at h ⊢
  clear e1 hd
  have H5 := Lib.hid h
  clear h
  go_wp2_with fail
  refine (atR H5.out (a := a) (na := 30) (by simp) _ rfl (by decide) _ x rfl).mono ?_
  rintro e w6 ⟨rfl, h⟩
  have H6 := Lib.hid h
  clear h
  go_wp2_with fail
  refine (mulR H6.out (a := a) (na := 30) (by simp) _ rfl (b := b) (nb := 30) (by simp) _ rfl (by decide) 60 (by decide)).mono ?_
  rintro e w7 ⟨A7, c7, rfl, h⟩
  have H7 := Lib.hid h
  clear h
  go_wp2_with fail
  refine (atR H7.out (a := trim (mulP a b)) (na := 60) (by simp) _ rfl (by decide) _ x rfl).mono ?_
  rintro e w8 ⟨rfl, h⟩
  rw [HE.out]
  have H8 := Lib.hid h
  clear h
  go_wp2_with fail
  refine (works_any _).mono ?_
  rintro e w9 ⟨rfl, hb⟩
  have H9 := Lib.hid (PS.keep H8.out hb)
  clear hb
  go_wp2_with fail
  go_ret
  exact ⟨rfl, PS.below H9.out⟩
set_option maxRecDepth 100000 in
set_option maxHeartbeats 4000000 in
theorem factors_11 (w : World) (A : Option Addr) (a : List UInt8) (ca : Nat) (hca : a.length ≤ ca) (hA : Bytes w w.heap.size A a) (B : Option Addr) (b : List UInt8) (cb : Nat) (hcb : b.length ≤ cb) (hB : Bytes w w.heap.size B b) (x : UInt8) (h : a.length ≤ 30 ∧ b.length ≤ 30) (ha : ev a x = 0) (hb : ev b x = 0) :
    Calls Try.prog 10 #[.slice A a.length ca, .slice B b.length cb, .int .u8 (x.toNat : Int)] w fun e w' => e = .returned (.bool true) ∧ Below w.heap.size w w' := by
  have hs0 : ¬ (30 : Int) < (a.length : Int) := by omega
  have hs1 : ¬ (30 : Int) < (b.length : Int) := by omega
  have H0 := Lib.hid (((PB.start w).arg 30 hB hcb h.2).arg 30 hA hca h.1)
  have HR1 := Lib.hid (show len (trim (rootsP [x])) ≠ 0 from by rw [len_congr (trim_eqv _), rootsP_len]; simp)
  have HE := Lib.hid (show ev (trim (mulP a b)) x = mul (ev a x) (ev b x) from by rw [ev_congr (trim_eqv _), ev_mulP])
  have hz1 : (((ev a x).toNat : Int) == 0) = true := zero_yes ha
  have hz2 : (((ev b x).toNat : Int) == 0) = true := zero_yes hb
  have hz3 : (((mul (ev a x) (ev b x)).toNat : Int) == 0) = true := zero_yes (mul_zero_iff.2 (.inl ha))
  have HA0 := Lib.hid (show trim [ev a x] = [] from by rw [ha]; rfl)
  clear h hA hB ha hb
  go_enter Try.func10, Try.ntmps10
  go_wp2_with fail
  refine (newP H0.out).mono ?_
  rintro e w1 ⟨rfl, h⟩
  have H1 := Lib.hid h
  clear h
  have hb2 := build1 w1 ((x.toNat : Int))
  have L2 := Lib.hid (show PS _ _ (⟨some ⟨w1.heap.size, 0, none⟩, [x], 1, 1⟩ :: _) (w1.alloc (.cells #[.int .u8 (x.toNat : Int)] 5)) from lit1 (H1.out) x)
  go_wp2_with fail
  generalize (w1.alloc (.cells #[.int .u8 (x.toNat : Int)] 5)) = w3 at *
  have H3 := L2
  clear hb2 L2
  go_wp2_with fail
  refine (rootsR H3.out (a := [x]) (na := 1) (by simp) _ rfl (by decide) 2 (by decide)).mono ?_
  rintro e w4 ⟨A4, c4, rfl, h⟩
  have H4 := Lib.hid h
  clear h
  go_wp2_with fail
  refine (divR H4.out (a := a) (na := 30) (by simp) _ rfl (b := trim (rootsP [x])) (nb := 2) (by simp) _ rfl (by decide) (by decide) HR1.out 30 (by decide)).mono ?_
  rintro e w5 ⟨q5, r5, A5, c5, B5, d5, hd, rfl, h⟩
  have e1 := (rest_roots hd).trans HA0.out
  rw [e1] at h ⊢
  clear e1 hd
  have H5 := Lib.hid h
  clear h
  go_wp2_with fail
  refine (atR H5.out (a := a) (na := 30) (by simp) _ rfl (by decide) _ x rfl).mono ?_
  rintro e w6 ⟨rfl, h⟩
  have H6 := Lib.hid h
  clear h
  go_wp2_with fail
  refine (mulR H6.out (a := a) (na := 30) (by simp) _ rfl (b := b) (nb := 30) (by simp) _ rfl (by decide) 60 (by decide)).mono ?_
  rintro e w7 ⟨A7, c7, rfl, h⟩
  have H7 := Lib.hid h
  clear h
  go_wp2_with fail
  refine (atR H7.out (a := trim (mulP a b)) (na := 60) (by simp) _ rfl (by decide) _ x rfl).mono ?_
  rintro e w8 ⟨rfl, h⟩
  rw [HE.out]
  have H8 := Lib.hid h
  clear h
  go_wp2_with fail
  refine (works_any _).mono ?_
  rintro e w9 ⟨rfl, hb⟩
  have H9 := Lib.hid (PS.keep H8.out hb)
  clear hb
  go_wp2_with fail
  go_ret
  exact ⟨rfl, PS.below H9.out⟩
theorem factors_any (w : World) (A : Option Addr) (a : List UInt8) (ca : Nat) (hca : a.length ≤ ca) (hA : Bytes w w.heap.size A a) (B : Option Addr) (b : List UInt8) (cb : Nat) (hcb : b.length ≤ cb) (hB : Bytes w w.heap.size B b) (x : UInt8) :
    Calls Try.prog 10 #[.slice A a.length ca, .slice B b.length cb, .int .u8 (x.toNat : Int)] w fun e w' => e = .returned (.bool true) ∧ Below w.heap.size w w' := by
  by_cases hs0 : a.length ≤ 30
  · skip
    by_cases hs1 : b.length ≤ 30
    · skip
      by_cases ha : ev a x = 0
      · by_cases hb : ev b x = 0
        · exact factors_11 w A a ca hca hA B b cb hcb hB x ⟨hs0, hs1⟩ ha hb
        · exact factors_10 w A a ca hca hA B b cb hcb hB x ⟨hs0, hs1⟩ ha hb
      · by_cases hb : ev b x = 0
        · exact factors_01 w A a ca hca hA B b cb hcb hB x ⟨hs0, hs1⟩ ha hb
        · exact factors_00 w A a ca hca hA B b cb hcb hB x ⟨hs0, hs1⟩ ha hb
    · exact polyfactors_big1 w A a ca hca hA B b cb hcb hB x (by omega)
  · exact polyfactors_big0 w A a ca hca hA B b cb hcb hB x (by omega)
theorem factors_law (w : World) (A : Option Addr) (a : List UInt8) (ca : Nat) (hca : a.length ≤ ca) (_ : ca ≤ maxLen) (hA : Bytes w w.heap.size A a) (B : Option Addr) (b : List UInt8) (cb : Nat) (hcb : b.length ≤ cb) (_ : cb ≤ maxLen) (hB : Bytes w w.heap.size B b) (x : UInt8) :
    Calls Try.prog 10 #[.slice A a.length ca, .slice B b.length cb, .int .u8 (x.toNat : Int)] w fun e w' => e = .returned (.bool true) ∧ Below w.heap.size w w' := by
  exact factors_any w A a ca hca hA B b cb hcb hB x
end Go.Proofs.Ytciilojlfaihjaa.PlW
