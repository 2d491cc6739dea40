/- The law PolyDivides: its walk. -/
import Derived.Test.YtciilojlfaihjaaPlLawSt
namespace Go.Proofs.Ytciilojlfaihjaa.PlW
open Go.RowKit Mem Gf FdW Pl Rng
set_option linter.unusedVariables false
set_option maxRecDepth 100000 in
set_option maxHeartbeats 4000000 in
theorem polydivides_big0 (w : World) (A : Option Addr) (a : List UInt8) (ca : Nat) (hca : a.length ≤ ca) (hA : Bytes w w.heap.size A a) (B : Option Addr) (b : List UInt8) (cb : Nat) (hcb : b.length ≤ cb) (hB : Bytes w w.heap.size B b) (x : UInt8) (h : 40 < a.length) :
    Calls Try.prog 6 #[.slice A a.length ca, .slice B b.length cb, .int .u8 (x.toNat : Int)] w fun e w' => e = .returned (.bool true) ∧ Below w.heap.size w w' := by
  have h0 : (40 : Int) < (a.length : Int) := by omega
  clear h
  go_enter Try.func6, Try.ntmps6
  go_wp2_with fail
  refine (works_any _).mono ?_
  rintro e w1 ⟨rfl, hb⟩
  have H1 := Lib.hid hb
  clear hb
  go_wp2_with fail
  go_ret
  exact ⟨rfl, H1.out⟩
set_option maxRecDepth 100000 in
set_option maxHeartbeats 4000000 in
theorem polydivides_big1 (w : World) (A : Option Addr) (a : List UInt8) (ca : Nat) (hca : a.length ≤ ca) (hA : Bytes w w.heap.size A a) (B : Option Addr) (b : List UInt8) (cb : Nat) (hcb : b.length ≤ cb) (hB : Bytes w w.heap.size B b) (x : UInt8) (h : a.length ≤ 40 ∧ 40 < b.length) :
    Calls Try.prog 6 #[.slice A a.length ca, .slice B b.length cb, .int .u8 (x.toNat : Int)] w fun e w' => e = .returned (.bool true) ∧ Below w.heap.size w w' := by
  have h0 : ¬ (40 : Int) < (a.length : Int) := by omega
  have h1 : (40 : Int) < (b.length : Int) := by omega
  clear h
  go_enter Try.func6, Try.ntmps6
  go_wp2_with fail
  refine (works_any _).mono ?_
  rintro e w1 ⟨rfl, hb⟩
  have H1 := Lib.hid hb
  clear hb
  go_wp2_with fail
  go_ret
  exact ⟨rfl, H1.out⟩
set_option maxRecDepth 100000 in
set_option maxHeartbeats 4000000 in
theorem divides_00 (w : World) (A : Option Addr) (a : List UInt8) (ca : Nat) (hca : a.length ≤ ca) (hA : Bytes w w.heap.size A a) (B : Option Addr) (b : List UInt8) (cb : Nat) (hcb : b.length ≤ cb) (hB : Bytes w w.heap.size B b) (x : UInt8) (h : a.length ≤ 40 ∧ b.length ≤ 40) (ha : ev a x ≠ 0) (hb : len b ≠ 0) :
    Calls Try.prog 6 #[.slice A a.length ca, .slice B b.length cb, .int .u8 (x.toNat : Int)] w fun e w' => e = .returned (.bool true) ∧ Below w.heap.size w w' := by
  have hs0 : ¬ (40 : Int) < (a.length : Int) := by omega
  have hs1 : ¬ (40 : Int) < (b.length : Int) := by omega
  have H0 := Lib.hid (((PB.start w).arg 40 hB hcb h.2).arg 40 hA hca h.1)
  have HA0 := Lib.hid (show trim [ev a x] = [ev a x] from trim_one ha)
  have HB0 := Lib.hid hb
  clear h hA hB ha hb
  go_enter Try.func6, Try.ntmps6
  go_wp2_with fail
  refine (newP H0.out).mono ?_
  rintro e w1 ⟨rfl, h⟩
  have H1 := Lib.hid h
  clear h
  have hb2 := build2 w1 ((x.toNat : Int)) (1)
  have L2 := Lib.hid (show PS _ _ (⟨some ⟨w1.heap.size, 0, none⟩, [x, 1], 2, 2⟩ :: _) (w1.alloc (.cells #[.int .u8 (x.toNat : Int), .int .u8 1] 5)) from lit2 (H1.out) x 1)
  go_wp2_with fail
  generalize (w1.alloc (.cells #[.int .u8 (x.toNat : Int), .int .u8 1] 5)) = w3 at *
  have H3 := L2
  clear hb2 L2
  go_wp2_with fail
  refine (divR H3.out (a := a) (na := 40) (by simp) _ rfl (b := [x, 1]) (nb := 2) (by simp) _ rfl (by decide) (by decide) (by rw [len_lin]; decide) 40 (by decide)).mono ?_
  rintro e w4 ⟨q4, r4, A4, c4, B4, d4, hd, rfl, h⟩
  have e1 := (rest_value hd).trans HA0.out
  rw [e1] at h ⊢
  clear e1 hd
  have H4 := Lib.hid h
  clear h
  obtain ⟨gb, ob, hB4, hgb, hcb⟩ := (H4.out.2 ⟨B4, [ev a x], d4, 40⟩ (by simp)).1.1.at_ (k := 0) (by simp)
  dsimp only at hB4
  subst hB4
  have hcb2 : w4.cell? ⟨gb, ob, none⟩ = some (.int .u8 ((ev a x).toNat : Int)) := hcb
  clear hcb
  go_wp2_with fail
  refine (atR H4.out (a := a) (na := 40) (by simp) _ rfl (by decide) _ x rfl).mono ?_
  rintro e w5 ⟨rfl, h⟩
  have H5 := Lib.hid h
  clear h
  go_wp2_with fail
  refine (divR H5.out (a := a) (na := 40) (by simp) _ rfl (b := b) (nb := 40) (by simp) _ rfl (by decide) (by decide) HB0.out 40 (by decide)).mono ?_
  rintro e w6 ⟨q6, r6, A6, c6, B6, d6, hd, rfl, h⟩
  have HD := Lib.hid hd
  clear hd
  have H6 := Lib.hid h
  clear h
  go_wp2_with fail
  refine (mulR H6.out (a := trim q6) (na := 40) (by simp) _ rfl (b := b) (nb := 40) (by simp) _ rfl (by decide) 80 (by decide)).mono ?_
  rintro e w7 ⟨A7, c7, rfl, h⟩
  have H7 := Lib.hid h
  clear h
  go_wp2_with fail
  refine (addR H7.out (a := trim (mulP (trim q6) b)) (na := 80) (by simp) _ rfl (b := trim r6) (nb := 40) (by simp) _ rfl (by decide) (by decide) 80 (by decide)).mono ?_
  rintro e w8 ⟨A8, c8, rfl, h⟩
  rw [show trim (add (trim (mulP (trim q6) b)) (trim r6)) = trim a from trim_congr ((add_congr ((trim_eqv _).trans (mulP_left (trim_eqv _) b)) (trim_eqv _)).trans HD.out.1.symm)] at h ⊢
  have H8 := Lib.hid h
  clear h
  go_wp2_with fail
  refine (trimR H8.out (a := a) (na := 40) (by simp) _ rfl (by decide)).mono ?_
  rintro e w9 ⟨A9, c9, rfl, h⟩
  have H9 := Lib.hid h
  clear h
  go_wp2_with fail
  refine (sameR H9.out (a := trim a) (na := 80) (by simp) _ (by first | rfl | simp) (b := trim a) (nb := 40) (by simp) _ (by first | rfl | simp) true (sameB_yes rfl)).mono ?_
  rintro e w' ⟨rfl, rfl⟩
  go_wp2_with fail
  refine (degR H9.out (a := trim r6) (na := 40) (by simp) _ rfl (by decide)).mono ?_
  rintro e w10 ⟨rfl, h⟩
  rw [show len (trim r6) = len r6 from len_congr (trim_eqv _)]
  have H10 := Lib.hid h
  clear h
  go_wp2_with fail
  refine (degR H10.out (a := b) (na := 40) (by simp) _ rfl (by decide)).mono ?_
  rintro e w11 ⟨rfl, h⟩
  have hlt : (len r6 : Int) - 1 < (len b : Int) - 1 := by have := HD.out.2; omega
  have H11 := Lib.hid h
  clear h
  go_wp2_with fail
  refine (works_any _).mono ?_
  rintro e w12 ⟨rfl, hb⟩
  have H12 := Lib.hid (PS.keep H11.out hb)
  clear hb
  go_wp2_with fail
  go_ret
  exact ⟨rfl, PS.below H12.out⟩
set_option maxRecDepth 100000 in
set_option maxHeartbeats 4000000 in
theorem divides_01 (w : World) (A : Option Addr) (a : List UInt8) (ca : Nat) (hca : a.length ≤ ca) (hA : Bytes w w.heap.size A a) (B : Option Addr) (b : List UInt8) (cb : Nat) (hcb : b.length ≤ cb) (hB : Bytes w w.heap.size B b) (x : UInt8) (h : a.length ≤ 40 ∧ b.length ≤ 40) (ha : ev a x ≠ 0) (hb : len b = 0) :
    Calls Try.prog 6 #[.slice A a.length ca, .slice B b.length cb, .int .u8 (x.toNat : Int)] w fun e w' => e = .returned (.bool true) ∧ Below w.heap.size w w' := by
  have hs0 : ¬ (40 : Int) < (a.length : Int) := by omega
  have hs1 : ¬ (40 : Int) < (b.length : Int) := by omega
  have H0 := Lib.hid (((PB.start w).arg 40 hB hcb h.2).arg 40 hA hca h.1)
  have HA0 := Lib.hid (show trim [ev a x] = [ev a x] from trim_one ha)
  have HB0 := Lib.hid hb
  clear h hA hB ha hb
  go_enter Try.func6, Try.ntmps6
  go_wp2_with fail
  refine (newP H0.out).mono ?_
  rintro e w1 ⟨rfl, h⟩
  have H1 := Lib.hid h
  clear h
  have hb2 := build2 w1 ((x.toNat : Int)) (1)
  have L2 := Lib.hid (show PS _ _ (⟨some ⟨w1.heap.size, 0, none⟩, [x, 1], 2, 2⟩ :: _) (w1.alloc (.cells #[.int .u8 (x.toNat : Int), .int .u8 1] 5)) from lit2 (H1.out) x 1)
  go_wp2_with fail
  generalize (w1.alloc (.cells #[.int .u8 (x.toNat : Int), .int .u8 1] 5)) = w3 at *
  have H3 := L2
  clear hb2 L2
  go_wp2_with fail
  refine (divR H3.out (a := a) (na := 40) (by simp) _ rfl (b := [x, 1]) (nb := 2) (by simp) _ rfl (by decide) (by decide) (by rw [len_lin]; decide) 40 (by decide)).mono ?_
  rintro e w4 ⟨q4, r4, A4, c4, B4, d4, hd, rfl, h⟩
  have e1 := (rest_value hd).trans HA0.out
  rw [e1] at h ⊢
  clear e1 hd
  have H4 := Lib.hid h
  clear h
  obtain ⟨gb, ob, hB4, hgb, hcb⟩ := (H4.out.2 ⟨B4, [ev a x], d4, 40⟩ (by simp)).1.1.at_ (k := 0) (by simp)
  dsimp only at hB4
  subst hB4
  have hcb2 : w4.cell? ⟨gb, ob, none⟩ = some (.int .u8 ((ev a x).toNat : Int)) := hcb
  clear hcb
  go_wp2_with fail
  refine (atR H4.out (a := a) (na := 40) (by simp) _ rfl (by decide) _ x rfl).mono ?_
  rintro e w5 ⟨rfl, h⟩
  have H5 := Lib.hid h
  clear h
  go_wp2_with fail
  refine (div0R H5.out (b := b) (nb := 40) (by simp) _ _ rfl (by decide) HB0.out).mono ?_
  rintro e w6 ⟨rfl, h⟩
  have H6 := Lib.hid h
  clear h
  go_wp2_with fail
  refine (degR H6.out (a := b) (na := 40) (by simp) _ rfl (by decide)).mono ?_
  rintro e w7 ⟨rfl, h⟩
  rw [show (len b : Int) - 1 = -1 from by have := HB0.out; omega]
  have H7 := Lib.hid h
  clear h
  go_wp2_with fail
  refine (works_any _).mono ?_
  rintro e w8 ⟨rfl, hb⟩
  have H8 := Lib.hid (PS.keep H7.out hb)
  clear hb
  go_wp2_with fail
  go_ret
  exact ⟨rfl, PS.below H8.out⟩
set_option maxRecDepth 100000 in
set_option maxHeartbeats 4000000 in
theorem divides_10 (w : World) (A : Option Addr) (a : List UInt8) (ca : Nat) (hca : a.length ≤ ca) (hA : Bytes w w.heap.size A a) (B : Option Addr) (b : List UInt8) (cb : Nat) (hcb : b.length ≤ cb) (hB : Bytes w w.heap.size B b) (x : UInt8) (h : a.length ≤ 40 ∧ b.length ≤ 40) (ha : ev a x = 0) (hb : len b ≠ 0) :
    Calls Try.prog 6 #[.slice A a.length ca, .slice B b.length cb, .int .u8 (x.toNat : Int)] w fun e w' => e = .returned (.bool true) ∧ Below w.heap.size w w' := by
  have hs0 : ¬ (40 : Int) < (a.length : Int) := by omega
  have hs1 : ¬ (40 : Int) < (b.length : Int) := by omega
  have H0 := Lib.hid (((PB.start w).arg 40 hB hcb h.2).arg 40 hA hca h.1)
  have HA0 := Lib.hid (show trim [ev a x] = [] from by rw [ha]; rfl)
  have HEV := Lib.hid (show ev a x = 0 from ha)
  have HB0 := Lib.hid hb
  clear h hA hB ha hb
  go_enter Try.func6, Try.ntmps6
  go_wp2_with fail
  refine (newP H0.out).mono ?_
  rintro e w1 ⟨rfl, h⟩
  have H1 := Lib.hid h
  clear h
  have hb2 := build2 w1 ((x.toNat : Int)) (1)
  have L2 := Lib.hid (show PS _ _ (⟨some ⟨w1.heap.size, 0, none⟩, [x, 1], 2, 2⟩ :: _) (w1.alloc (.cells #[.int .u8 (x.toNat : Int), .int .u8 1] 5)) from lit2 (H1.out) x 1)
  go_wp2_with fail
  generalize (w1.alloc (.cells #[.int .u8 (x.toNat : Int), .int .u8 1] 5)) = w3 at *
  have H3 := L2
  clear hb2 L2
  go_wp2_with fail
  refine (divR H3.out (a := a) (na := 40) (by simp) _ rfl (b := [x, 1]) (nb := 2) (by simp) _ rfl (by decide) (by decide) (by rw [len_lin]; decide) 40 (by decide)).mono ?_
  rintro e w4 ⟨q4, r4, A4, c4, B4, d4, hd, rfl, h⟩
  have e1 := (rest_value hd).trans HA0.out
  rw [e1] at h ⊢
  clear e1 hd
  have H4 := Lib.hid h
  clear h
  go_wp2_with fail
  refine (atR H4.out (a := a) (na := 40) (by simp) _ rfl (by decide) _ x rfl).mono ?_
  rintro e w5 ⟨rfl, h⟩
  rw [HEV.out]
  have H5 := Lib.hid h
  clear h
  go_wp2_with fail
  refine (divR H5.out (a := a) (na := 40) (by simp) _ rfl (b := b) (nb := 40) (by simp) _ rfl (by decide) (by decide) HB0.out 40 (by decide)).mono ?_
  rintro e w6 ⟨q6, r6, A6, c6, B6, d6, hd, rfl, h⟩
  have HD := Lib.hid hd
  clear hd
  have H6 := Lib.hid h
  clear h
  go_wp2_with fail
  refine (mulR H6.out (a := trim q6) (na := 40) (by simp) _ rfl (b := b) (nb := 40) (by simp) _ rfl (by decide) 80 (by decide)).mono ?_
  rintro e w7 ⟨A7, c7, rfl, h⟩
  have H7 := Lib.hid h
  clear h
  go_wp2_with fail
  refine (addR H7.out (a := trim (mulP (trim q6) b)) (na := 80) (by simp) _ rfl (b := trim r6) (nb := 40) (by simp) _ rfl (by decide) (by decide) 80 (by decide)).mono ?_
  rintro e w8 ⟨A8, c8, rfl, h⟩
  rw [show trim (add (trim (mulP (trim q6) b)) (trim r6)) = trim a from trim_congr ((add_congr ((trim_eqv _).trans (mulP_left (trim_eqv _) b)) (trim_eqv _)).trans HD.out.1.symm)] at h ⊢
  have H8 := Lib.hid h
  clear h
  go_wp2_with fail
  refine (trimR H8.out (a := a) (na := 40) (by simp) _ rfl (by decide)).mono ?_
  rintro e w9 ⟨A9, c9, rfl, h⟩
  have H9 := Lib.hid h
  clear h
  go_wp2_with fail
  refine (sameR H9.out (a := trim a) (na := 80) (by simp) _ (by first | rfl | simp) (b := trim a) (nb := 40) (by simp) _ (by first | rfl | simp) true (sameB_yes rfl)).mono ?_
  rintro e w' ⟨rfl, rfl⟩
  go_wp2_with fail
  refine (degR H9.out (a := trim r6) (na := 40) (by simp) _ rfl (by decide)).mono ?_
  rintro e w10 ⟨rfl, h⟩
  rw [show len (trim r6) = len r6 from len_congr (trim_eqv _)]
  have H10 := Lib.hid h
  clear h
  go_wp2_with fail
  refine (degR H10.out (a := b) (na := 40) (by simp) _ rfl (by decide)).mono ?_
  rintro e w11 ⟨rfl, h⟩
  have hlt : (len r6 : Int) - 1 < (len b : Int) - 1 := by have := HD.out.2; omega
  have H11 := Lib.hid h
  clear h
  go_wp2_with fail
  refine (works_any _).mono ?_
  rintro e w12 ⟨rfl, hb⟩
  have H12 := Lib.hid (PS.keep H11.out hb)
  clear hb
  go_wp2_with fail
  go_ret
  exact ⟨rfl, PS.below H12.out⟩
set_option maxRecDepth 100000 in
set_option maxHeartbeats 4000000 in
theorem divides_11 (w : World) (A : Option Addr) (a : List UInt8) (ca : Nat) (hca : a.length ≤ ca) (hA : Bytes w w.heap.size A a) (B : Option Addr) (b : List UInt8) (cb : Nat) (hcb : b.length ≤ cb) (hB : Bytes w w.heap.size B b) (x : UInt8) (h : a.length ≤ 40 ∧ b.length ≤ 40) (ha : ev a x = 0) (hb : len b = 0) :
    Calls Try.prog 6 #[.slice A a.length ca, .slice B b.length cb, .int .u8 (x.toNat : Int)] w fun e w' => e = .returned (.bool true) ∧ Below w.heap.size w w' := by
  have hs0 : ¬ (40 : Int) < (a.length : Int) := by omega
  have hs1 : ¬ (40 : Int) < (b.length : Int) := by omega
  have H0 := Lib.hid (((PB.start w).arg 40 hB hcb h.2).arg 40 hA hca h.1)
  have HA0 := Lib.hid (show trim [ev a x] = [] from by rw [ha]; rfl)
  have HEV := Lib.hid (show ev a x = 0 from ha)
  have HB0 := Lib.hid hb
  clear h hA hB ha hb
  go_enter Try.func6, Try.ntmps6
  go_wp2_with fail
  refine (newP H0.out).mono ?_
  rintro e w1 ⟨rfl, h⟩
  have H1 := Lib.hid h
  clear h
  have hb2 := build2 w1 ((x.toNat : Int)) (1)
  have L2 := Lib.hid (show PS _ _ (⟨some ⟨w1.heap.size, 0, none⟩, [x, 1], 2, 2⟩ :: _) (w1.alloc (.cells #[.int .u8 (x.toNat : Int), .int .u8 1] 5)) from lit2 (H1.out) x 1)
  go_wp2_with fail
  generalize (w1.alloc (.cells #[.int .u8 (x.toNat : Int), .int .u8 1] 5)) = w3 at *
  have H3 := L2
  clear hb2 L2
  go_wp2_with fail
  refine (divR H3.out (a := a) (na := 40) (by simp) _ rfl (b := [x, 1]) (nb := 2) (by simp) _ rfl (by decide) (by decide) (by rw [len_lin]; decide) 40 (by decide)).mono ?_
  rintro e w4 ⟨q4, r4, A4, c4, B4, d4, hd, rfl, h⟩
  have e1 := (rest_value hd).trans HA0.out
  rw [e1] at h ⊢
  clear e1 hd
  have H4 := Lib.hid h
  clear h
  go_wp2_with fail
  refine (atR H4.out (a := a) (na := 40) (by simp) _ rfl (by decide) _ x rfl).mono ?_
  rintro e w5 ⟨rfl, h⟩
  rw [HEV.out]
  have H5 := Lib.hid h
  clear h
  go_wp2_with fail
  refine (div0R H5.out (b := b) (nb := 40) (by simp) _ _ rfl (by decide) HB0.out).mono ?_
  rintro e w6 ⟨rfl, h⟩
  have H6 := Lib.hid h
  clear h
  go_wp2_with fail
  refine (degR H6.out (a := b) (na := 40) (by simp) _ rfl (by decide)).mono ?_
  rintro e w7 ⟨rfl, h⟩
  rw [show (len b : Int) - 1 = -1 from by have := HB0.out; omega]
  have H7 := Lib.hid h
  clear h
  go_wp2_with fail
  refine (works_any _).mono ?_
  rintro e w8 ⟨rfl, hb⟩
  have H8 := Lib.hid (PS.keep H7.out hb)
  clear hb
  go_wp2_with fail
  go_ret
  exact ⟨rfl, PS.below H8.out⟩
theorem divides_any (w : World) (A : Option Addr) (a : List UInt8) (ca : Nat) (hca : a.length ≤ ca) (hA : Bytes w w.heap.size A a) (B : Option Addr) (b : List UInt8) (cb : Nat) (hcb : b.length ≤ cb) (hB : Bytes w w.heap.size B b) (x : UInt8) :
    Calls Try.prog 6 #[.slice A a.length ca, .slice B b.length cb, .int .u8 (x.toNat : Int)] w fun e w' => e = .returned (.bool true) ∧ Below w.heap.size w w' := by
  by_cases hs0 : a.length ≤ 40
  · skip
    by_cases hs1 : b.length ≤ 40
    · skip
      by_cases ha : ev a x = 0
      · by_cases hb : len b = 0
        · exact divides_11 w A a ca hca hA B b cb hcb hB x ⟨hs0, hs1⟩ ha hb
        · exact divides_10 w A a ca hca hA B b cb hcb hB x ⟨hs0, hs1⟩ ha hb
      · by_cases hb : len b = 0
        · exact divides_01 w A a ca hca hA B b cb hcb hB x ⟨hs0, hs1⟩ ha hb
        · exact divides_00 w A a ca hca hA B b cb hcb hB x ⟨hs0, hs1⟩ ha hb
    · exact polydivides_big1 w A a ca hca hA B b cb hcb hB x (by omega)
  · exact polydivides_big0 w A a ca hca hA B b cb hcb hB x (by omega)
theorem divides_law (w : World) (A : Option Addr) (a : List UInt8) (ca : Nat) (hca : a.length ≤ ca) (_ : ca ≤ maxLen) (hA : Bytes w w.heap.size A a) (B : Option Addr) (b : List UInt8) (cb : Nat) (hcb : b.length ≤ cb) (_ : cb ≤ maxLen) (hB : Bytes w w.heap.size B b) (x : UInt8) :
    Calls Try.prog 6 #[.slice A a.length ca, .slice B b.length cb, .int .u8 (x.toNat : Int)] w fun e w' => e = .returned (.bool true) ∧ Below w.heap.size w w' := by
  exact divides_any w A a ca hca hA B b cb hcb hB x
end Go.Proofs.Ytciilojlfaihjaa.PlW
