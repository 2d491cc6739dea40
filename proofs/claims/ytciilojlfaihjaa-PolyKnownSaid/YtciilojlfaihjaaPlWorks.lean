/- The examples of chapter 04 hold. -/
import Derived.Test.YtciilojlfaihjaaPlSt
namespace Go.Proofs.Ytciilojlfaihjaa.PlW
open Go.RowKit Mem Gf FdW Pl Rng
set_option linter.unusedVariables false

theorem divOk_eq {a b q r q' r' : List UInt8} (h : DivOk a b q r) (e : add (mulP q' b) r' = a) (hl : len r' < len b) : trim q = trim q' ∧ trim r = trim r' := by
  have := div_only h ⟨by rw [e]; exact Eqv.refl _, hl⟩
  exact ⟨trim_congr this.1, trim_congr this.2⟩
theorem works_div {q r : List UInt8} (h : DivOk [1, 0, 1] [1, 1] q r) : trim q = [1, 1] ∧ trim r = [] :=
  divOk_eq (q' := [1, 1]) (r' := []) h (by decide +kernel) (by decide +kernel)
theorem works_good : Good [0, 1] [7, 6] := ⟨rfl, by decide⟩
theorem works_thr {P : List UInt8} (h : ThrOk [0, 1] [7, 6] P) (ht : trim P = P) : P = [7, 1] := by
  have := thr_only (xs := [0, 1]) (ys := [7, 6]) (by decide) rfl h (p' := [7, 1]) ⟨by decide +kernel, fun i hi _ => by
    match i, hi with
    | 0, _ => show ev [7, 1] 0 = 7; decide +kernel
    | 1, _ => show ev [7, 1] 1 = 6; decide +kernel⟩
  rw [← ht, trim_congr this]; rfl
set_option maxRecDepth 100000 in
set_option maxHeartbeats 4000000 in
theorem works_any (w : World) : Calls Try.prog 12 #[] w fun e w' => e = .returned (.bool true) ∧ Below w.heap.size w w' := by
  have H0 := Lib.hid (PB.start w)
  go_enter Try.func12, Try.ntmps12
  go_wp2_with fail
  refine (newP H0.out).mono ?_
  rintro e w1 ⟨rfl, h⟩
  have H1 := Lib.hid h
  clear h
  have hb2 := build3 w1 (1) (0) (1)
  have L2 := Lib.hid (show PS _ _ (⟨some ⟨w1.heap.size, 0, none⟩, [1, 0, 1], 3, 3⟩ :: _) (w1.alloc (.cells #[.int .u8 1, .int .u8 0, .int .u8 1] 5)) from lit3 (H1.out) 1 0 1)
  have hb3 := build2 (w1.alloc (.cells #[.int .u8 1, .int .u8 0, .int .u8 1] 5)) (1) (1)
  have L3 := Lib.hid (show PS _ _ (⟨some ⟨w1.heap.size + 1, 0, none⟩, [1, 1], 2, 2⟩ :: _) ((w1.alloc (.cells #[.int .u8 1, .int .u8 0, .int .u8 1] 5)).alloc (.cells #[.int .u8 1, .int .u8 1] 5)) from by have h := lit2 (L2.out) 1 1; simp only [World.size_alloc] at h; exact h)
  go_wp2_with fail
  generalize ((w1.alloc (.cells #[.int .u8 1, .int .u8 0, .int .u8 1] 5)).alloc (.cells #[.int .u8 1, .int .u8 1] 5)) = w4 at *
  have H4 := L3
  clear hb2 hb3 L2 L3
  go_wp2_with fail
  refine (divR H4.out (a := [1, 0, 1]) (na := 3) (by simp) _ rfl (b := [1, 1]) (nb := 2) (by simp) _ rfl (by decide) (by decide) (by decide +kernel) 3 (by decide)).mono ?_
  rintro e w5 ⟨q5, r5, A5, c5, B5, d5, hd, rfl, h⟩
  have e1 := works_div hd
  rw [e1.1, e1.2] at h ⊢
  clear hd e1
  have H5 := Lib.hid h
  clear h
  have hb6 := build1 w5 (5)
  have L6 := Lib.hid (show PS _ _ (⟨some ⟨w5.heap.size, 0, none⟩, [5], 1, 1⟩ :: _) (w5.alloc (.cells #[.int .u8 5] 5)) from lit1 (H5.out) 5)
  go_wp2_with fail
  generalize (w5.alloc (.cells #[.int .u8 5] 5)) = w7 at *
  have H7 := L6
  clear hb6 L6
  have HN := Lib.hid H7.out.nilR
  go_wp2_with fail
  refine (div0R HN.out (b := []) (nb := 0) (by simp) _ _ rfl (by decide) (by decide +kernel)).mono ?_
  rintro e w8 ⟨rfl, h⟩
  have H8 := Lib.hid h
  clear h
  have hb9 := build2 w8 (0) (1)
  have L9 := Lib.hid (show PS _ _ (⟨some ⟨w8.heap.size, 0, none⟩, [0, 1], 2, 2⟩ :: _) (w8.alloc (.cells #[.int .u8 0, .int .u8 1] 5)) from lit2 (H8.out) 0 1)
  have hb10 := build2 (w8.alloc (.cells #[.int .u8 0, .int .u8 1] 5)) (7) (6)
  have L10 := Lib.hid (show PS _ _ (⟨some ⟨w8.heap.size + 1, 0, none⟩, [7, 6], 2, 2⟩ :: _) ((w8.alloc (.cells #[.int .u8 0, .int .u8 1] 5)).alloc (.cells #[.int .u8 7, .int .u8 6] 5)) from by have h := lit2 (L9.out) 7 6; simp only [World.size_alloc] at h; exact h)
  go_wp2_with fail
  generalize ((w8.alloc (.cells #[.int .u8 0, .int .u8 1] 5)).alloc (.cells #[.int .u8 7, .int .u8 6] 5)) = w11 at *
  have H11 := L10
  clear hb9 hb10 L9 L10
  go_wp2_with fail
  refine (thrR H11.out (a := [0, 1]) (na := 2) (by simp) _ rfl (b := [7, 6]) (nb := 2) (by simp) _ rfl (by decide) works_good 2 (by decide)).mono ?_
  rintro e w12 ⟨P12, A12, c12, hd, ht, rfl, h⟩
  have e1 := works_thr hd ht
  subst e1
  clear hd ht
  have H12 := Lib.hid h
  clear h
  have hb13 := build3 w12 (1) (2) (3)
  have L13 := Lib.hid (show PS _ _ (⟨some ⟨w12.heap.size, 0, none⟩, [1, 2, 3], 3, 3⟩ :: _) (w12.alloc (.cells #[.int .u8 1, .int .u8 2, .int .u8 3] 5)) from lit3 (H12.out) 1 2 3)
  have hb14 := build3 (w12.alloc (.cells #[.int .u8 1, .int .u8 2, .int .u8 3] 5)) (1) (0) (3)
  have L14 := Lib.hid (show PS _ _ (⟨some ⟨w12.heap.size + 1, 0, none⟩, [1, 0, 3], 3, 3⟩ :: _) ((w12.alloc (.cells #[.int .u8 1, .int .u8 2, .int .u8 3] 5)).alloc (.cells #[.int .u8 1, .int .u8 0, .int .u8 3] 5)) from by have h := lit3 (L13.out) 1 0 3; simp only [World.size_alloc] at h; exact h)
  go_wp2_with fail
  generalize ((w12.alloc (.cells #[.int .u8 1, .int .u8 2, .int .u8 3] 5)).alloc (.cells #[.int .u8 1, .int .u8 0, .int .u8 3] 5)) = w15 at *
  have H15 := L14
  clear hb13 hb14 L13 L14
  go_wp2_with fail
  refine (addR H15.out (a := [1, 2, 3]) (na := 3) (by simp) _ rfl (b := [1, 0, 3]) (nb := 3) (by simp) _ rfl (by decide) (by decide) 3 (by decide)).mono ?_
  rintro e w16 ⟨A16, c16, rfl, h⟩
  rw [show trim (add [1, 2, 3] [1, 0, 3]) = [0, 2] from by decide +kernel] at h ⊢
  have H16 := Lib.hid h
  clear h
  have hb17 := build2 w16 (0) (2)
  have L17 := Lib.hid (show PS _ _ (⟨some ⟨w16.heap.size, 0, none⟩, [0, 2], 2, 2⟩ :: _) (w16.alloc (.cells #[.int .u8 0, .int .u8 2] 5)) from lit2 (H16.out) 0 2)
  go_wp2_with fail
  generalize (w16.alloc (.cells #[.int .u8 0, .int .u8 2] 5)) = w18 at *
  have H18 := L17
  clear hb17 L17
  go_wp2_with fail
  refine (sameR H18.out (a := [0, 2]) (na := 3) (by simp) _ (by first | rfl | simp) (b := [0, 2]) (nb := 2) (by simp) _ (by first | rfl | simp) true (sameB_yes rfl)).mono ?_
  rintro e w' ⟨rfl, rfl⟩
  have hb19 := build2 w18 (1) (1)
  have L19 := Lib.hid (show PS _ _ (⟨some ⟨w18.heap.size, 0, none⟩, [1, 1], 2, 2⟩ :: _) (w18.alloc (.cells #[.int .u8 1, .int .u8 1] 5)) from lit2 (H18.out) 1 1)
  have hb20 := build2 (w18.alloc (.cells #[.int .u8 1, .int .u8 1] 5)) (1) (1)
  have L20 := Lib.hid (show PS _ _ (⟨some ⟨w18.heap.size + 1, 0, none⟩, [1, 1], 2, 2⟩ :: _) ((w18.alloc (.cells #[.int .u8 1, .int .u8 1] 5)).alloc (.cells #[.int .u8 1, .int .u8 1] 5)) from by have h := lit2 (L19.out) 1 1; simp only [World.size_alloc] at h; exact h)
  go_wp2_with fail
  generalize ((w18.alloc (.cells #[.int .u8 1, .int .u8 1] 5)).alloc (.cells #[.int .u8 1, .int .u8 1] 5)) = w21 at *
  have H21 := L20
  clear hb19 hb20 L19 L20
  go_wp2_with fail
  refine (mulR H21.out (a := [1, 1]) (na := 2) (by simp) _ rfl (b := [1, 1]) (nb := 2) (by simp) _ rfl (by decide) 4 (by decide)).mono ?_
  rintro e w22 ⟨A22, c22, rfl, h⟩
  rw [show trim (mulP [1, 1] [1, 1]) = [1, 0, 1] from by decide +kernel] at h ⊢
  have H22 := Lib.hid h
  clear h
  have hb23 := build3 w22 (1) (0) (1)
  have L23 := Lib.hid (show PS _ _ (⟨some ⟨w22.heap.size, 0, none⟩, [1, 0, 1], 3, 3⟩ :: _) (w22.alloc (.cells #[.int .u8 1, .int .u8 0, .int .u8 1] 5)) from lit3 (H22.out) 1 0 1)
  go_wp2_with fail
  generalize (w22.alloc (.cells #[.int .u8 1, .int .u8 0, .int .u8 1] 5)) = w24 at *
  have H24 := L23
  clear hb23 L23
  go_wp2_with fail
  refine (sameR H24.out (a := [1, 0, 1]) (na := 4) (by simp) _ (by first | rfl | simp) (b := [1, 0, 1]) (nb := 3) (by simp) _ (by first | rfl | simp) true (sameB_yes rfl)).mono ?_
  rintro e w' ⟨rfl, rfl⟩
  have hb25 := build3 w24 (5) (0) (0)
  have L25 := Lib.hid (show PS _ _ (⟨some ⟨w24.heap.size, 0, none⟩, [5, 0, 0], 3, 3⟩ :: _) (w24.alloc (.cells #[.int .u8 5, .int .u8 0, .int .u8 0] 5)) from lit3 (H24.out) 5 0 0)
  go_wp2_with fail
  generalize (w24.alloc (.cells #[.int .u8 5, .int .u8 0, .int .u8 0] 5)) = w26 at *
  have H26 := L25
  clear hb25 L25
  go_wp2_with fail
  refine (degR H26.out (a := [5, 0, 0]) (na := 3) (by simp) _ rfl (by decide)).mono ?_
  rintro e w27 ⟨rfl, h⟩
  rw [show ((len [5, 0, 0] : Nat) : Int) - 1 = 0 from by decide +kernel]
  have H27 := Lib.hid h
  clear h
  have hb28 := build2 w27 (1) (1)
  have L28 := Lib.hid (show PS _ _ (⟨some ⟨w27.heap.size, 0, none⟩, [1, 1], 2, 2⟩ :: _) (w27.alloc (.cells #[.int .u8 1, .int .u8 1] 5)) from lit2 (H27.out) 1 1)
  go_wp2_with fail
  generalize (w27.alloc (.cells #[.int .u8 1, .int .u8 1] 5)) = w29 at *
  have H29 := L28
  clear hb28 L28
  go_wp2_with fail
  refine (sameR H29.out (a := [1, 1]) (na := 3) (by simp) _ (by first | rfl | simp) (b := [1, 1]) (nb := 2) (by simp) _ (by first | rfl | simp) true (sameB_yes rfl)).mono ?_
  rintro e w' ⟨rfl, rfl⟩
  have hb30 := build3 w29 (1) (0) (1)
  have L30 := Lib.hid (show PS _ _ (⟨some ⟨w29.heap.size, 0, none⟩, [1, 0, 1], 3, 3⟩ :: _) (w29.alloc (.cells #[.int .u8 1, .int .u8 0, .int .u8 1] 5)) from lit3 (H29.out) 1 0 1)
  go_wp2_with fail
  generalize (w29.alloc (.cells #[.int .u8 1, .int .u8 0, .int .u8 1] 5)) = w31 at *
  have H31 := L30
  clear hb30 L30
  go_wp2_with fail
  refine (atR H31.out (a := [1, 0, 1]) (na := 3) (by simp) _ rfl (by decide) _ 2 rfl).mono ?_
  rintro e w32 ⟨rfl, h⟩
  rw [show (((ev [1, 0, 1] 2).toNat : Nat) : Int) = 5 from by decide +kernel]
  have H32 := Lib.hid h
  clear h
  have hb33 := build2 w32 (2) (3)
  have L33 := Lib.hid (show PS _ _ (⟨some ⟨w32.heap.size, 0, none⟩, [2, 3], 2, 2⟩ :: _) (w32.alloc (.cells #[.int .u8 2, .int .u8 3] 5)) from lit2 (H32.out) 2 3)
  go_wp2_with fail
  generalize (w32.alloc (.cells #[.int .u8 2, .int .u8 3] 5)) = w34 at *
  have H34 := L33
  clear hb33 L33
  go_wp2_with fail
  refine (rootsR H34.out (a := [2, 3]) (na := 2) (by simp) _ rfl (by decide) 3 (by decide)).mono ?_
  rintro e w35 ⟨A35, c35, rfl, h⟩
  rw [show trim (rootsP [2, 3]) = [6, 1, 1] from by decide +kernel] at h ⊢
  have H35 := Lib.hid h
  clear h
  have hb36 := build3 w35 (6) (1) (1)
  have L36 := Lib.hid (show PS _ _ (⟨some ⟨w35.heap.size, 0, none⟩, [6, 1, 1], 3, 3⟩ :: _) (w35.alloc (.cells #[.int .u8 6, .int .u8 1, .int .u8 1] 5)) from lit3 (H35.out) 6 1 1)
  go_wp2_with fail
  generalize (w35.alloc (.cells #[.int .u8 6, .int .u8 1, .int .u8 1] 5)) = w37 at *
  have H37 := L36
  clear hb36 L36
  go_wp2_with fail
  refine (sameR H37.out (a := [6, 1, 1]) (na := 3) (by simp) _ (by first | rfl | simp) (b := [6, 1, 1]) (nb := 3) (by simp) _ (by first | rfl | simp) true (sameB_yes rfl)).mono ?_
  rintro e w' ⟨rfl, rfl⟩
  have hb38 := build2 w37 (7) (1)
  have L38 := Lib.hid (show PS _ _ (⟨some ⟨w37.heap.size, 0, none⟩, [7, 1], 2, 2⟩ :: _) (w37.alloc (.cells #[.int .u8 7, .int .u8 1] 5)) from lit2 (H37.out) 7 1)
  go_wp2_with fail
  generalize (w37.alloc (.cells #[.int .u8 7, .int .u8 1] 5)) = w39 at *
  have H39 := L38
  clear hb38 L38
  go_wp2_with fail
  refine (sameR H39.out (a := [7, 1]) (na := 2) (by simp) _ (by first | rfl | simp) (b := [7, 1]) (nb := 2) (by simp) _ (by first | rfl | simp) true (sameB_yes rfl)).mono ?_
  rintro e w' ⟨rfl, rfl⟩
  go_wp2_with fail
  go_ret
  exact ⟨rfl, H39.out.below⟩
end Go.Proofs.Ytciilojlfaihjaa.PlW
