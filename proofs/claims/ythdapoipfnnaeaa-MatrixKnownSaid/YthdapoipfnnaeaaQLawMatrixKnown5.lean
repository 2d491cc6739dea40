/- Texts of a claim, one behind another. -/
import Derived.Test.YthdapoipfnnaeaaSq
import Derived.Test.YthdapoipfnnaeaaSq3
import Derived.Test.YthdapoipfnnaeaaQLawMatrixKnown4
import Derived.Test.YthdapoipfnnaeaaTwo
import Derived.Test.YthdapoipfnnaeaaOpenMx
import Derived.Test.YthdapoipfnnaeaaOpen
set_option linter.unusedSimpArgs false
set_option linter.unusedVariables false
/- The law MatrixOne: its walk. -/
namespace Go.Proofs.Ythdapoipfnnaeaa.MxW
open Go.RowKit Go.Shelf Mem Gf FdW Mx Rng
open PlW (In)
set_option linter.unusedVariables false
set_option linter.unusedSectionVars false
attribute [local go_sem] Oper.semAt_some wide_fn
set_option maxRecDepth 100000 in
set_option maxHeartbeats 40000000 in
theorem one_rect (w : World)  (Rm Cm : Int) (M : Option Addr) (lm : List UInt8) (nm cm : Nat) (hlm : lm.length = nm) (hM : Bytes w w.heap.size M lm) (hcm : lm.length ≤ cm) (hs : smallB 12 Rm Cm nm = true) (r c : Nat) (hd : Rm = (r : Int) ∧ Cm = (c : Int)) (hb : r ≤ 100 ∧ c ≤ 100) (hnm : nm = r * c) (hne : r ≠ c) :
    Calls Try.prog 8 #[.agg #[.int .i64 Rm, .int .i64 Cm, .slice M nm cm]] w fun e w' => e = .returned (.bool true) ∧ Below w.heap.size w w' := by
 have H0 := Lib.hid (((MS.start w).nilR).arg hM hcm)
 have HLNm := Lib.hid hlm
 have HSm := Lib.hid hs
 have HM := Lib.hid hd
 have HD := Lib.hid hb
 have HNM := Lib.hid hnm
 have HMM := Lib.hid (show lm = flat r c (ent lm c) from (flat_ent (hlm.trans hnm)).symm)
 have HR := Lib.hid (show rightB Rm Cm nm = true from by rw [hd.1, hd.2]; exact right_dim hb hnm)
 have HNE := Lib.hid hne
 have HRQ := Lib.hid (show (rightB Rm Cm nm && Rm == Cm) = false from by rw [hd.1, hd.2, Bool.and_eq_false_iff]; right; simp; omega)
 clear hM hcm hlm hs hd hb hnm hne
 go_enter Try.func8, Try.ntmps8
 have L1 := Lib.hid (H0.out.put #[.int .i64 Rm, .int .i64 Cm, .slice M nm cm])
 obtain ⟨a2, b2, d2⟩ := L1.out.cells mm0
 go_wp2_with fail
 clear a2 b2 d2
 have H1 := L1
 clear L1
 generalize (w.alloc (.cells #[.int .i64 Rm, .int .i64 Cm, .slice M nm cm] 27)) = w1 at *
 refine (smallR H1.out 12 (by decide) (v := true) HSm.out).mono ?_
 rintro e w2 ⟨rfl, h⟩
 have H2 := Lib.hid h
 clear h
 go_wp2_with fail
 refine (newR H2.out).mono ?_
 rintro e w3 ⟨rfl, h⟩
 have H3 := Lib.hid h
 clear h
 obtain ⟨a3, b3, d3⟩ := H3.out.cells mm0
 go_wp2_with fail
 clear a3 b3 d3
 refine (copiedR H3.out mm0 HLNm.out).mono ?_
 rintro e w4 ⟨A4, c4, rfl, h⟩
 have H4 := Lib.hid h
 clear h
 have L4 := Lib.hid (H4.out.put #[.int .i64 Rm, .int .i64 Cm, .slice A4 nm c4])
 obtain ⟨a5, b5, d5⟩ := L4.out.cells mm0
 go_wp2_with fail
 clear a5 b5 d5
 have H5 := L4
 clear L4
 generalize (w4.alloc (.cells #[.int .i64 Rm, .int .i64 Cm, .slice A4 nm c4] 27)) = w5 at *
 refine (turnR H5.out (r := r) (c := c) mm0 HNM.out HM.out HD.out HMM.out c r (c * r) ⟨rfl, rfl, rfl⟩ rfl).mono ?_
 rintro e w6 ⟨A6, c6, rfl, h⟩
 have H6 := Lib.hid h
 clear h
 have L6 := Lib.hid (H6.out.put #[.int .i64 (c : Int), .int .i64 (r : Int), .slice A6 (c * r) c6])
 obtain ⟨a7, b7, d7⟩ := L6.out.cells mm2
 go_wp2_with fail
 clear a7 b7 d7
 have H7 := L6
 clear L6
 generalize (w6.alloc (.cells #[.int .i64 (c : Int), .int .i64 (r : Int), .slice A6 (c * r) c6] 27)) = w7 at *
 refine (plainR H7.out ).mono ?_
 rintro e w8 ⟨rfl, h⟩
 have H8 := Lib.hid h
 clear h
 go_wp2_with fail
 refine (rturnR H8.out (r := r) (c := c) mm2 HNM.out HM.out HD.out HMM.out c r (c * r) ⟨rfl, rfl, rfl⟩ rfl).mono ?_
 rintro e w9 ⟨A9, c9, rfl, h⟩
 have H9 := Lib.hid h
 clear h
 have L8 := Lib.hid (H9.out.putT #[.int .i64 (c : Int), .int .i64 (r : Int), .slice A9 (c * r) c9] 38)
 obtain ⟨a9, b9, d9⟩ := L8.out.cells mm2
 go_wp2_with fail
 clear a9 b9 d9
 have H10 := L8
 clear L8
 generalize (w9.alloc (.cells #[.int .i64 (c : Int), .int .i64 (r : Int), .slice A9 (c * r) c9] 38)) = w10 at *
 refine (rankR H10.out (r := r) (c := c) mm2 HNM.out HM.out HD.out HMM.out _ rfl).mono ?_
 rintro e w11 ⟨rfl, h⟩
 have H11 := Lib.hid h
 clear h
 obtain ⟨a10, b10, d10⟩ := H11.out.cells mm3
 go_wp2_with fail
 clear a10 b10 d10
 refine (plainR H11.out ).mono ?_
 rintro e w12 ⟨rfl, h⟩
 have H12 := Lib.hid h
 clear h
 go_wp2_with fail
 refine (rrankR H12.out (r := r) (c := c) mm3 HNM.out HM.out HD.out HMM.out _ rfl).mono ?_
 rintro e w13 ⟨rfl, h⟩
 have H13 := Lib.hid h
 clear h
 go_wp2_with fail
 refine wp_region_noPanic ?_
 refine wp_heldG (fun w' => (w'.cell? ⟨w6.heap.size, 0, none⟩ = some (.int .i64 (c : Int)) ∧ w'.cell? ⟨w6.heap.size, 1, none⟩ = some (.int .i64 (r : Int)) ∧ w'.cell? ⟨w6.heap.size, 2, none⟩ = some (.slice A6 (c * r) c6)) ∧ (w'.cell? ⟨w9.heap.size, 0, none⟩ = some (.int .i64 (c : Int)) ∧ w'.cell? ⟨w9.heap.size, 1, none⟩ = some (.int .i64 (r : Int)) ∧ w'.cell? ⟨w9.heap.size, 2, none⟩ = some (.slice A9 (c * r) c9)) ∧ (w'.cell? ⟨w4.heap.size, 0, none⟩ = some (.int .i64 Rm) ∧ w'.cell? ⟨w4.heap.size, 1, none⟩ = some (.int .i64 Cm) ∧ w'.cell? ⟨w4.heap.size, 2, none⟩ = some (.slice A4 nm c4)) ∧ (w'.cell? ⟨w.heap.size, 0, none⟩ = some (.int .i64 Rm) ∧ w'.cell? ⟨w.heap.size, 1, none⟩ = some (.int .i64 Cm) ∧ w'.cell? ⟨w.heap.size, 2, none⟩ = some (.slice M nm cm))) [] (by kernel_rfl) ?hs0 ?rg0
 case hs0 =>
  have h := H13.out.keep (nextN (Mem.start w13) 1)
  exact ⟨h.cells mm1, h.cells mm0, h.cells mm2, h.cells mm3⟩
 case rg0 =>
 intro hHeld
 have HD13 := Lib.hid (show MS _ _ _ _ w13.drew from H13.out.keep (nextN (Mem.start w13) 1))
 generalize w13.drew = wd13 at *
 refine pu 0 ?_
 refine pu 1 ?_
 refine pu 2 ?_
 refine pu 3 ?_
 refine tk 4 rfl (by intro w hSw; obtain ⟨⟨ka0, ka1, ka2⟩, ⟨kb0, kb1, kb2⟩, ⟨kown0, kown1, kown2⟩, ⟨km0, km1, km2⟩⟩ := hSw; go_simp; try with_reducible rfl) ?_
 refine tk 5 rfl (by intro w hSw; obtain ⟨⟨ka0, ka1, ka2⟩, ⟨kb0, kb1, kb2⟩, ⟨kown0, kown1, kown2⟩, ⟨km0, km1, km2⟩⟩ := hSw; go_simp; try with_reducible rfl) ?_
 refine on 6 rfl fun K hK => ?_
 go_simp
 refine (lsameR HD13.out mm1 (flat_len _ _ _) mm0 (flat_len _ _ _) (v := true) (sameB_self _ _ _)).mono ?_
 rintro e w14 ⟨rfl, h⟩
 have H14 := Lib.hid h
 clear h
 try dsimp only
 refine hK.out _ _ (fun _ => have h := H14.out; ⟨h.cells mm1, h.cells mm0, h.cells mm2, h.cells mm3⟩) fun hHeld => ?_
 clear hK K
 try simp only [pU, pU0, pA, pB, pC]
 have hHeld := hHeld (by kernel_rfl)
 refine pu 7 ?_
 refine pu 8 ?_
 refine pu 9 ?_
 refine pu 10 ?_
 refine pu 11 ?_
 refine pu 12 ?_
 refine pu 13 ?_
 refine pu 14 ?_
 refine pu 15 ?_
 refine pu 16 ?_
 refine pu 17 ?_
 refine pu 18 ?_
 refine pu 19 ?_
 refine tk 20 rfl (by intro w hSw; obtain ⟨⟨ka0, ka1, ka2⟩, ⟨kb0, kb1, kb2⟩, ⟨kown0, kown1, kown2⟩, ⟨km0, km1, km2⟩⟩ := hSw; go_simp; try with_reducible rfl) ?_
 refine tk 22 rfl (by intro w hSw; obtain ⟨⟨ka0, ka1, ka2⟩, ⟨kb0, kb1, kb2⟩, ⟨kown0, kown1, kown2⟩, ⟨km0, km1, km2⟩⟩ := hSw; go_simp; try with_reducible rfl) ?_
 refine on 21 rfl fun K hK => ?_
 go_simp
 refine (rightR H14.out HR.out).mono ?_
 rintro e w15 ⟨rfl, h⟩
 have H15 := Lib.hid h
 clear h
 try dsimp only
 refine hK.out _ _ (fun _ => have h := H15.out; ⟨h.cells mm1, h.cells mm0, h.cells mm2, h.cells mm3⟩) fun hHeld => ?_
 clear hK K
 try simp only [pU, pU0, pA, pB, pC]
 have hHeld := hHeld (by kernel_rfl)
 refine on 23 rfl fun K hK => ?_
 go_simp
 refine (plainR H15.out ).mono ?_
 rintro e w16 ⟨rfl, h⟩
 have H16 := Lib.hid h
 clear h
 try dsimp only
 refine hK.out _ _ (fun _ => have h := H16.out; ⟨h.cells mm1, h.cells mm0, h.cells mm2, h.cells mm3⟩) fun hHeld => ?_
 clear hK K
 try simp only [pU, pU0, pA, pB, pC]
 have hHeld := hHeld (by kernel_rfl)
 refine on 24 rfl fun K hK => ?_
 go_simp
 refine (rrightR H16.out HR.out).mono ?_
 rintro e w17 ⟨rfl, h⟩
 have H17 := Lib.hid h
 clear h
 try dsimp only
 refine hK.out _ _ (fun _ => have h := H17.out; ⟨h.cells mm1, h.cells mm0, h.cells mm2, h.cells mm3⟩) fun hHeld => ?_
 clear hK K
 try simp only [pU, pU0, pA, pB, pC]
 have hHeld := hHeld (by kernel_rfl)
 refine pu 25 ?_
 refine pu 26 ?_
 refine wpAnyG_done (by kernel_rfl) ?_ _
 refine NoPanic.normal ?_
 obtain ⟨a11, b11, d11⟩ := H17.out.cells mm2
 go_wp2_with fail
 clear a11 b11 d11
 refine (inv0R H17.out _ HRQ.out).mono ?_
 rintro e w18 ⟨rfl, h⟩
 have H18 := Lib.hid h
 clear h
 have L12 := Lib.hid (H18.out.put #[.int .i64 0, .int .i64 0, .slice none 0 0])
 obtain ⟨a13, b13, d13⟩ := L12.out.cells mm4
 go_wp2_with fail
 clear a13 b13 d13
 have H19 := L12
 clear L12
 generalize (w18.alloc (.cells #[.int .i64 0, .int .i64 0, .slice none 0 0] 27)) = w19 at *
 refine (plainR H19.out ).mono ?_
 rintro e w20 ⟨rfl, h⟩
 have H20 := Lib.hid h
 clear h
 go_wp2_with fail
 refine (rinv0R H20.out HRQ.out).mono ?_
 rintro e w21 ⟨rfl, h⟩
 have H21 := Lib.hid h
 clear h
 have L14 := Lib.hid (H21.out.putT #[.int .i64 0, .int .i64 0, .slice none 0 0] 38)
 obtain ⟨a15, b15, d15⟩ := L14.out.cells mm4
 go_wp2_with fail
 clear a15 b15 d15
 have H22 := L14
 clear L14
 generalize (w21.alloc (.cells #[.int .i64 0, .int .i64 0, .slice none 0 0] 38)) = w22 at *
 refine (pack1R H22.out (r := r) (c := c) mm2 HNM.out HM.out HD.out HMM.out (same_rect HNE.out _ _)).mono ?_
 rintro e w23 ⟨rfl, h⟩
 have H23 := Lib.hid h
 clear h
 obtain ⟨a16, b16, d16⟩ := H23.out.cells mm5
 go_wp2_with fail
 clear a16 b16 d16
 refine (plainR H23.out ).mono ?_
 rintro e w24 ⟨rfl, h⟩
 have H24 := Lib.hid h
 clear h
 go_wp2_with fail
 refine (rpack0R H24.out HRQ.out).mono ?_
 rintro e w25 ⟨rfl, h⟩
 have H25 := Lib.hid h
 clear h
 obtain ⟨a17, b17, d17⟩ := H25.out.cells mm1
 obtain ⟨a18, b18, d18⟩ := H25.out.cells mm0
 go_wp2_with fail
 clear a17 b17 d17 a18 b18 d18
 refine (lsameR H25.out mm4 rfl mm4 rfl (v := true) (sameB_self _ _ _)).mono ?_
 rintro e w26 ⟨rfl, h⟩
 have H26 := Lib.hid h
 clear h
 go_wp2_with fail
 refine (sameBytesR H26.out mm4 rfl mm4 rfl (v := true) (decide_eq_true rfl)).mono ?_
 rintro e w' ⟨rfl, rfl⟩
 obtain ⟨a19, b19, d19⟩ := H26.out.cells mm4
 obtain ⟨a20, b20, d20⟩ := H26.out.cells mm5
 go_wp2_with fail
 clear a19 b19 d19 a20 b20 d20
 refine (sameR H26.out mm2 HLNm.out mm3 HLNm.out (v := true) (sameB_self _ _ _)).mono ?_
 rintro e w27 ⟨rfl, h⟩
 have H27 := Lib.hid h
 clear h
 go_wp2_with fail
 refine (works_any _).mono ?_
 rintro e w28 ⟨rfl, hb⟩
 have H28 := Lib.hid (MS.keep H27.out hb)
 clear hb
 go_wp2_with fail
 go_ret
 exact ⟨rfl, H28.out.below⟩
end Go.Proofs.Ythdapoipfnnaeaa.MxW
/- The law MatrixOne: its walk. -/
namespace Go.Proofs.Ythdapoipfnnaeaa.MxW
open Go.RowKit Go.Shelf Mem Gf FdW Mx Rng
open PlW (In)
set_option linter.unusedVariables false
set_option linter.unusedSectionVars false
attribute [local go_sem] Oper.semAt_some wide_fn
set_option maxRecDepth 100000 in
set_option maxHeartbeats 40000000 in
theorem one_sq (w : World)  (Rm Cm : Int) (M : Option Addr) (lm : List UInt8) (nm cm : Nat) (hlm : lm.length = nm) (hM : Bytes w w.heap.size M lm) (hcm : lm.length ≤ cm) (hs : smallB 12 Rm Cm nm = true) (r : Nat) (hd : Rm = (r : Int) ∧ Cm = (r : Int)) (hb : r ≤ 100 ∧ r ≤ 100) (hnm : nm = r * r) :
    Calls Try.prog 8 #[.agg #[.int .i64 Rm, .int .i64 Cm, .slice M nm cm]] w fun e w' => e = .returned (.bool true) ∧ Below w.heap.size w w' := by
 have H0 := Lib.hid (((MS.start w).nilR).arg hM hcm)
 have HLNm := Lib.hid hlm
 have HSm := Lib.hid hs
 have HM := Lib.hid hd
 have HD := Lib.hid hb
 have HNM := Lib.hid hnm
 have HMM := Lib.hid (show lm = flat r r (ent lm r) from (flat_ent (hlm.trans hnm)).symm)
 have HR := Lib.hid (show rightB Rm Cm nm = true from by rw [hd.1, hd.2]; exact right_dim hb hnm)
 clear hM hcm hlm hs hd hb hnm
 go_enter Try.func8, Try.ntmps8
 have L1 := Lib.hid (H0.out.put #[.int .i64 Rm, .int .i64 Cm, .slice M nm cm])
 obtain ⟨a2, b2, d2⟩ := L1.out.cells mm0
 go_wp2_with fail
 clear a2 b2 d2
 have H1 := L1
 clear L1
 generalize (w.alloc (.cells #[.int .i64 Rm, .int .i64 Cm, .slice M nm cm] 27)) = w1 at *
 refine (smallR H1.out 12 (by decide) (v := true) HSm.out).mono ?_
 rintro e w2 ⟨rfl, h⟩
 have H2 := Lib.hid h
 clear h
 go_wp2_with fail
 refine (newR H2.out).mono ?_
 rintro e w3 ⟨rfl, h⟩
 have H3 := Lib.hid h
 clear h
 obtain ⟨a3, b3, d3⟩ := H3.out.cells mm0
 go_wp2_with fail
 clear a3 b3 d3
 refine (copiedR H3.out mm0 HLNm.out).mono ?_
 rintro e w4 ⟨A4, c4, rfl, h⟩
 have H4 := Lib.hid h
 clear h
 have L4 := Lib.hid (H4.out.put #[.int .i64 Rm, .int .i64 Cm, .slice A4 nm c4])
 obtain ⟨a5, b5, d5⟩ := L4.out.cells mm0
 go_wp2_with fail
 clear a5 b5 d5
 have H5 := L4
 clear L4
 generalize (w4.alloc (.cells #[.int .i64 Rm, .int .i64 Cm, .slice A4 nm c4] 27)) = w5 at *
 refine (turnR H5.out (r := r) (c := r) mm0 HNM.out HM.out HD.out HMM.out r r (r * r) ⟨rfl, rfl, rfl⟩ rfl).mono ?_
 rintro e w6 ⟨A6, c6, rfl, h⟩
 have H6 := Lib.hid h
 clear h
 have L6 := Lib.hid (H6.out.put #[.int .i64 (r : Int), .int .i64 (r : Int), .slice A6 (r * r) c6])
 obtain ⟨a7, b7, d7⟩ := L6.out.cells mm2
 go_wp2_with fail
 clear a7 b7 d7
 have H7 := L6
 clear L6
 generalize (w6.alloc (.cells #[.int .i64 (r : Int), .int .i64 (r : Int), .slice A6 (r * r) c6] 27)) = w7 at *
 refine (plainR H7.out ).mono ?_
 rintro e w8 ⟨rfl, h⟩
 have H8 := Lib.hid h
 clear h
 go_wp2_with fail
 refine (rturnR H8.out (r := r) (c := r) mm2 HNM.out HM.out HD.out HMM.out r r (r * r) ⟨rfl, rfl, rfl⟩ rfl).mono ?_
 rintro e w9 ⟨A9, c9, rfl, h⟩
 have H9 := Lib.hid h
 clear h
 have L8 := Lib.hid (H9.out.putT #[.int .i64 (r : Int), .int .i64 (r : Int), .slice A9 (r * r) c9] 38)
 obtain ⟨a9, b9, d9⟩ := L8.out.cells mm2
 go_wp2_with fail
 clear a9 b9 d9
 have H10 := L8
 clear L8
 generalize (w9.alloc (.cells #[.int .i64 (r : Int), .int .i64 (r : Int), .slice A9 (r * r) c9] 38)) = w10 at *
 refine (rankR H10.out (r := r) (c := r) mm2 HNM.out HM.out HD.out HMM.out _ rfl).mono ?_
 rintro e w11 ⟨rfl, h⟩
 have H11 := Lib.hid h
 clear h
 obtain ⟨a10, b10, d10⟩ := H11.out.cells mm3
 go_wp2_with fail
 clear a10 b10 d10
 refine (plainR H11.out ).mono ?_
 rintro e w12 ⟨rfl, h⟩
 have H12 := Lib.hid h
 clear h
 go_wp2_with fail
 refine (rrankR H12.out (r := r) (c := r) mm3 HNM.out HM.out HD.out HMM.out _ rfl).mono ?_
 rintro e w13 ⟨rfl, h⟩
 have H13 := Lib.hid h
 clear h
 go_wp2_with fail
 refine wp_region_noPanic ?_
 refine wp_heldG (fun w' => (w'.cell? ⟨w6.heap.size, 0, none⟩ = some (.int .i64 (r : Int)) ∧ w'.cell? ⟨w6.heap.size, 1, none⟩ = some (.int .i64 (r : Int)) ∧ w'.cell? ⟨w6.heap.size, 2, none⟩ = some (.slice A6 (r * r) c6)) ∧ (w'.cell? ⟨w9.heap.size, 0, none⟩ = some (.int .i64 (r : Int)) ∧ w'.cell? ⟨w9.heap.size, 1, none⟩ = some (.int .i64 (r : Int)) ∧ w'.cell? ⟨w9.heap.size, 2, none⟩ = some (.slice A9 (r * r) c9)) ∧ (w'.cell? ⟨w4.heap.size, 0, none⟩ = some (.int .i64 Rm) ∧ w'.cell? ⟨w4.heap.size, 1, none⟩ = some (.int .i64 Cm) ∧ w'.cell? ⟨w4.heap.size, 2, none⟩ = some (.slice A4 nm c4)) ∧ (w'.cell? ⟨w.heap.size, 0, none⟩ = some (.int .i64 Rm) ∧ w'.cell? ⟨w.heap.size, 1, none⟩ = some (.int .i64 Cm) ∧ w'.cell? ⟨w.heap.size, 2, none⟩ = some (.slice M nm cm))) [] (by kernel_rfl) ?hs0 ?rg0
 case hs0 =>
  have h := H13.out.keep (nextN (Mem.start w13) 1)
  exact ⟨h.cells mm1, h.cells mm0, h.cells mm2, h.cells mm3⟩
 case rg0 =>
 intro hHeld
 have HD13 := Lib.hid (show MS _ _ _ _ w13.drew from H13.out.keep (nextN (Mem.start w13) 1))
 generalize w13.drew = wd13 at *
 refine pu 0 ?_
 refine pu 1 ?_
 refine pu 2 ?_
 refine pu 3 ?_
 refine tk 4 rfl (by intro w hSw; obtain ⟨⟨ka0, ka1, ka2⟩, ⟨kb0, kb1, kb2⟩, ⟨kown0, kown1, kown2⟩, ⟨km0, km1, km2⟩⟩ := hSw; go_simp; try with_reducible rfl) ?_
 refine tk 5 rfl (by intro w hSw; obtain ⟨⟨ka0, ka1, ka2⟩, ⟨kb0, kb1, kb2⟩, ⟨kown0, kown1, kown2⟩, ⟨km0, km1, km2⟩⟩ := hSw; go_simp; try with_reducible rfl) ?_
 refine on 6 rfl fun K hK => ?_
 go_simp
 refine (lsameR HD13.out mm1 (flat_len _ _ _) mm0 (flat_len _ _ _) (v := true) (sameB_self _ _ _)).mono ?_
 rintro e w14 ⟨rfl, h⟩
 have H14 := Lib.hid h
 clear h
 try dsimp only
 refine hK.out _ _ (fun _ => have h := H14.out; ⟨h.cells mm1, h.cells mm0, h.cells mm2, h.cells mm3⟩) fun hHeld => ?_
 clear hK K
 try simp only [pU, pU0, pA, pB, pC]
 have hHeld := hHeld (by kernel_rfl)
 refine pu 7 ?_
 refine pu 8 ?_
 refine pu 9 ?_
 refine pu 10 ?_
 refine pu 11 ?_
 refine pu 12 ?_
 refine pu 13 ?_
 refine pu 14 ?_
 refine pu 15 ?_
 refine pu 16 ?_
 refine pu 17 ?_
 refine pu 18 ?_
 refine pu 19 ?_
 refine tk 20 rfl (by intro w hSw; obtain ⟨⟨ka0, ka1, ka2⟩, ⟨kb0, kb1, kb2⟩, ⟨kown0, kown1, kown2⟩, ⟨km0, km1, km2⟩⟩ := hSw; go_simp; try with_reducible rfl) ?_
 refine tk 22 rfl (by intro w hSw; obtain ⟨⟨ka0, ka1, ka2⟩, ⟨kb0, kb1, kb2⟩, ⟨kown0, kown1, kown2⟩, ⟨km0, km1, km2⟩⟩ := hSw; go_simp; try with_reducible rfl) ?_
 refine on 21 rfl fun K hK => ?_
 go_simp
 refine (rightR H14.out HR.out).mono ?_
 rintro e w15 ⟨rfl, h⟩
 have H15 := Lib.hid h
 clear h
 try dsimp only
 refine hK.out _ _ (fun _ => have h := H15.out; ⟨h.cells mm1, h.cells mm0, h.cells mm2, h.cells mm3⟩) fun hHeld => ?_
 clear hK K
 try simp only [pU, pU0, pA, pB, pC]
 have hHeld := hHeld (by kernel_rfl)
 refine on 23 rfl fun K hK => ?_
 go_simp
 refine (plainR H15.out ).mono ?_
 rintro e w16 ⟨rfl, h⟩
 have H16 := Lib.hid h
 clear h
 try dsimp only
 refine hK.out _ _ (fun _ => have h := H16.out; ⟨h.cells mm1, h.cells mm0, h.cells mm2, h.cells mm3⟩) fun hHeld => ?_
 clear hK K
 try simp only [pU, pU0, pA, pB, pC]
 have hHeld := hHeld (by kernel_rfl)
 refine on 24 rfl fun K hK => ?_
 go_simp
 refine (rrightR H16.out HR.out).mono ?_
 rintro e w17 ⟨rfl, h⟩
 have H17 := Lib.hid h
 clear h
 try dsimp only
 refine hK.out _ _ (fun _ => have h := H17.out; ⟨h.cells mm1, h.cells mm0, h.cells mm2, h.cells mm3⟩) fun hHeld => ?_
 clear hK K
 try simp only [pU, pU0, pA, pB, pC]
 have hHeld := hHeld (by kernel_rfl)
 refine pu 25 ?_
 refine pu 26 ?_
 refine wpAnyG_done (by kernel_rfl) ?_ _
 refine NoPanic.normal ?_
 obtain ⟨a11, b11, d11⟩ := H17.out.cells mm2
 go_wp2_with fail
 clear a11 b11 d11
 cases ht : solves r r r (ent lm r) idm with
 | false =>
  have HT := Lib.hid ht
  clear ht
  refine (inv1R H17.out (r := r) mm2 HNM.out HM.out HD.out.1 HMM.out HT.out).mono ?_
  rintro e w18 ⟨rfl, h⟩
  have H18 := Lib.hid h
  clear h
  have L12 := Lib.hid (H18.out.put #[.int .i64 0, .int .i64 0, .slice none 0 0])
  obtain ⟨a13, b13, d13⟩ := L12.out.cells mm4
  go_wp2_with fail
  clear a13 b13 d13
  have H19 := L12
  clear L12
  generalize (w18.alloc (.cells #[.int .i64 0, .int .i64 0, .slice none 0 0] 27)) = w19 at *
  refine (plainR H19.out ).mono ?_
  rintro e w20 ⟨rfl, h⟩
  have H20 := Lib.hid h
  clear h
  go_wp2_with fail
  refine (rinv1R H20.out (r := r) mm3 HNM.out HM.out HD.out.1 HMM.out HT.out).mono ?_
  rintro e w21 ⟨rfl, h⟩
  have H21 := Lib.hid h
  clear h
  have L14 := Lib.hid (H21.out.putT #[.int .i64 0, .int .i64 0, .slice none 0 0] 38)
  obtain ⟨a15, b15, d15⟩ := L14.out.cells mm4
  go_wp2_with fail
  clear a15 b15 d15
  have H22 := L14
  clear L14
  generalize (w21.alloc (.cells #[.int .i64 0, .int .i64 0, .slice none 0 0] 38)) = w22 at *
  cases hy : symB r (ent lm r) with
  | false =>
   have HY := Lib.hid hy
   clear hy
   refine (pack1R H22.out (r := r) (c := r) mm2 HNM.out HM.out HD.out HMM.out (same_sq _ _ HY.out)).mono ?_
   rintro e w23 ⟨rfl, h⟩
   have H23 := Lib.hid h
   clear h
   obtain ⟨a16, b16, d16⟩ := H23.out.cells mm5
   go_wp2_with fail
   clear a16 b16 d16
   refine (plainR H23.out ).mono ?_
   rintro e w24 ⟨rfl, h⟩
   have H24 := Lib.hid h
   clear h
   go_wp2_with fail
   refine (rpack1R H24.out (r := r) mm3 HNM.out HM.out HD.out.1 HMM.out HY.out).mono ?_
   rintro e w25 ⟨rfl, h⟩
   have H25 := Lib.hid h
   clear h
   obtain ⟨a17, b17, d17⟩ := H25.out.cells mm1
   obtain ⟨a18, b18, d18⟩ := H25.out.cells mm0
   go_wp2_with fail
   clear a17 b17 d17 a18 b18 d18
   refine (lsameR H25.out mm4 rfl mm4 rfl (v := true) (sameB_self _ _ _)).mono ?_
   rintro e w26 ⟨rfl, h⟩
   have H26 := Lib.hid h
   clear h
   go_wp2_with fail
   refine (sameBytesR H26.out mm4 rfl mm4 rfl (v := true) (decide_eq_true rfl)).mono ?_
   rintro e w' ⟨rfl, rfl⟩
   obtain ⟨a19, b19, d19⟩ := H26.out.cells mm4
   obtain ⟨a20, b20, d20⟩ := H26.out.cells mm5
   go_wp2_with fail
   clear a19 b19 d19 a20 b20 d20
   refine (sameR H26.out mm2 HLNm.out mm3 HLNm.out (v := true) (sameB_self _ _ _)).mono ?_
   rintro e w27 ⟨rfl, h⟩
   have H27 := Lib.hid h
   clear h
   go_wp2_with fail
   refine (works_any _).mono ?_
   rintro e w28 ⟨rfl, hb⟩
   have H28 := Lib.hid (MS.keep H27.out hb)
   clear hb
   go_wp2_with fail
   go_ret
   exact ⟨rfl, H28.out.below⟩
  | true =>
   have HY := Lib.hid hy
   clear hy
   refine (packdR H22.out (r := r) mm2 HNM.out HM.out HD.out.1 HMM.out ((symB_iff _ _).1 HY.out) _ rfl rfl).mono ?_
   rintro e w23 ⟨A23, c23, rfl, h⟩
   have H23 := Lib.hid h
   clear h
   obtain ⟨a16, b16, d16⟩ := H23.out.cells mm5
   go_wp2_with fail
   clear a16 b16 d16
   refine (plainR H23.out ).mono ?_
   rintro e w24 ⟨rfl, h⟩
   have H24 := Lib.hid h
   clear h
   go_wp2_with fail
   refine (rpackdR H24.out (r := r) mm4 HNM.out HM.out HD.out.1 HMM.out HY.out _ rfl rfl).mono ?_
   rintro e w25 ⟨A25, c25, rfl, h⟩
   have H25 := Lib.hid h
   clear h
   obtain ⟨a17, b17, d17⟩ := H25.out.cells mm1
   obtain ⟨a18, b18, d18⟩ := H25.out.cells mm0
   go_wp2_with fail
   clear a17 b17 d17 a18 b18 d18
   refine (lsameR H25.out mm6 rfl mm6 rfl (v := true) (sameB_self _ _ _)).mono ?_
   rintro e w26 ⟨rfl, h⟩
   have H26 := Lib.hid h
   clear h
   go_wp2_with fail
   refine (sameBytesR H26.out mm1 (packS_len _ _ _) mm0 (packS_len _ _ _) (v := true) (decide_eq_true rfl)).mono ?_
   rintro e w' ⟨rfl, rfl⟩
   obtain ⟨a19, b19, d19⟩ := H26.out.cells mm4
   obtain ⟨a20, b20, d20⟩ := H26.out.cells mm5
   go_wp2_with fail
   clear a19 b19 d19 a20 b20 d20
   refine (sameR H26.out mm4 HLNm.out mm5 HLNm.out (v := true) (sameB_self _ _ _)).mono ?_
   rintro e w27 ⟨rfl, h⟩
   have H27 := Lib.hid h
   clear h
   go_wp2_with fail
   refine (works_any _).mono ?_
   rintro e w28 ⟨rfl, hb⟩
   have H28 := Lib.hid (MS.keep H27.out hb)
   clear hb
   go_wp2_with fail
   go_ret
   exact ⟨rfl, H28.out.below⟩
 | true =>
  have HT := Lib.hid ht
  clear ht
  refine (invR H17.out (r := r) mm2 HNM.out HM.out HD.out.1 HMM.out HT.out r (r * r) ⟨rfl, rfl⟩ rfl).mono ?_
  rintro e w18 ⟨A18, c18, rfl, h⟩
  have H18 := Lib.hid h
  clear h
  have L12 := Lib.hid (H18.out.put #[.int .i64 (r : Int), .int .i64 (r : Int), .slice A18 (r * r) c18])
  obtain ⟨a13, b13, d13⟩ := L12.out.cells mm4
  go_wp2_with fail
  clear a13 b13 d13
  have H19 := L12
  clear L12
  generalize (w18.alloc (.cells #[.int .i64 (r : Int), .int .i64 (r : Int), .slice A18 (r * r) c18] 27)) = w19 at *
  refine (plainR H19.out ).mono ?_
  rintro e w20 ⟨rfl, h⟩
  have H20 := Lib.hid h
  clear h
  go_wp2_with fail
  refine (rinvR H20.out (r := r) mm4 HNM.out HM.out HD.out.1 HMM.out HT.out r (r * r) ⟨rfl, rfl⟩ rfl).mono ?_
  rintro e w21 ⟨A21, c21, rfl, h⟩
  have H21 := Lib.hid h
  clear h
  have L14 := Lib.hid (H21.out.putT #[.int .i64 (r : Int), .int .i64 (r : Int), .slice A21 (r * r) c21] 38)
  obtain ⟨a15, b15, d15⟩ := L14.out.cells mm4
  go_wp2_with fail
  clear a15 b15 d15
  have H22 := L14
  clear L14
  generalize (w21.alloc (.cells #[.int .i64 (r : Int), .int .i64 (r : Int), .slice A21 (r * r) c21] 38)) = w22 at *
  cases hy : symB r (ent lm r) with
  | false =>
   have HY := Lib.hid hy
   clear hy
   refine (pack1R H22.out (r := r) (c := r) mm4 HNM.out HM.out HD.out HMM.out (same_sq _ _ HY.out)).mono ?_
   rintro e w23 ⟨rfl, h⟩
   have H23 := Lib.hid h
   clear h
   obtain ⟨a16, b16, d16⟩ := H23.out.cells mm5
   go_wp2_with fail
   clear a16 b16 d16
   refine (plainR H23.out ).mono ?_
   rintro e w24 ⟨rfl, h⟩
   have H24 := Lib.hid h
   clear h
   go_wp2_with fail
   refine (rpack1R H24.out (r := r) mm5 HNM.out HM.out HD.out.1 HMM.out HY.out).mono ?_
   rintro e w25 ⟨rfl, h⟩
   have H25 := Lib.hid h
   clear h
   obtain ⟨a17, b17, d17⟩ := H25.out.cells mm1
   obtain ⟨a18, b18, d18⟩ := H25.out.cells mm0
   go_wp2_with fail
   clear a17 b17 d17 a18 b18 d18
   refine (lsameR H25.out mm1 (flat_len _ _ _) mm0 (flat_len _ _ _) (v := true) (sameB_self _ _ _)).mono ?_
   rintro e w26 ⟨rfl, h⟩
   have H26 := Lib.hid h
   clear h
   go_wp2_with fail
   refine (sameBytesR H26.out mm6 rfl mm6 rfl (v := true) (decide_eq_true rfl)).mono ?_
   rintro e w' ⟨rfl, rfl⟩
   obtain ⟨a19, b19, d19⟩ := H26.out.cells mm4
   obtain ⟨a20, b20, d20⟩ := H26.out.cells mm5
   go_wp2_with fail
   clear a19 b19 d19 a20 b20 d20
   refine (sameR H26.out mm4 HLNm.out mm5 HLNm.out (v := true) (sameB_self _ _ _)).mono ?_
   rintro e w27 ⟨rfl, h⟩
   have H27 := Lib.hid h
   clear h
   go_wp2_with fail
   refine (works_any _).mono ?_
   rintro e w28 ⟨rfl, hb⟩
   have H28 := Lib.hid (MS.keep H27.out hb)
   clear hb
   go_wp2_with fail
   go_ret
   exact ⟨rfl, H28.out.below⟩
  | true =>
   have HY := Lib.hid hy
   clear hy
   refine (packdR H22.out (r := r) mm4 HNM.out HM.out HD.out.1 HMM.out ((symB_iff _ _).1 HY.out) _ rfl rfl).mono ?_
   rintro e w23 ⟨A23, c23, rfl, h⟩
   have H23 := Lib.hid h
   clear h
   obtain ⟨a16, b16, d16⟩ := H23.out.cells mm5
   go_wp2_with fail
   clear a16 b16 d16
   refine (plainR H23.out ).mono ?_
   rintro e w24 ⟨rfl, h⟩
   have H24 := Lib.hid h
   clear h
   go_wp2_with fail
   refine (rpackdR H24.out (r := r) mm6 HNM.out HM.out HD.out.1 HMM.out HY.out _ rfl rfl).mono ?_
   rintro e w25 ⟨A25, c25, rfl, h⟩
   have H25 := Lib.hid h
   clear h
   obtain ⟨a17, b17, d17⟩ := H25.out.cells mm1
   obtain ⟨a18, b18, d18⟩ := H25.out.cells mm0
   go_wp2_with fail
   clear a17 b17 d17 a18 b18 d18
   refine (lsameR H25.out mm3 (flat_len _ _ _) mm2 (flat_len _ _ _) (v := true) (sameB_self _ _ _)).mono ?_
   rintro e w26 ⟨rfl, h⟩
   have H26 := Lib.hid h
   clear h
   go_wp2_with fail
   refine (sameBytesR H26.out mm1 (packS_len _ _ _) mm0 (packS_len _ _ _) (v := true) (decide_eq_true rfl)).mono ?_
   rintro e w' ⟨rfl, rfl⟩
   obtain ⟨a19, b19, d19⟩ := H26.out.cells mm4
   obtain ⟨a20, b20, d20⟩ := H26.out.cells mm5
   go_wp2_with fail
   clear a19 b19 d19 a20 b20 d20
   refine (sameR H26.out mm6 HLNm.out mm7 HLNm.out (v := true) (sameB_self _ _ _)).mono ?_
   rintro e w27 ⟨rfl, h⟩
   have H27 := Lib.hid h
   clear h
   go_wp2_with fail
   refine (works_any _).mono ?_
   rintro e w28 ⟨rfl, hb⟩
   have H28 := Lib.hid (MS.keep H27.out hb)
   clear hb
   go_wp2_with fail
   go_ret
   exact ⟨rfl, H28.out.below⟩
end Go.Proofs.Ythdapoipfnnaeaa.MxW
/- The law MatrixOne: its walk. -/
namespace Go.Proofs.Ythdapoipfnnaeaa.MxW
open Go.RowKit Go.Shelf Mem Gf FdW Mx Rng
open PlW (In)
set_option linter.unusedVariables false
set_option linter.unusedSectionVars false
attribute [local go_sem] Oper.semAt_some wide_fn
set_option maxRecDepth 100000 in
set_option maxHeartbeats 40000000 in
theorem one_far (w : World)  (Rm Cm : Int) (M : Option Addr) (lm : List UInt8) (nm cm : Nat) (hlm : lm.length = nm) (hM : Bytes w w.heap.size M lm) (hcm : lm.length ≤ cm) (hs : smallB 12 Rm Cm nm = false) :
    Calls Try.prog 8 #[.agg #[.int .i64 Rm, .int .i64 Cm, .slice M nm cm]] w fun e w' => e = .returned (.bool true) ∧ Below w.heap.size w w' := by
 have H0 := Lib.hid ((MS.start w).arg hM hcm)
 have HLNm := Lib.hid hlm
 have HSm := Lib.hid hs
 clear hM hcm hlm hs
 go_enter Try.func8, Try.ntmps8
 have L1 := Lib.hid (H0.out.put #[.int .i64 Rm, .int .i64 Cm, .slice M nm cm])
 obtain ⟨a2, b2, d2⟩ := L1.out.cells mm0
 go_wp2_with fail
 clear a2 b2 d2
 have H1 := L1
 clear L1
 generalize (w.alloc (.cells #[.int .i64 Rm, .int .i64 Cm, .slice M nm cm] 27)) = w1 at *
 refine (smallR H1.out 12 (by decide) (v := false) HSm.out).mono ?_
 rintro e w2 ⟨rfl, h⟩
 have H2 := Lib.hid h
 clear h
 go_wp2_with fail
 refine (works_any _).mono ?_
 rintro e w3 ⟨rfl, hb⟩
 have H3 := Lib.hid (MS.keep H2.out hb)
 clear hb
 go_wp2_with fail
 go_ret
 exact ⟨rfl, H3.out.below⟩
theorem one_law (w : World) (Rm Cm : Int) (M : Option Addr) (lm : List UInt8) (cm : Nat) (gm : Open.MtOk w Rm Cm M lm cm) :
    Calls Try.prog 8 #[.agg #[.int .i64 Rm, .int .i64 Cm, .slice M lm.length cm]] w fun e w' => e = .returned (.bool true) ∧ Below w.heap.size w w' := by
 cases hs : smallB 12 Rm Cm lm.length with
 | false => exact one_far w Rm Cm M lm _ cm rfl gm.row gm.le hs
 | true =>
 cases hr : rightB Rm Cm lm.length with
 | false => exact one_bad w Rm Cm M lm _ cm rfl gm.row gm.le hs hr
 | true =>
  have hk := of_decide_eq_true hs
  obtain ⟨r, c, h1, h2, _, _, e⟩ := right_nat hr
  by_cases hne : r = c
  ·subst hne
   exact one_sq w Rm Cm M lm _ cm rfl gm.row gm.le hs r ⟨h1, h2⟩ (by omega) e
  ·exact one_rect w Rm Cm M lm _ cm rfl gm.row gm.le hs r c ⟨h1, h2⟩ (by omega) e hne
end Go.Proofs.Ythdapoipfnnaeaa.MxW
/- Products and solutions, refused or not, in the program and in the document alike. -/
namespace Go.Proofs.Ythdapoipfnnaeaa.MxW
open Go.RowKit Go.Shelf Mem Gf FdW Mx Rng
open PlW (In)
set_option linter.unusedVariables false
set_option linter.unusedSectionVars false

/-- A matrix and what is told with it, refused or not. -/
def MatE (w0 : World) (p : Option Nat) (R : List Rw) (X : List (Nat × Array Value)) (r c : Int) (n : Nat) (l : List UInt8) (code : Int) (e : Ending) (w' : World) : Prop :=
 ∃ A cap, e = .returned (.tuple #[.agg #[.int .i64 r, .int .i64 c, .slice A n cap], .int .i64 code]) ∧ MS w0 p (⟨A, l, cap⟩ :: R) X w'
theorem MatR.e {w0 : World} {p : Option Nat} {R : List Rw} {X : List (Nat × Array Value)} {r c : Int} {n : Nat} {l : List UInt8} {e : Ending} {w' : World} (h : MatR w0 p R X r c n l e w') : MatE w0 p R X r c n l 0 e w' := h
theorem SayM.e {w0 : World} {p : Option Nat} {R : List Rw} {X : List (Nat × Array Value)} {code : Int} {e : Ending} {w' : World} (h : SayM w0 p R X (.tuple #[.agg #[.int .i64 0, .int .i64 0, .slice none 0 0], .int .i64 code]) e w') : MatE w0 p R X 0 0 0 [] code e w' := ⟨none, 0, h.1, h.2.nilR⟩
/-- What the product of two matrices is, in the program and in the document. -/
structure MulE (R1 C1 : Int) (n : Nat) (a : List UInt8) (R2 C2 : Int) (m : Nat) (b : List UInt8) (Ro Co : Int) (no : Nat) (l : List UInt8) (code : Int) : Prop where
 len : l.length = no
 prog : ∀ {w0 w : World} {q : Nat} {R : List Rw} {X : List (Nat × Array Value)} {A B : Option Addr} {ca cb : Nat}, MS w0 (some q) R X w → ⟨A, a, ca⟩ ∈ R → ⟨B, b, cb⟩ ∈ R →
  Calls Try.prog 18 #[fptr (some q), .agg #[.int .i64 R1, .int .i64 C1, .slice A n ca], .agg #[.int .i64 R2, .int .i64 C2, .slice B m cb]] w (MatE w0 (some q) R X Ro Co no l code)
 doc : ∀ {w0 w : World} {p : Option Nat} {R : List Rw} {X : List (Nat × Array Value)} {A B : Option Addr} {ca cb : Nat}, MS w0 p R X w → ⟨A, a, ca⟩ ∈ R → ⟨B, b, cb⟩ ∈ R →
  Calls Try.prog 19 #[.agg #[.int .i64 R1, .int .i64 C1, .slice A n ca], .agg #[.int .i64 R2, .int .i64 C2, .slice B m cb]] w (MatE w0 p R X Ro Co no l code)
structure SolE (R1 C1 : Int) (n : Nat) (a : List UInt8) (R2 C2 : Int) (m : Nat) (b : List UInt8) (Ro Co : Int) (no : Nat) (l : List UInt8) (code : Int) : Prop where
 len : l.length = no
 prog : ∀ {w0 w : World} {q : Nat} {R : List Rw} {X : List (Nat × Array Value)} {A B : Option Addr} {ca cb : Nat}, MS w0 (some q) R X w → ⟨A, a, ca⟩ ∈ R → ⟨B, b, cb⟩ ∈ R →
  Calls Try.prog 21 #[fptr (some q), .agg #[.int .i64 R1, .int .i64 C1, .slice A n ca], .agg #[.int .i64 R2, .int .i64 C2, .slice B m cb]] w (MatE w0 (some q) R X Ro Co no l code)
 doc : ∀ {w0 w : World} {p : Option Nat} {R : List Rw} {X : List (Nat × Array Value)} {A B : Option Addr} {ca cb : Nat}, MS w0 p R X w → ⟨A, a, ca⟩ ∈ R → ⟨B, b, cb⟩ ∈ R →
  Calls Try.prog 22 #[.agg #[.int .i64 R1, .int .i64 C1, .slice A n ca], .agg #[.int .i64 R2, .int .i64 C2, .slice B m cb]] w (MatE w0 p R X Ro Co no l code)
theorem mulE {R1 C1 R2 C2 : Int} {n m : Nat} {a b : List UInt8} (ha : a.length = n) (hb : b.length = m) (hd : R1 ≤ 100 ∧ C1 ≤ 100 ∧ R2 ≤ 100 ∧ C2 ≤ 100) : ∃ Ro Co no l code, MulE R1 C1 n a R2 C2 m b Ro Co no l code := by
 cases hm : mulB R1 C1 n R2 C2 m with
 | false => exact ⟨0, 0, 0, [], 50, rfl, fun h _ _ => (mul0R h hm).mono fun _ _ k => k.e, fun h _ _ => (rmul0R h hm).mono fun _ _ k => k.e⟩
 | true =>
  obtain ⟨r, c, d, h1, h2, h3, h4, h5, h6⟩ := mul_nat hm
  have hA : a = flat r c (ent a c) := (flat_ent (ha.trans h5)).symm
  have hB : b = flat c d (ent b d) := (flat_ent (hb.trans h6)).symm
  exact ⟨r, d, r * d, flat r d (mulM c (ent a c) (ent b d)), 0, flat_len _ _ _, fun h k1 k2 => (mulR h k1 k2 h5 h6 ⟨h1, h2, h3, h4⟩ (by omega) hA hB r d (r * d) ⟨rfl, rfl, rfl⟩ rfl).mono fun _ _ k => k.e,
   fun h k1 k2 => (rmulR h k1 k2 h5 h6 ⟨h1, h2, h3, h4⟩ (by omega) hA hB r d (r * d) ⟨rfl, rfl, rfl⟩ rfl).mono fun _ _ k => k.e⟩
theorem solE {R1 C1 R2 C2 : Int} {n m : Nat} {a b : List UInt8} (ha : a.length = n) (hb : b.length = m) (hd : R1 ≤ 100 ∧ C1 ≤ 100 ∧ R2 ≤ 100 ∧ C2 ≤ 100) : ∃ Ro Co no l code, SolE R1 C1 n a R2 C2 m b Ro Co no l code := by
 cases hm : solB R1 C1 n R2 C2 m with
 | false => exact ⟨0, 0, 0, [], 50, rfl, fun h _ _ => (solve0R h _ hm).mono fun _ _ k => k.e, fun h _ _ => (rsolve0R h hm).mono fun _ _ k => k.e⟩
 | true =>
  obtain ⟨r, c, d, h1, h2, h3, h4, h5, h6⟩ := sol_nat2 hm
  have hA : a = flat r c (ent a c) := (flat_ent (ha.trans h5)).symm
  have hB : b = flat r d (ent b d) := (flat_ent (hb.trans h6)).symm
  cases hs : solves r c d (ent a c) (ent b d) with
  | false => exact ⟨0, 0, 0, [], 51, rfl, fun h k1 k2 => (solve1R h k1 k2 h5 h6 ⟨h1, h2, h3, h4⟩ (by omega) hA hB hs).mono fun _ _ k => k.e, fun h k1 k2 => (rsolve1R h k1 k2 h5 h6 ⟨h1, h2, h3, h4⟩ (by omega) hA hB hs).mono fun _ _ k => k.e⟩
  | true => exact ⟨c, d, c * d, flat c d (redTo r (ent a c) (ent b d) c).B, 0, flat_len _ _ _, fun h k1 k2 => (solveR h k1 k2 h5 h6 ⟨h1, h2, h3, h4⟩ (by omega) hA hB hs c d (c * d) ⟨rfl, rfl, rfl⟩ rfl).mono fun _ _ k => k.e,
      fun h k1 k2 => (rsolveR h k1 k2 h5 h6 ⟨h1, h2, h3, h4⟩ (by omega) hA hB hs c d (c * d) ⟨rfl, rfl, rfl⟩ rfl).mono fun _ _ k => k.e⟩
end Go.Proofs.Ythdapoipfnnaeaa.MxW
/- The law MatrixTwo: its walk. -/
namespace Go.Proofs.Ythdapoipfnnaeaa.MxW
open Go.RowKit Go.Shelf Mem Gf FdW Mx Rng
open PlW (In)
set_option linter.unusedVariables false
set_option linter.unusedSectionVars false
attribute [local go_sem] Oper.semAt_some wide_fn
set_option maxRecDepth 100000 in
set_option maxHeartbeats 40000000 in
theorem two_in (w : World)  (Ra Ca : Int) (A : Option Addr) (la : List UInt8) (na ca : Nat) (hla : la.length = na) (hA : Bytes w w.heap.size A la) (hca : la.length ≤ ca) (Rb Cb : Int) (B : Option Addr) (lb : List UInt8) (nb cb : Nat) (hlb : lb.length = nb) (hB : Bytes w w.heap.size B lb) (hcb : lb.length ≤ cb) (hsa : smallB 12 Ra Ca na = true) (hsb : smallB 12 Rb Cb nb = true) (P1 P2 : Int) (pn : Nat) (lp : List UInt8) (pe : Int) (hmu : MulE Ra Ca na la Rb Cb nb lb P1 P2 pn lp pe) (S1 S2 : Int) (sn : Nat) (ls : List UInt8) (se : Int) (hso : SolE Ra Ca na la Rb Cb nb lb S1 S2 sn ls se) :
    Calls Try.prog 4 #[.agg #[.int .i64 Ra, .int .i64 Ca, .slice A na ca], .agg #[.int .i64 Rb, .int .i64 Cb, .slice B nb cb]] w fun e w' => e = .returned (.bool true) ∧ Below w.heap.size w w' := by
 have H0 := Lib.hid (((MS.start w).arg hA hca).arg hB hcb)
 have HLNa := Lib.hid hla
 have HLNb := Lib.hid hlb
 have HSa := Lib.hid hsa
 have HSb := Lib.hid hsb
 have HMU := Lib.hid hmu
 have HSO := Lib.hid hso
 clear hA hca hla hB hcb hlb hsa hsb hmu hso
 go_enter Try.func4, Try.ntmps4
 have L1 := Lib.hid (H0.out.put #[.int .i64 Ra, .int .i64 Ca, .slice A na ca])
 have L2 := Lib.hid (show MS _ _ _ ((w.heap.size + 1, #[.int .i64 Rb, .int .i64 Cb, .slice B nb cb]) :: _) ((w.alloc (.cells #[.int .i64 Ra, .int .i64 Ca, .slice A na ca] 27)).alloc (.cells #[.int .i64 Rb, .int .i64 Cb, .slice B nb cb] 27)) from by have h := L1.out.put #[.int .i64 Rb, .int .i64 Cb, .slice B nb cb]; (try simp only [World.size_alloc] at h); exact h)
 obtain ⟨a3, b3, d3⟩ := L2.out.cells mm1
 go_wp2_with fail
 clear a3 b3 d3
 have H1 := L2
 clear L1 L2
 generalize ((w.alloc (.cells #[.int .i64 Ra, .int .i64 Ca, .slice A na ca] 27)).alloc (.cells #[.int .i64 Rb, .int .i64 Cb, .slice B nb cb] 27)) = w1 at *
 refine (smallR H1.out 12 (by decide) (v := true) HSa.out).mono ?_
 rintro e w2 ⟨rfl, h⟩
 have H2 := Lib.hid h
 clear h
 obtain ⟨a4, b4, d4⟩ := H2.out.cells mm0
 go_wp2_with fail
 clear a4 b4 d4
 refine (smallR H2.out 12 (by decide) (v := true) HSb.out).mono ?_
 rintro e w3 ⟨rfl, h⟩
 have H3 := Lib.hid h
 clear h
 go_wp2_with fail
 refine (newR H3.out).mono ?_
 rintro e w4 ⟨rfl, h⟩
 have H4 := Lib.hid h
 clear h
 go_wp2_with fail
 obtain ⟨fq, hfq⟩ : ∃ x, w3.heap.size = x := ⟨_, rfl⟩
 rw [hfq] at H4 ⊢
 clear hfq
 apply via2_2 (H := fun (gjx : Nat) (gjy : Nat) (Ajx : Option Addr) (cjx : Nat) (Ajy : Option Addr) (cjy : Nat) W => MS w (some fq) [⟨Ajy, lb, cjy⟩, ⟨Ajx, la, cjx⟩, ⟨B, lb, cb⟩, ⟨A, la, ca⟩] [(gjy, #[.int .i64 Rb, .int .i64 Cb, .slice Ajy nb cjy]), (gjx, #[.int .i64 Ra, .int .i64 Ca, .slice Ajx na cjx]), (w.heap.size + 1, #[.int .i64 Rb, .int .i64 Cb, .slice B nb cb]), (w.heap.size, #[.int .i64 Ra, .int .i64 Ca, .slice A na ca])] W)
 case main =>
  intro REST
  refine wp_region_noPanic ?_
  refine wp_heldG (fun w' => (w'.cell? ⟨w.heap.size, 0, none⟩ = some (.int .i64 Ra) ∧ w'.cell? ⟨w.heap.size, 1, none⟩ = some (.int .i64 Ca) ∧ w'.cell? ⟨w.heap.size, 2, none⟩ = some (.slice A na ca)) ∧ (w'.cell? ⟨w.heap.size + 1, 0, none⟩ = some (.int .i64 Rb) ∧ w'.cell? ⟨w.heap.size + 1, 1, none⟩ = some (.int .i64 Cb) ∧ w'.cell? ⟨w.heap.size + 1, 2, none⟩ = some (.slice B nb cb))) [] (by kernel_rfl) ?hs0 ?rg0
  case hs0 =>
   have h := H4.out.keep (nextN (Mem.start w4) 1)
   exact ⟨h.cells mm1, h.cells mm0⟩
  case rg0 =>
  intro hHeld
  have HD4 := Lib.hid (show MS _ _ _ _ w4.drew from H4.out.keep (nextN (Mem.start w4) 1))
  generalize w4.drew = wd4 at *
  refine tk 0 rfl (by intro w hSw; obtain ⟨⟨k0, k1, k2⟩, ⟨l0, l1, l2⟩⟩ := hSw; go_simp; try with_reducible rfl) ?_
  refine tk 2 rfl (by intro w hSw; obtain ⟨⟨k0, k1, k2⟩, ⟨l0, l1, l2⟩⟩ := hSw; go_simp; try with_reducible rfl) ?_
  refine th 1 4 5 rfl rfl rfl (fun K hK => ?_) (fun K hK => ?_) fun K hK => ?_
  ·skip
   go_simp
   refine (copiedR HD4.out mm1 HLNa.out).mono ?_
   rintro e w5 ⟨A5, c5, rfl, h⟩
   have H5 := Lib.hid h
   clear h
   try dsimp only
   refine hK.out _ _ (fun _ => have h := H5.out; ⟨h.cells mm1, h.cells mm0⟩) fun hHeld => ?_
   clear hK K
   try simp only [pU, pU0, pA, pB, pC]
   have hHeld := hHeld (by kernel_rfl)
   refine th 3 4 5 rfl rfl rfl (fun K hK => ?_) (fun K hK => ?_) fun K hK => ?_
   ·skip
    go_simp
    refine (copiedR H5.out mm1 HLNb.out).mono ?_
    rintro e w6 ⟨A6, c6, rfl, h⟩
    have H6 := Lib.hid h
    clear h
    try dsimp only
    refine hK.out _ _ (fun _ => have h := H6.out; ⟨h.cells mm1, h.cells mm0⟩) fun hHeld => ?_
    clear hK K
    try simp only [pU, pU0, pA, pB, pC]
    have hHeld := hHeld (by kernel_rfl)
    refine tw 4 5 rfl rfl (fun K hK => ?_) fun K hK => ?_
    ·skip
     refine step_new (P := Try.prog) _ ⟨rfl, rfl, rfl⟩ newMx ?_
     have H7 := Lib.hid (H6.out.putT #[.int .i64 0, .int .i64 0, .slice none 0 0] 27)
     have HB7 := Lib.hid (And.intro H6.out.below.size H6.out.far)
     obtain ⟨g7, hg7⟩ : ∃ x, w6.heap.size = x := ⟨_, rfl⟩
     rw [hg7] at H7 HB7 ⊢
     clear hg7
     generalize w6.alloc (.cells #[.int .i64 0, .int .i64 0, .slice none 0 0] 27) = w7 at *
     try dsimp only
     refine hK.out _ _ (fun _ => have h := H7.out; ⟨h.cells mm2, h.cells mm1⟩) fun hHeld => ?_
     clear hK K
     try simp only [pU, pU0, pA, pB, pC]
     have hHeld := hHeld (by kernel_rfl)
     refine on 5 rfl fun K hK => ?_
     refine step_new (P := Try.prog) _ ⟨rfl, rfl, rfl⟩ newMx ?_
     have H8 := Lib.hid (H7.out.putT #[.int .i64 0, .int .i64 0, .slice none 0 0] 27)
     have HB8 := Lib.hid (And.intro H7.out.below.size H7.out.far)
     obtain ⟨g8, hg8⟩ : ∃ x, w7.heap.size = x := ⟨_, rfl⟩
     rw [hg8] at H8 HB8 ⊢
     clear hg8
     generalize w7.alloc (.cells #[.int .i64 0, .int .i64 0, .slice none 0 0] 27) = w8 at *
     try dsimp only
     refine hK.out _ _ (fun _ => have h := H8.out; ⟨h.cells mm3, h.cells mm2⟩) fun hHeld => ?_
     clear hK K
     try simp only [pU, pU0, pA, pB, pC]
     have hHeld := hHeld (by kernel_rfl)
     refine on 6 rfl fun K hK => ?_
     have HP9 := Lib.hid (H8.out.sub (fun _ h => h) (fc mm1 (fc mm0 (fc mm2 (fc mm3 fn0)))))
     obtain ⟨⟨z0, z1, z2⟩, f0, f1, f2⟩ := HP9.out.blk mm0
     go_simp
     have H9 := Lib.hid (HP9.out.set HB7.out.1 (fc (Ne.symm (HB8.out.2 (g7, #[.int .i64 0, .int .i64 0, .slice none 0 0]) mm0)) (fc (HB7.out.2 (w.heap.size + 1, #[.int .i64 Rb, .int .i64 Cb, .slice B nb cb]) mm0) (fc (HB7.out.2 (w.heap.size, #[.int .i64 Ra, .int .i64 Ca, .slice A na ca]) mm1) fn0))) (.int .i64 Ra) (.int .i64 Ca) (.slice A5 na c5))
     clear z0 z1 z2 f0 f1 f2 HP9
     generalize ((w8.setCell ⟨g7, 0, none⟩ (.int .i64 Ra)).setCell ⟨g7, 1, none⟩ (.int .i64 Ca)).setCell ⟨g7, 2, none⟩ (.slice A5 na c5) = w9 at *
     try dsimp only
     refine hK.out _ _ (fun _ => have h := H9.out; ⟨h.cells mm3, h.cells mm2⟩) fun hHeld => ?_
     clear hK K
     try simp only [pU, pU0, pA, pB, pC]
     have hHeld := hHeld (by kernel_rfl)
     refine on 7 rfl fun K hK => ?_
     have HP10 := Lib.hid (H9.out.sub (fun _ h => h) (fc mm1 (fc mm0 (fc mm2 (fc mm3 fn0)))))
     obtain ⟨⟨z0, z1, z2⟩, f0, f1, f2⟩ := HP10.out.blk mm0
     go_simp
     have H10 := Lib.hid (HP10.out.set HB8.out.1 (fc (HB8.out.2 (g7, #[.int .i64 0, .int .i64 0, .slice none 0 0]) mm0) (fc (HB8.out.2 (w.heap.size + 1, #[.int .i64 Rb, .int .i64 Cb, .slice B nb cb]) mm1) (fc (HB8.out.2 (w.heap.size, #[.int .i64 Ra, .int .i64 Ca, .slice A na ca]) mm2) fn0))) (.int .i64 Rb) (.int .i64 Cb) (.slice A6 nb c6))
     clear z0 z1 z2 f0 f1 f2 HP10
     generalize ((w9.setCell ⟨g8, 0, none⟩ (.int .i64 Rb)).setCell ⟨g8, 1, none⟩ (.int .i64 Cb)).setCell ⟨g8, 2, none⟩ (.slice A6 nb c6) = w10 at *
     try dsimp only
     refine hK.out _ _ (fun _ => have h := H10.out; ⟨h.cells mm3, h.cells mm2⟩) fun hHeld => ?_
     clear hK K
     try simp only [pU, pU0, pA, pB, pC]
     have hHeld := hHeld (by kernel_rfl)
     refine wpAnyG_done (by kernel_rfl) ?_ _
     refine NoPanic.normal ?_
     exact REST g7 g8 A5 c5 A6 c6 w10 (H10.out.sub (fun _ h => h) (fc mm0 (fc mm1 (fc mm2 (fc mm3 fn0)))))
    ·skip
     refine step_new (P := Try.prog) _ ⟨rfl, rfl, rfl⟩ newMx ?_
     have H7 := Lib.hid (H6.out.putT #[.int .i64 0, .int .i64 0, .slice none 0 0] 27)
     have HB7 := Lib.hid (And.intro H6.out.below.size H6.out.far)
     obtain ⟨g7, hg7⟩ : ∃ x, w6.heap.size = x := ⟨_, rfl⟩
     rw [hg7] at H7 HB7 ⊢
     clear hg7
     generalize w6.alloc (.cells #[.int .i64 0, .int .i64 0, .slice none 0 0] 27) = w7 at *
     try dsimp only
     refine hK.out _ _ (fun _ => have h := H7.out; ⟨h.cells mm2, h.cells mm1⟩) fun hHeld => ?_
     clear hK K
     try simp only [pU, pU0, pA, pB, pC]
     have hHeld := hHeld (by kernel_rfl)
     refine on 4 rfl fun K hK => ?_
     refine step_new (P := Try.prog) _ ⟨rfl, rfl, rfl⟩ newMx ?_
     have H8 := Lib.hid (H7.out.putT #[.int .i64 0, .int .i64 0, .slice none 0 0] 27)
     have HB8 := Lib.hid (And.intro H7.out.below.size H7.out.far)
     obtain ⟨g8, hg8⟩ : ∃ x, w7.heap.size = x := ⟨_, rfl⟩
     rw [hg8] at H8 HB8 ⊢
     clear hg8
     generalize w7.alloc (.cells #[.int .i64 0, .int .i64 0, .slice none 0 0] 27) = w8 at *
     try dsimp only
     refine hK.out _ _ (fun _ => have h := H8.out; ⟨h.cells mm3, h.cells mm2⟩) fun hHeld => ?_
     clear hK K
     try simp only [pU, pU0, pA, pB, pC]
     have hHeld := hHeld (by kernel_rfl)
     refine on 6 rfl fun K hK => ?_
     have HP9 := Lib.hid (H8.out.sub (fun _ h => h) (fc mm0 (fc mm1 (fc mm2 (fc mm3 fn0)))))
     obtain ⟨⟨z0, z1, z2⟩, f0, f1, f2⟩ := HP9.out.blk mm0
     go_simp
     have H9 := Lib.hid (HP9.out.set HB8.out.1 (fc (HB8.out.2 (g7, #[.int .i64 0, .int .i64 0, .slice none 0 0]) mm0) (fc (HB8.out.2 (w.heap.size + 1, #[.int .i64 Rb, .int .i64 Cb, .slice B nb cb]) mm1) (fc (HB8.out.2 (w.heap.size, #[.int .i64 Ra, .int .i64 Ca, .slice A na ca]) mm2) fn0))) (.int .i64 Ra) (.int .i64 Ca) (.slice A5 na c5))
     clear z0 z1 z2 f0 f1 f2 HP9
     generalize ((w8.setCell ⟨g8, 0, none⟩ (.int .i64 Ra)).setCell ⟨g8, 1, none⟩ (.int .i64 Ca)).setCell ⟨g8, 2, none⟩ (.slice A5 na c5) = w9 at *
     try dsimp only
     refine hK.out _ _ (fun _ => have h := H9.out; ⟨h.cells mm3, h.cells mm2⟩) fun hHeld => ?_
     clear hK K
     try simp only [pU, pU0, pA, pB, pC]
     have hHeld := hHeld (by kernel_rfl)
     refine on 7 rfl fun K hK => ?_
     have HP10 := Lib.hid (H9.out.sub (fun _ h => h) (fc mm1 (fc mm0 (fc mm2 (fc mm3 fn0)))))
     obtain ⟨⟨z0, z1, z2⟩, f0, f1, f2⟩ := HP10.out.blk mm0
     go_simp
     have H10 := Lib.hid (HP10.out.set HB7.out.1 (fc (Ne.symm (HB8.out.2 (g7, #[.int .i64 0, .int .i64 0, .slice none 0 0]) mm0)) (fc (HB7.out.2 (w.heap.size + 1, #[.int .i64 Rb, .int .i64 Cb, .slice B nb cb]) mm0) (fc (HB7.out.2 (w.heap.size, #[.int .i64 Ra, .int .i64 Ca, .slice A na ca]) mm1) fn0))) (.int .i64 Rb) (.int .i64 Cb) (.slice A6 nb c6))
     clear z0 z1 z2 f0 f1 f2 HP10
     generalize ((w9.setCell ⟨g7, 0, none⟩ (.int .i64 Rb)).setCell ⟨g7, 1, none⟩ (.int .i64 Cb)).setCell ⟨g7, 2, none⟩ (.slice A6 nb c6) = w10 at *
     try dsimp only
     refine hK.out _ _ (fun _ => have h := H10.out; ⟨h.cells mm3, h.cells mm2⟩) fun hHeld => ?_
     clear hK K
     try simp only [pU, pU0, pA, pB, pC]
     have hHeld := hHeld (by kernel_rfl)
     refine wpAnyG_done (by kernel_rfl) ?_ _
     refine NoPanic.normal ?_
     exact REST g8 g7 A5 c5 A6 c6 w10 (H10.out.sub (fun _ h => h) (fc mm0 (fc mm1 (fc mm2 (fc mm3 fn0)))))
   ·skip
    refine step_new (P := Try.prog) _ ⟨rfl, rfl, rfl⟩ newMx ?_
    have H6 := Lib.hid (H5.out.putT #[.int .i64 0, .int .i64 0, .slice none 0 0] 27)
    have HB6 := Lib.hid (And.intro H5.out.below.size H5.out.far)
    obtain ⟨g6, hg6⟩ : ∃ x, w5.heap.size = x := ⟨_, rfl⟩
    rw [hg6] at H6 HB6 ⊢
    clear hg6
    generalize w5.alloc (.cells #[.int .i64 0, .int .i64 0, .slice none 0 0] 27) = w6 at *
    try dsimp only
    refine hK.out _ _ (fun _ => have h := H6.out; ⟨h.cells mm2, h.cells mm1⟩) fun hHeld => ?_
    clear hK K
    try simp only [pU, pU0, pA, pB, pC]
    have hHeld := hHeld (by kernel_rfl)
    refine tw 3 5 rfl rfl (fun K hK => ?_) fun K hK => ?_
    ·skip
     go_simp
     refine (copiedR H6.out mm1 HLNb.out).mono ?_
     rintro e w7 ⟨A7, c7, rfl, h⟩
     have H7 := Lib.hid h
     clear h
     try dsimp only
     refine hK.out _ _ (fun _ => have h := H7.out; ⟨h.cells mm2, h.cells mm1⟩) fun hHeld => ?_
     clear hK K
     try simp only [pU, pU0, pA, pB, pC]
     have hHeld := hHeld (by kernel_rfl)
     refine on 5 rfl fun K hK => ?_
     refine step_new (P := Try.prog) _ ⟨rfl, rfl, rfl⟩ newMx ?_
     have H8 := Lib.hid (H7.out.putT #[.int .i64 0, .int .i64 0, .slice none 0 0] 27)
     have HB8 := Lib.hid (And.intro H7.out.below.size H7.out.far)
     obtain ⟨g8, hg8⟩ : ∃ x, w7.heap.size = x := ⟨_, rfl⟩
     rw [hg8] at H8 HB8 ⊢
     clear hg8
     generalize w7.alloc (.cells #[.int .i64 0, .int .i64 0, .slice none 0 0] 27) = w8 at *
     try dsimp only
     refine hK.out _ _ (fun _ => have h := H8.out; ⟨h.cells mm3, h.cells mm2⟩) fun hHeld => ?_
     clear hK K
     try simp only [pU, pU0, pA, pB, pC]
     have hHeld := hHeld (by kernel_rfl)
     refine on 6 rfl fun K hK => ?_
     have HP9 := Lib.hid (H8.out.sub (fun _ h => h) (fc mm1 (fc mm0 (fc mm2 (fc mm3 fn0)))))
     obtain ⟨⟨z0, z1, z2⟩, f0, f1, f2⟩ := HP9.out.blk mm0
     go_simp
     have H9 := Lib.hid (HP9.out.set HB6.out.1 (fc (Ne.symm (HB8.out.2 (g6, #[.int .i64 0, .int .i64 0, .slice none 0 0]) mm0)) (fc (HB6.out.2 (w.heap.size + 1, #[.int .i64 Rb, .int .i64 Cb, .slice B nb cb]) mm0) (fc (HB6.out.2 (w.heap.size, #[.int .i64 Ra, .int .i64 Ca, .slice A na ca]) mm1) fn0))) (.int .i64 Ra) (.int .i64 Ca) (.slice A5 na c5))
     clear z0 z1 z2 f0 f1 f2 HP9
     generalize ((w8.setCell ⟨g6, 0, none⟩ (.int .i64 Ra)).setCell ⟨g6, 1, none⟩ (.int .i64 Ca)).setCell ⟨g6, 2, none⟩ (.slice A5 na c5) = w9 at *
     try dsimp only
     refine hK.out _ _ (fun _ => have h := H9.out; ⟨h.cells mm3, h.cells mm2⟩) fun hHeld => ?_
     clear hK K
     try simp only [pU, pU0, pA, pB, pC]
     have hHeld := hHeld (by kernel_rfl)
     refine on 7 rfl fun K hK => ?_
     have HP10 := Lib.hid (H9.out.sub (fun _ h => h) (fc mm1 (fc mm0 (fc mm2 (fc mm3 fn0)))))
     obtain ⟨⟨z0, z1, z2⟩, f0, f1, f2⟩ := HP10.out.blk mm0
     go_simp
     have H10 := Lib.hid (HP10.out.set HB8.out.1 (fc (HB8.out.2 (g6, #[.int .i64 0, .int .i64 0, .slice none 0 0]) mm0) (fc (HB8.out.2 (w.heap.size + 1, #[.int .i64 Rb, .int .i64 Cb, .slice B nb cb]) mm1) (fc (HB8.out.2 (w.heap.size, #[.int .i64 Ra, .int .i64 Ca, .slice A na ca]) mm2) fn0))) (.int .i64 Rb) (.int .i64 Cb) (.slice A7 nb c7))
     clear z0 z1 z2 f0 f1 f2 HP10
     generalize ((w9.setCell ⟨g8, 0, none⟩ (.int .i64 Rb)).setCell ⟨g8, 1, none⟩ (.int .i64 Cb)).setCell ⟨g8, 2, none⟩ (.slice A7 nb c7) = w10 at *
     try dsimp only
     refine hK.out _ _ (fun _ => have h := H10.out; ⟨h.cells mm3, h.cells mm2⟩) fun hHeld => ?_
     clear hK K
     try simp only [pU, pU0, pA, pB, pC]
     have hHeld := hHeld (by kernel_rfl)
     refine wpAnyG_done (by kernel_rfl) ?_ _
     refine NoPanic.normal ?_
     exact REST g6 g8 A5 c5 A7 c7 w10 (H10.out.sub (fun _ h => h) (fc mm0 (fc mm1 (fc mm2 (fc mm3 fn0)))))
    ·skip
     refine step_new (P := Try.prog) _ ⟨rfl, rfl, rfl⟩ newMx ?_
     have H7 := Lib.hid (H6.out.putT #[.int .i64 0, .int .i64 0, .slice none 0 0] 27)
     have HB7 := Lib.hid (And.intro H6.out.below.size H6.out.far)
     obtain ⟨g7, hg7⟩ : ∃ x, w6.heap.size = x := ⟨_, rfl⟩
     rw [hg7] at H7 HB7 ⊢
     clear hg7
     generalize w6.alloc (.cells #[.int .i64 0, .int .i64 0, .slice none 0 0] 27) = w7 at *
     try dsimp only
     refine hK.out _ _ (fun _ => have h := H7.out; ⟨h.cells mm3, h.cells mm2⟩) fun hHeld => ?_
     clear hK K
     try simp only [pU, pU0, pA, pB, pC]
     have hHeld := hHeld (by kernel_rfl)
     refine on 3 rfl fun K hK => ?_
     go_simp
     refine (copiedR H7.out mm1 HLNb.out).mono ?_
     rintro e w8 ⟨A8, c8, rfl, h⟩
     have H8 := Lib.hid h
     clear h
     try dsimp only
     refine hK.out _ _ (fun _ => have h := H8.out; ⟨h.cells mm3, h.cells mm2⟩) fun hHeld => ?_
     clear hK K
     try simp only [pU, pU0, pA, pB, pC]
     have hHeld := hHeld (by kernel_rfl)
     refine on 6 rfl fun K hK => ?_
     have HP9 := Lib.hid (H8.out.sub (fun _ h => h) (fc mm1 (fc mm0 (fc mm2 (fc mm3 fn0)))))
     obtain ⟨⟨z0, z1, z2⟩, f0, f1, f2⟩ := HP9.out.blk mm0
     go_simp
     have H9 := Lib.hid (HP9.out.set HB6.out.1 (fc (Ne.symm (HB7.out.2 (g6, #[.int .i64 0, .int .i64 0, .slice none 0 0]) mm0)) (fc (HB6.out.2 (w.heap.size + 1, #[.int .i64 Rb, .int .i64 Cb, .slice B nb cb]) mm0) (fc (HB6.out.2 (w.heap.size, #[.int .i64 Ra, .int .i64 Ca, .slice A na ca]) mm1) fn0))) (.int .i64 Ra) (.int .i64 Ca) (.slice A5 na c5))
     clear z0 z1 z2 f0 f1 f2 HP9
     generalize ((w8.setCell ⟨g6, 0, none⟩ (.int .i64 Ra)).setCell ⟨g6, 1, none⟩ (.int .i64 Ca)).setCell ⟨g6, 2, none⟩ (.slice A5 na c5) = w9 at *
     try dsimp only
     refine hK.out _ _ (fun _ => have h := H9.out; ⟨h.cells mm3, h.cells mm2⟩) fun hHeld => ?_
     clear hK K
     try simp only [pU, pU0, pA, pB, pC]
     have hHeld := hHeld (by kernel_rfl)
     refine on 7 rfl fun K hK => ?_
     have HP10 := Lib.hid (H9.out.sub (fun _ h => h) (fc mm1 (fc mm0 (fc mm2 (fc mm3 fn0)))))
     obtain ⟨⟨z0, z1, z2⟩, f0, f1, f2⟩ := HP10.out.blk mm0
     go_simp
     have H10 := Lib.hid (HP10.out.set HB7.out.1 (fc (HB7.out.2 (g6, #[.int .i64 0, .int .i64 0, .slice none 0 0]) mm0) (fc (HB7.out.2 (w.heap.size + 1, #[.int .i64 Rb, .int .i64 Cb, .slice B nb cb]) mm1) (fc (HB7.out.2 (w.heap.size, #[.int .i64 Ra, .int .i64 Ca, .slice A na ca]) mm2) fn0))) (.int .i64 Rb) (.int .i64 Cb) (.slice A8 nb c8))
     clear z0 z1 z2 f0 f1 f2 HP10
     generalize ((w9.setCell ⟨g7, 0, none⟩ (.int .i64 Rb)).setCell ⟨g7, 1, none⟩ (.int .i64 Cb)).setCell ⟨g7, 2, none⟩ (.slice A8 nb c8) = w10 at *
     try dsimp only
     refine hK.out _ _ (fun _ => have h := H10.out; ⟨h.cells mm3, h.cells mm2⟩) fun hHeld => ?_
     clear hK K
     try simp only [pU, pU0, pA, pB, pC]
     have hHeld := hHeld (by kernel_rfl)
     refine wpAnyG_done (by kernel_rfl) ?_ _
     refine NoPanic.normal ?_
     exact REST g6 g7 A5 c5 A8 c8 w10 (H10.out.sub (fun _ h => h) (fc mm0 (fc mm1 (fc mm2 (fc mm3 fn0)))))
   ·skip
    refine step_new (P := Try.prog) _ ⟨rfl, rfl, rfl⟩ newMx ?_
    have H6 := Lib.hid (H5.out.putT #[.int .i64 0, .int .i64 0, .slice none 0 0] 27)
    have HB6 := Lib.hid (And.intro H5.out.below.size H5.out.far)
    obtain ⟨g6, hg6⟩ : ∃ x, w5.heap.size = x := ⟨_, rfl⟩
    rw [hg6] at H6 HB6 ⊢
    clear hg6
    generalize w5.alloc (.cells #[.int .i64 0, .int .i64 0, .slice none 0 0] 27) = w6 at *
    try dsimp only
    refine hK.out _ _ (fun _ => have h := H6.out; ⟨h.cells mm2, h.cells mm1⟩) fun hHeld => ?_
    clear hK K
    try simp only [pU, pU0, pA, pB, pC]
    have hHeld := hHeld (by kernel_rfl)
    refine tw 3 4 rfl rfl (fun K hK => ?_) fun K hK => ?_
    ·skip
     go_simp
     refine (copiedR H6.out mm1 HLNb.out).mono ?_
     rintro e w7 ⟨A7, c7, rfl, h⟩
     have H7 := Lib.hid h
     clear h
     try dsimp only
     refine hK.out _ _ (fun _ => have h := H7.out; ⟨h.cells mm2, h.cells mm1⟩) fun hHeld => ?_
     clear hK K
     try simp only [pU, pU0, pA, pB, pC]
     have hHeld := hHeld (by kernel_rfl)
     refine on 4 rfl fun K hK => ?_
     refine step_new (P := Try.prog) _ ⟨rfl, rfl, rfl⟩ newMx ?_
     have H8 := Lib.hid (H7.out.putT #[.int .i64 0, .int .i64 0, .slice none 0 0] 27)
     have HB8 := Lib.hid (And.intro H7.out.below.size H7.out.far)
     obtain ⟨g8, hg8⟩ : ∃ x, w7.heap.size = x := ⟨_, rfl⟩
     rw [hg8] at H8 HB8 ⊢
     clear hg8
     generalize w7.alloc (.cells #[.int .i64 0, .int .i64 0, .slice none 0 0] 27) = w8 at *
     try dsimp only
     refine hK.out _ _ (fun _ => have h := H8.out; ⟨h.cells mm3, h.cells mm2⟩) fun hHeld => ?_
     clear hK K
     try simp only [pU, pU0, pA, pB, pC]
     have hHeld := hHeld (by kernel_rfl)
     refine on 6 rfl fun K hK => ?_
     have HP9 := Lib.hid (H8.out.sub (fun _ h => h) (fc mm0 (fc mm1 (fc mm2 (fc mm3 fn0)))))
     obtain ⟨⟨z0, z1, z2⟩, f0, f1, f2⟩ := HP9.out.blk mm0
     go_simp
     have H9 := Lib.hid (HP9.out.set HB8.out.1 (fc (HB8.out.2 (g6, #[.int .i64 0, .int .i64 0, .slice none 0 0]) mm0) (fc (HB8.out.2 (w.heap.size + 1, #[.int .i64 Rb, .int .i64 Cb, .slice B nb cb]) mm1) (fc (HB8.out.2 (w.heap.size, #[.int .i64 Ra, .int .i64 Ca, .slice A na ca]) mm2) fn0))) (.int .i64 Ra) (.int .i64 Ca) (.slice A5 na c5))
     clear z0 z1 z2 f0 f1 f2 HP9
     generalize ((w8.setCell ⟨g8, 0, none⟩ (.int .i64 Ra)).setCell ⟨g8, 1, none⟩ (.int .i64 Ca)).setCell ⟨g8, 2, none⟩ (.slice A5 na c5) = w9 at *
     try dsimp only
     refine hK.out _ _ (fun _ => have h := H9.out; ⟨h.cells mm3, h.cells mm2⟩) fun hHeld => ?_
     clear hK K
     try simp only [pU, pU0, pA, pB, pC]
     have hHeld := hHeld (by kernel_rfl)
     refine on 7 rfl fun K hK => ?_
     have HP10 := Lib.hid (H9.out.sub (fun _ h => h) (fc mm1 (fc mm0 (fc mm2 (fc mm3 fn0)))))
     obtain ⟨⟨z0, z1, z2⟩, f0, f1, f2⟩ := HP10.out.blk mm0
     go_simp
     have H10 := Lib.hid (HP10.out.set HB6.out.1 (fc (Ne.symm (HB8.out.2 (g6, #[.int .i64 0, .int .i64 0, .slice none 0 0]) mm0)) (fc (HB6.out.2 (w.heap.size + 1, #[.int .i64 Rb, .int .i64 Cb, .slice B nb cb]) mm0) (fc (HB6.out.2 (w.heap.size, #[.int .i64 Ra, .int .i64 Ca, .slice A na ca]) mm1) fn0))) (.int .i64 Rb) (.int .i64 Cb) (.slice A7 nb c7))
     clear z0 z1 z2 f0 f1 f2 HP10
     generalize ((w9.setCell ⟨g6, 0, none⟩ (.int .i64 Rb)).setCell ⟨g6, 1, none⟩ (.int .i64 Cb)).setCell ⟨g6, 2, none⟩ (.slice A7 nb c7) = w10 at *
     try dsimp only
     refine hK.out _ _ (fun _ => have h := H10.out; ⟨h.cells mm3, h.cells mm2⟩) fun hHeld => ?_
     clear hK K
     try simp only [pU, pU0, pA, pB, pC]
     have hHeld := hHeld (by kernel_rfl)
     refine wpAnyG_done (by kernel_rfl) ?_ _
     refine NoPanic.normal ?_
     exact REST g8 g6 A5 c5 A7 c7 w10 (H10.out.sub (fun _ h => h) (fc mm0 (fc mm1 (fc mm2 (fc mm3 fn0)))))
    ·skip
     refine step_new (P := Try.prog) _ ⟨rfl, rfl, rfl⟩ newMx ?_
     have H7 := Lib.hid (H6.out.putT #[.int .i64 0, .int .i64 0, .slice none 0 0] 27)
     have HB7 := Lib.hid (And.intro H6.out.below.size H6.out.far)
     obtain ⟨g7, hg7⟩ : ∃ x, w6.heap.size = x := ⟨_, rfl⟩
     rw [hg7] at H7 HB7 ⊢
     clear hg7
     generalize w6.alloc (.cells #[.int .i64 0, .int .i64 0, .slice none 0 0] 27) = w7 at *
     try dsimp only
     refine hK.out _ _ (fun _ => have h := H7.out; ⟨h.cells mm3, h.cells mm2⟩) fun hHeld => ?_
     clear hK K
     try simp only [pU, pU0, pA, pB, pC]
     have hHeld := hHeld (by kernel_rfl)
     refine on 3 rfl fun K hK => ?_
     go_simp
     refine (copiedR H7.out mm1 HLNb.out).mono ?_
     rintro e w8 ⟨A8, c8, rfl, h⟩
     have H8 := Lib.hid h
     clear h
     try dsimp only
     refine hK.out _ _ (fun _ => have h := H8.out; ⟨h.cells mm3, h.cells mm2⟩) fun hHeld => ?_
     clear hK K
     try simp only [pU, pU0, pA, pB, pC]
     have hHeld := hHeld (by kernel_rfl)
     refine on 6 rfl fun K hK => ?_
     have HP9 := Lib.hid (H8.out.sub (fun _ h => h) (fc mm0 (fc mm1 (fc mm2 (fc mm3 fn0)))))
     obtain ⟨⟨z0, z1, z2⟩, f0, f1, f2⟩ := HP9.out.blk mm0
     go_simp
     have H9 := Lib.hid (HP9.out.set HB7.out.1 (fc (HB7.out.2 (g6, #[.int .i64 0, .int .i64 0, .slice none 0 0]) mm0) (fc (HB7.out.2 (w.heap.size + 1, #[.int .i64 Rb, .int .i64 Cb, .slice B nb cb]) mm1) (fc (HB7.out.2 (w.heap.size, #[.int .i64 Ra, .int .i64 Ca, .slice A na ca]) mm2) fn0))) (.int .i64 Ra) (.int .i64 Ca) (.slice A5 na c5))
     clear z0 z1 z2 f0 f1 f2 HP9
     generalize ((w8.setCell ⟨g7, 0, none⟩ (.int .i64 Ra)).setCell ⟨g7, 1, none⟩ (.int .i64 Ca)).setCell ⟨g7, 2, none⟩ (.slice A5 na c5) = w9 at *
     try dsimp only
     refine hK.out _ _ (fun _ => have h := H9.out; ⟨h.cells mm3, h.cells mm2⟩) fun hHeld => ?_
     clear hK K
     try simp only [pU, pU0, pA, pB, pC]
     have hHeld := hHeld (by kernel_rfl)
     refine on 7 rfl fun K hK => ?_
     have HP10 := Lib.hid (H9.out.sub (fun _ h => h) (fc mm1 (fc mm0 (fc mm2 (fc mm3 fn0)))))
     obtain ⟨⟨z0, z1, z2⟩, f0, f1, f2⟩ := HP10.out.blk mm0
     go_simp
     have H10 := Lib.hid (HP10.out.set HB6.out.1 (fc (Ne.symm (HB7.out.2 (g6, #[.int .i64 0, .int .i64 0, .slice none 0 0]) mm0)) (fc (HB6.out.2 (w.heap.size + 1, #[.int .i64 Rb, .int .i64 Cb, .slice B nb cb]) mm0) (fc (HB6.out.2 (w.heap.size, #[.int .i64 Ra, .int .i64 Ca, .slice A na ca]) mm1) fn0))) (.int .i64 Rb) (.int .i64 Cb) (.slice A8 nb c8))
     clear z0 z1 z2 f0 f1 f2 HP10
     generalize ((w9.setCell ⟨g6, 0, none⟩ (.int .i64 Rb)).setCell ⟨g6, 1, none⟩ (.int .i64 Cb)).setCell ⟨g6, 2, none⟩ (.slice A8 nb c8) = w10 at *
     try dsimp only
     refine hK.out _ _ (fun _ => have h := H10.out; ⟨h.cells mm3, h.cells mm2⟩) fun hHeld => ?_
     clear hK K
     try simp only [pU, pU0, pA, pB, pC]
     have hHeld := hHeld (by kernel_rfl)
     refine wpAnyG_done (by kernel_rfl) ?_ _
     refine NoPanic.normal ?_
     exact REST g7 g6 A5 c5 A8 c8 w10 (H10.out.sub (fun _ h => h) (fc mm0 (fc mm1 (fc mm2 (fc mm3 fn0)))))
  ·skip
   refine step_new (P := Try.prog) _ ⟨rfl, rfl, rfl⟩ newMx ?_
   have H5 := Lib.hid (HD4.out.putT #[.int .i64 0, .int .i64 0, .slice none 0 0] 27)
   have HB5 := Lib.hid (And.intro HD4.out.below.size HD4.out.far)
   obtain ⟨g5, hg5⟩ : ∃ x, wd4.heap.size = x := ⟨_, rfl⟩
   rw [hg5] at H5 HB5 ⊢
   clear hg5
   generalize wd4.alloc (.cells #[.int .i64 0, .int .i64 0, .slice none 0 0] 27) = w5 at *
   try dsimp only
   refine hK.out _ _ (fun _ => have h := H5.out; ⟨h.cells mm2, h.cells mm1⟩) fun hHeld => ?_
   clear hK K
   try simp only [pU, pU0, pA, pB, pC]
   have hHeld := hHeld (by kernel_rfl)
   refine tw 1 5 rfl rfl (fun K hK => ?_) fun K hK => ?_
   ·skip
    go_simp
    refine (copiedR H5.out mm1 HLNa.out).mono ?_
    rintro e w6 ⟨A6, c6, rfl, h⟩
    have H6 := Lib.hid h
    clear h
    try dsimp only
    refine hK.out _ _ (fun _ => have h := H6.out; ⟨h.cells mm2, h.cells mm1⟩) fun hHeld => ?_
    clear hK K
    try simp only [pU, pU0, pA, pB, pC]
    have hHeld := hHeld (by kernel_rfl)
    refine tw 3 5 rfl rfl (fun K hK => ?_) fun K hK => ?_
    ·skip
     go_simp
     refine (copiedR H6.out mm1 HLNb.out).mono ?_
     rintro e w7 ⟨A7, c7, rfl, h⟩
     have H7 := Lib.hid h
     clear h
     try dsimp only
     refine hK.out _ _ (fun _ => have h := H7.out; ⟨h.cells mm2, h.cells mm1⟩) fun hHeld => ?_
     clear hK K
     try simp only [pU, pU0, pA, pB, pC]
     have hHeld := hHeld (by kernel_rfl)
     refine on 5 rfl fun K hK => ?_
     refine step_new (P := Try.prog) _ ⟨rfl, rfl, rfl⟩ newMx ?_
     have H8 := Lib.hid (H7.out.putT #[.int .i64 0, .int .i64 0, .slice none 0 0] 27)
     have HB8 := Lib.hid (And.intro H7.out.below.size H7.out.far)
     obtain ⟨g8, hg8⟩ : ∃ x, w7.heap.size = x := ⟨_, rfl⟩
     rw [hg8] at H8 HB8 ⊢
     clear hg8
     generalize w7.alloc (.cells #[.int .i64 0, .int .i64 0, .slice none 0 0] 27) = w8 at *
     try dsimp only
     refine hK.out _ _ (fun _ => have h := H8.out; ⟨h.cells mm3, h.cells mm2⟩) fun hHeld => ?_
     clear hK K
     try simp only [pU, pU0, pA, pB, pC]
     have hHeld := hHeld (by kernel_rfl)
     refine on 6 rfl fun K hK => ?_
     have HP9 := Lib.hid (H8.out.sub (fun _ h => h) (fc mm1 (fc mm0 (fc mm2 (fc mm3 fn0)))))
     obtain ⟨⟨z0, z1, z2⟩, f0, f1, f2⟩ := HP9.out.blk mm0
     go_simp
     have H9 := Lib.hid (HP9.out.set HB5.out.1 (fc (Ne.symm (HB8.out.2 (g5, #[.int .i64 0, .int .i64 0, .slice none 0 0]) mm0)) (fc (HB5.out.2 (w.heap.size + 1, #[.int .i64 Rb, .int .i64 Cb, .slice B nb cb]) mm0) (fc (HB5.out.2 (w.heap.size, #[.int .i64 Ra, .int .i64 Ca, .slice A na ca]) mm1) fn0))) (.int .i64 Ra) (.int .i64 Ca) (.slice A6 na c6))
     clear z0 z1 z2 f0 f1 f2 HP9
     generalize ((w8.setCell ⟨g5, 0, none⟩ (.int .i64 Ra)).setCell ⟨g5, 1, none⟩ (.int .i64 Ca)).setCell ⟨g5, 2, none⟩ (.slice A6 na c6) = w9 at *
     try dsimp only
     refine hK.out _ _ (fun _ => have h := H9.out; ⟨h.cells mm3, h.cells mm2⟩) fun hHeld => ?_
     clear hK K
     try simp only [pU, pU0, pA, pB, pC]
     have hHeld := hHeld (by kernel_rfl)
     refine on 7 rfl fun K hK => ?_
     have HP10 := Lib.hid (H9.out.sub (fun _ h => h) (fc mm1 (fc mm0 (fc mm2 (fc mm3 fn0)))))
     obtain ⟨⟨z0, z1, z2⟩, f0, f1, f2⟩ := HP10.out.blk mm0
     go_simp
     have H10 := Lib.hid (HP10.out.set HB8.out.1 (fc (HB8.out.2 (g5, #[.int .i64 0, .int .i64 0, .slice none 0 0]) mm0) (fc (HB8.out.2 (w.heap.size + 1, #[.int .i64 Rb, .int .i64 Cb, .slice B nb cb]) mm1) (fc (HB8.out.2 (w.heap.size, #[.int .i64 Ra, .int .i64 Ca, .slice A na ca]) mm2) fn0))) (.int .i64 Rb) (.int .i64 Cb) (.slice A7 nb c7))
     clear z0 z1 z2 f0 f1 f2 HP10
     generalize ((w9.setCell ⟨g8, 0, none⟩ (.int .i64 Rb)).setCell ⟨g8, 1, none⟩ (.int .i64 Cb)).setCell ⟨g8, 2, none⟩ (.slice A7 nb c7) = w10 at *
     try dsimp only
     refine hK.out _ _ (fun _ => have h := H10.out; ⟨h.cells mm3, h.cells mm2⟩) fun hHeld => ?_
     clear hK K
     try simp only [pU, pU0, pA, pB, pC]
     have hHeld := hHeld (by kernel_rfl)
     refine wpAnyG_done (by kernel_rfl) ?_ _
     refine NoPanic.normal ?_
     exact REST g5 g8 A6 c6 A7 c7 w10 (H10.out.sub (fun _ h => h) (fc mm0 (fc mm1 (fc mm2 (fc mm3 fn0)))))
    ·skip
     refine step_new (P := Try.prog) _ ⟨rfl, rfl, rfl⟩ newMx ?_
     have H7 := Lib.hid (H6.out.putT #[.int .i64 0, .int .i64 0, .slice none 0 0] 27)
     have HB7 := Lib.hid (And.intro H6.out.below.size H6.out.far)
     obtain ⟨g7, hg7⟩ : ∃ x, w6.heap.size = x := ⟨_, rfl⟩
     rw [hg7] at H7 HB7 ⊢
     clear hg7
     generalize w6.alloc (.cells #[.int .i64 0, .int .i64 0, .slice none 0 0] 27) = w7 at *
     try dsimp only
     refine hK.out _ _ (fun _ => have h := H7.out; ⟨h.cells mm3, h.cells mm2⟩) fun hHeld => ?_
     clear hK K
     try simp only [pU, pU0, pA, pB, pC]
     have hHeld := hHeld (by kernel_rfl)
     refine on 3 rfl fun K hK => ?_
     go_simp
     refine (copiedR H7.out mm1 HLNb.out).mono ?_
     rintro e w8 ⟨A8, c8, rfl, h⟩
     have H8 := Lib.hid h
     clear h
     try dsimp only
     refine hK.out _ _ (fun _ => have h := H8.out; ⟨h.cells mm3, h.cells mm2⟩) fun hHeld => ?_
     clear hK K
     try simp only [pU, pU0, pA, pB, pC]
     have hHeld := hHeld (by kernel_rfl)
     refine on 6 rfl fun K hK => ?_
     have HP9 := Lib.hid (H8.out.sub (fun _ h => h) (fc mm1 (fc mm0 (fc mm2 (fc mm3 fn0)))))
     obtain ⟨⟨z0, z1, z2⟩, f0, f1, f2⟩ := HP9.out.blk mm0
     go_simp
     have H9 := Lib.hid (HP9.out.set HB5.out.1 (fc (Ne.symm (HB7.out.2 (g5, #[.int .i64 0, .int .i64 0, .slice none 0 0]) mm0)) (fc (HB5.out.2 (w.heap.size + 1, #[.int .i64 Rb, .int .i64 Cb, .slice B nb cb]) mm0) (fc (HB5.out.2 (w.heap.size, #[.int .i64 Ra, .int .i64 Ca, .slice A na ca]) mm1) fn0))) (.int .i64 Ra) (.int .i64 Ca) (.slice A6 na c6))
     clear z0 z1 z2 f0 f1 f2 HP9
     generalize ((w8.setCell ⟨g5, 0, none⟩ (.int .i64 Ra)).setCell ⟨g5, 1, none⟩ (.int .i64 Ca)).setCell ⟨g5, 2, none⟩ (.slice A6 na c6) = w9 at *
     try dsimp only
     refine hK.out _ _ (fun _ => have h := H9.out; ⟨h.cells mm3, h.cells mm2⟩) fun hHeld => ?_
     clear hK K
     try simp only [pU, pU0, pA, pB, pC]
     have hHeld := hHeld (by kernel_rfl)
     refine on 7 rfl fun K hK => ?_
     have HP10 := Lib.hid (H9.out.sub (fun _ h => h) (fc mm1 (fc mm0 (fc mm2 (fc mm3 fn0)))))
     obtain ⟨⟨z0, z1, z2⟩, f0, f1, f2⟩ := HP10.out.blk mm0
     go_simp
     have H10 := Lib.hid (HP10.out.set HB7.out.1 (fc (HB7.out.2 (g5, #[.int .i64 0, .int .i64 0, .slice none 0 0]) mm0) (fc (HB7.out.2 (w.heap.size + 1, #[.int .i64 Rb, .int .i64 Cb, .slice B nb cb]) mm1) (fc (HB7.out.2 (w.heap.size, #[.int .i64 Ra, .int .i64 Ca, .slice A na ca]) mm2) fn0))) (.int .i64 Rb) (.int .i64 Cb) (.slice A8 nb c8))
     clear z0 z1 z2 f0 f1 f2 HP10
     generalize ((w9.setCell ⟨g7, 0, none⟩ (.int .i64 Rb)).setCell ⟨g7, 1, none⟩ (.int .i64 Cb)).setCell ⟨g7, 2, none⟩ (.slice A8 nb c8) = w10 at *
     try dsimp only
     refine hK.out _ _ (fun _ => have h := H10.out; ⟨h.cells mm3, h.cells mm2⟩) fun hHeld => ?_
     clear hK K
     try simp only [pU, pU0, pA, pB, pC]
     have hHeld := hHeld (by kernel_rfl)
     refine wpAnyG_done (by kernel_rfl) ?_ _
     refine NoPanic.normal ?_
     exact REST g5 g7 A6 c6 A8 c8 w10 (H10.out.sub (fun _ h => h) (fc mm0 (fc mm1 (fc mm2 (fc mm3 fn0)))))
   ·skip
    refine step_new (P := Try.prog) _ ⟨rfl, rfl, rfl⟩ newMx ?_
    have H6 := Lib.hid (H5.out.putT #[.int .i64 0, .int .i64 0, .slice none 0 0] 27)
    have HB6 := Lib.hid (And.intro H5.out.below.size H5.out.far)
    obtain ⟨g6, hg6⟩ : ∃ x, w5.heap.size = x := ⟨_, rfl⟩
    rw [hg6] at H6 HB6 ⊢
    clear hg6
    generalize w5.alloc (.cells #[.int .i64 0, .int .i64 0, .slice none 0 0] 27) = w6 at *
    try dsimp only
    refine hK.out _ _ (fun _ => have h := H6.out; ⟨h.cells mm3, h.cells mm2⟩) fun hHeld => ?_
    clear hK K
    try simp only [pU, pU0, pA, pB, pC]
    have hHeld := hHeld (by kernel_rfl)
    refine on 1 rfl fun K hK => ?_
    go_simp
    refine (copiedR H6.out mm1 HLNa.out).mono ?_
    rintro e w7 ⟨A7, c7, rfl, h⟩
    have H7 := Lib.hid h
    clear h
    try dsimp only
    refine hK.out _ _ (fun _ => have h := H7.out; ⟨h.cells mm3, h.cells mm2⟩) fun hHeld => ?_
    clear hK K
    try simp only [pU, pU0, pA, pB, pC]
    have hHeld := hHeld (by kernel_rfl)
    refine on 3 rfl fun K hK => ?_
    go_simp
    refine (copiedR H7.out mm1 HLNb.out).mono ?_
    rintro e w8 ⟨A8, c8, rfl, h⟩
    have H8 := Lib.hid h
    clear h
    try dsimp only
    refine hK.out _ _ (fun _ => have h := H8.out; ⟨h.cells mm3, h.cells mm2⟩) fun hHeld => ?_
    clear hK K
    try simp only [pU, pU0, pA, pB, pC]
    have hHeld := hHeld (by kernel_rfl)
    refine on 6 rfl fun K hK => ?_
    have HP9 := Lib.hid (H8.out.sub (fun _ h => h) (fc mm1 (fc mm0 (fc mm2 (fc mm3 fn0)))))
    obtain ⟨⟨z0, z1, z2⟩, f0, f1, f2⟩ := HP9.out.blk mm0
    go_simp
    have H9 := Lib.hid (HP9.out.set HB5.out.1 (fc (Ne.symm (HB6.out.2 (g5, #[.int .i64 0, .int .i64 0, .slice none 0 0]) mm0)) (fc (HB5.out.2 (w.heap.size + 1, #[.int .i64 Rb, .int .i64 Cb, .slice B nb cb]) mm0) (fc (HB5.out.2 (w.heap.size, #[.int .i64 Ra, .int .i64 Ca, .slice A na ca]) mm1) fn0))) (.int .i64 Ra) (.int .i64 Ca) (.slice A7 na c7))
    clear z0 z1 z2 f0 f1 f2 HP9
    generalize ((w8.setCell ⟨g5, 0, none⟩ (.int .i64 Ra)).setCell ⟨g5, 1, none⟩ (.int .i64 Ca)).setCell ⟨g5, 2, none⟩ (.slice A7 na c7) = w9 at *
    try dsimp only
    refine hK.out _ _ (fun _ => have h := H9.out; ⟨h.cells mm3, h.cells mm2⟩) fun hHeld => ?_
    clear hK K
    try simp only [pU, pU0, pA, pB, pC]
    have hHeld := hHeld (by kernel_rfl)
    refine on 7 rfl fun K hK => ?_
    have HP10 := Lib.hid (H9.out.sub (fun _ h => h) (fc mm1 (fc mm0 (fc mm2 (fc mm3 fn0)))))
    obtain ⟨⟨z0, z1, z2⟩, f0, f1, f2⟩ := HP10.out.blk mm0
    go_simp
    have H10 := Lib.hid (HP10.out.set HB6.out.1 (fc (HB6.out.2 (g5, #[.int .i64 0, .int .i64 0, .slice none 0 0]) mm0) (fc (HB6.out.2 (w.heap.size + 1, #[.int .i64 Rb, .int .i64 Cb, .slice B nb cb]) mm1) (fc (HB6.out.2 (w.heap.size, #[.int .i64 Ra, .int .i64 Ca, .slice A na ca]) mm2) fn0))) (.int .i64 Rb) (.int .i64 Cb) (.slice A8 nb c8))
    clear z0 z1 z2 f0 f1 f2 HP10
    generalize ((w9.setCell ⟨g6, 0, none⟩ (.int .i64 Rb)).setCell ⟨g6, 1, none⟩ (.int .i64 Cb)).setCell ⟨g6, 2, none⟩ (.slice A8 nb c8) = w10 at *
    try dsimp only
    refine hK.out _ _ (fun _ => have h := H10.out; ⟨h.cells mm3, h.cells mm2⟩) fun hHeld => ?_
    clear hK K
    try simp only [pU, pU0, pA, pB, pC]
    have hHeld := hHeld (by kernel_rfl)
    refine wpAnyG_done (by kernel_rfl) ?_ _
    refine NoPanic.normal ?_
    exact REST g5 g6 A7 c7 A8 c8 w10 (H10.out.sub (fun _ h => h) (fc mm0 (fc mm1 (fc mm2 (fc mm3 fn0)))))
  ·skip
   refine step_new (P := Try.prog) _ ⟨rfl, rfl, rfl⟩ newMx ?_
   have H5 := Lib.hid (HD4.out.putT #[.int .i64 0, .int .i64 0, .slice none 0 0] 27)
   have HB5 := Lib.hid (And.intro HD4.out.below.size HD4.out.far)
   obtain ⟨g5, hg5⟩ : ∃ x, wd4.heap.size = x := ⟨_, rfl⟩
   rw [hg5] at H5 HB5 ⊢
   clear hg5
   generalize wd4.alloc (.cells #[.int .i64 0, .int .i64 0, .slice none 0 0] 27) = w5 at *
   try dsimp only
   refine hK.out _ _ (fun _ => have h := H5.out; ⟨h.cells mm2, h.cells mm1⟩) fun hHeld => ?_
   clear hK K
   try simp only [pU, pU0, pA, pB, pC]
   have hHeld := hHeld (by kernel_rfl)
   refine tw 1 4 rfl rfl (fun K hK => ?_) fun K hK => ?_
   ·skip
    go_simp
    refine (copiedR H5.out mm1 HLNa.out).mono ?_
    rintro e w6 ⟨A6, c6, rfl, h⟩
    have H6 := Lib.hid h
    clear h
    try dsimp only
    refine hK.out _ _ (fun _ => have h := H6.out; ⟨h.cells mm2, h.cells mm1⟩) fun hHeld => ?_
    clear hK K
    try simp only [pU, pU0, pA, pB, pC]
    have hHeld := hHeld (by kernel_rfl)
    refine tw 3 4 rfl rfl (fun K hK => ?_) fun K hK => ?_
    ·skip
     go_simp
     refine (copiedR H6.out mm1 HLNb.out).mono ?_
     rintro e w7 ⟨A7, c7, rfl, h⟩
     have H7 := Lib.hid h
     clear h
     try dsimp only
     refine hK.out _ _ (fun _ => have h := H7.out; ⟨h.cells mm2, h.cells mm1⟩) fun hHeld => ?_
     clear hK K
     try simp only [pU, pU0, pA, pB, pC]
     have hHeld := hHeld (by kernel_rfl)
     refine on 4 rfl fun K hK => ?_
     refine step_new (P := Try.prog) _ ⟨rfl, rfl, rfl⟩ newMx ?_
     have H8 := Lib.hid (H7.out.putT #[.int .i64 0, .int .i64 0, .slice none 0 0] 27)
     have HB8 := Lib.hid (And.intro H7.out.below.size H7.out.far)
     obtain ⟨g8, hg8⟩ : ∃ x, w7.heap.size = x := ⟨_, rfl⟩
     rw [hg8] at H8 HB8 ⊢
     clear hg8
     generalize w7.alloc (.cells #[.int .i64 0, .int .i64 0, .slice none 0 0] 27) = w8 at *
     try dsimp only
     refine hK.out _ _ (fun _ => have h := H8.out; ⟨h.cells mm3, h.cells mm2⟩) fun hHeld => ?_
     clear hK K
     try simp only [pU, pU0, pA, pB, pC]
     have hHeld := hHeld (by kernel_rfl)
     refine on 6 rfl fun K hK => ?_
     have HP9 := Lib.hid (H8.out.sub (fun _ h => h) (fc mm0 (fc mm1 (fc mm2 (fc mm3 fn0)))))
     obtain ⟨⟨z0, z1, z2⟩, f0, f1, f2⟩ := HP9.out.blk mm0
     go_simp
     have H9 := Lib.hid (HP9.out.set HB8.out.1 (fc (HB8.out.2 (g5, #[.int .i64 0, .int .i64 0, .slice none 0 0]) mm0) (fc (HB8.out.2 (w.heap.size + 1, #[.int .i64 Rb, .int .i64 Cb, .slice B nb cb]) mm1) (fc (HB8.out.2 (w.heap.size, #[.int .i64 Ra, .int .i64 Ca, .slice A na ca]) mm2) fn0))) (.int .i64 Ra) (.int .i64 Ca) (.slice A6 na c6))
     clear z0 z1 z2 f0 f1 f2 HP9
     generalize ((w8.setCell ⟨g8, 0, none⟩ (.int .i64 Ra)).setCell ⟨g8, 1, none⟩ (.int .i64 Ca)).setCell ⟨g8, 2, none⟩ (.slice A6 na c6) = w9 at *
     try dsimp only
     refine hK.out _ _ (fun _ => have h := H9.out; ⟨h.cells mm3, h.cells mm2⟩) fun hHeld => ?_
     clear hK K
     try simp only [pU, pU0, pA, pB, pC]
     have hHeld := hHeld (by kernel_rfl)
     refine on 7 rfl fun K hK => ?_
     have HP10 := Lib.hid (H9.out.sub (fun _ h => h) (fc mm1 (fc mm0 (fc mm2 (fc mm3 fn0)))))
     obtain ⟨⟨z0, z1, z2⟩, f0, f1, f2⟩ := HP10.out.blk mm0
     go_simp
     have H10 := Lib.hid (HP10.out.set HB5.out.1 (fc (Ne.symm (HB8.out.2 (g5, #[.int .i64 0, .int .i64 0, .slice none 0 0]) mm0)) (fc (HB5.out.2 (w.heap.size + 1, #[.int .i64 Rb, .int .i64 Cb, .slice B nb cb]) mm0) (fc (HB5.out.2 (w.heap.size, #[.int .i64 Ra, .int .i64 Ca, .slice A na ca]) mm1) fn0))) (.int .i64 Rb) (.int .i64 Cb) (.slice A7 nb c7))
     clear z0 z1 z2 f0 f1 f2 HP10
     generalize ((w9.setCell ⟨g5, 0, none⟩ (.int .i64 Rb)).setCell ⟨g5, 1, none⟩ (.int .i64 Cb)).setCell ⟨g5, 2, none⟩ (.slice A7 nb c7) = w10 at *
     try dsimp only
     refine hK.out _ _ (fun _ => have h := H10.out; ⟨h.cells mm3, h.cells mm2⟩) fun hHeld => ?_
     clear hK K
     try simp only [pU, pU0, pA, pB, pC]
     have hHeld := hHeld (by kernel_rfl)
     refine wpAnyG_done (by kernel_rfl) ?_ _
     refine NoPanic.normal ?_
     exact REST g8 g5 A6 c6 A7 c7 w10 (H10.out.sub (fun _ h => h) (fc mm0 (fc mm1 (fc mm2 (fc mm3 fn0)))))
    ·skip
     refine step_new (P := Try.prog) _ ⟨rfl, rfl, rfl⟩ newMx ?_
     have H7 := Lib.hid (H6.out.putT #[.int .i64 0, .int .i64 0, .slice none 0 0] 27)
     have HB7 := Lib.hid (And.intro H6.out.below.size H6.out.far)
     obtain ⟨g7, hg7⟩ : ∃ x, w6.heap.size = x := ⟨_, rfl⟩
     rw [hg7] at H7 HB7 ⊢
     clear hg7
     generalize w6.alloc (.cells #[.int .i64 0, .int .i64 0, .slice none 0 0] 27) = w7 at *
     try dsimp only
     refine hK.out _ _ (fun _ => have h := H7.out; ⟨h.cells mm3, h.cells mm2⟩) fun hHeld => ?_
     clear hK K
     try simp only [pU, pU0, pA, pB, pC]
     have hHeld := hHeld (by kernel_rfl)
     refine on 3 rfl fun K hK => ?_
     go_simp
     refine (copiedR H7.out mm1 HLNb.out).mono ?_
     rintro e w8 ⟨A8, c8, rfl, h⟩
     have H8 := Lib.hid h
     clear h
     try dsimp only
     refine hK.out _ _ (fun _ => have h := H8.out; ⟨h.cells mm3, h.cells mm2⟩) fun hHeld => ?_
     clear hK K
     try simp only [pU, pU0, pA, pB, pC]
     have hHeld := hHeld (by kernel_rfl)
     refine on 6 rfl fun K hK => ?_
     have HP9 := Lib.hid (H8.out.sub (fun _ h => h) (fc mm0 (fc mm1 (fc mm2 (fc mm3 fn0)))))
     obtain ⟨⟨z0, z1, z2⟩, f0, f1, f2⟩ := HP9.out.blk mm0
     go_simp
     have H9 := Lib.hid (HP9.out.set HB7.out.1 (fc (HB7.out.2 (g5, #[.int .i64 0, .int .i64 0, .slice none 0 0]) mm0) (fc (HB7.out.2 (w.heap.size + 1, #[.int .i64 Rb, .int .i64 Cb, .slice B nb cb]) mm1) (fc (HB7.out.2 (w.heap.size, #[.int .i64 Ra, .int .i64 Ca, .slice A na ca]) mm2) fn0))) (.int .i64 Ra) (.int .i64 Ca) (.slice A6 na c6))
     clear z0 z1 z2 f0 f1 f2 HP9
     generalize ((w8.setCell ⟨g7, 0, none⟩ (.int .i64 Ra)).setCell ⟨g7, 1, none⟩ (.int .i64 Ca)).setCell ⟨g7, 2, none⟩ (.slice A6 na c6) = w9 at *
     try dsimp only
     refine hK.out _ _ (fun _ => have h := H9.out; ⟨h.cells mm3, h.cells mm2⟩) fun hHeld => ?_
     clear hK K
     try simp only [pU, pU0, pA, pB, pC]
     have hHeld := hHeld (by kernel_rfl)
     refine on 7 rfl fun K hK => ?_
     have HP10 := Lib.hid (H9.out.sub (fun _ h => h) (fc mm1 (fc mm0 (fc mm2 (fc mm3 fn0)))))
     obtain ⟨⟨z0, z1, z2⟩, f0, f1, f2⟩ := HP10.out.blk mm0
     go_simp
     have H10 := Lib.hid (HP10.out.set HB5.out.1 (fc (Ne.symm (HB7.out.2 (g5, #[.int .i64 0, .int .i64 0, .slice none 0 0]) mm0)) (fc (HB5.out.2 (w.heap.size + 1, #[.int .i64 Rb, .int .i64 Cb, .slice B nb cb]) mm0) (fc (HB5.out.2 (w.heap.size, #[.int .i64 Ra, .int .i64 Ca, .slice A na ca]) mm1) fn0))) (.int .i64 Rb) (.int .i64 Cb) (.slice A8 nb c8))
     clear z0 z1 z2 f0 f1 f2 HP10
     generalize ((w9.setCell ⟨g5, 0, none⟩ (.int .i64 Rb)).setCell ⟨g5, 1, none⟩ (.int .i64 Cb)).setCell ⟨g5, 2, none⟩ (.slice A8 nb c8) = w10 at *
     try dsimp only
     refine hK.out _ _ (fun _ => have h := H10.out; ⟨h.cells mm3, h.cells mm2⟩) fun hHeld => ?_
     clear hK K
     try simp only [pU, pU0, pA, pB, pC]
     have hHeld := hHeld (by kernel_rfl)
     refine wpAnyG_done (by kernel_rfl) ?_ _
     refine NoPanic.normal ?_
     exact REST g7 g5 A6 c6 A8 c8 w10 (H10.out.sub (fun _ h => h) (fc mm0 (fc mm1 (fc mm2 (fc mm3 fn0)))))
   ·skip
    refine step_new (P := Try.prog) _ ⟨rfl, rfl, rfl⟩ newMx ?_
    have H6 := Lib.hid (H5.out.putT #[.int .i64 0, .int .i64 0, .slice none 0 0] 27)
    have HB6 := Lib.hid (And.intro H5.out.below.size H5.out.far)
    obtain ⟨g6, hg6⟩ : ∃ x, w5.heap.size = x := ⟨_, rfl⟩
    rw [hg6] at H6 HB6 ⊢
    clear hg6
    generalize w5.alloc (.cells #[.int .i64 0, .int .i64 0, .slice none 0 0] 27) = w6 at *
    try dsimp only
    refine hK.out _ _ (fun _ => have h := H6.out; ⟨h.cells mm3, h.cells mm2⟩) fun hHeld => ?_
    clear hK K
    try simp only [pU, pU0, pA, pB, pC]
    have hHeld := hHeld (by kernel_rfl)
    refine on 1 rfl fun K hK => ?_
    go_simp
    refine (copiedR H6.out mm1 HLNa.out).mono ?_
    rintro e w7 ⟨A7, c7, rfl, h⟩
    have H7 := Lib.hid h
    clear h
    try dsimp only
    refine hK.out _ _ (fun _ => have h := H7.out; ⟨h.cells mm3, h.cells mm2⟩) fun hHeld => ?_
    clear hK K
    try simp only [pU, pU0, pA, pB, pC]
    have hHeld := hHeld (by kernel_rfl)
    refine on 3 rfl fun K hK => ?_
    go_simp
    refine (copiedR H7.out mm1 HLNb.out).mono ?_
    rintro e w8 ⟨A8, c8, rfl, h⟩
    have H8 := Lib.hid h
    clear h
    try dsimp only
    refine hK.out _ _ (fun _ => have h := H8.out; ⟨h.cells mm3, h.cells mm2⟩) fun hHeld => ?_
    clear hK K
    try simp only [pU, pU0, pA, pB, pC]
    have hHeld := hHeld (by kernel_rfl)
    refine on 6 rfl fun K hK => ?_
    have HP9 := Lib.hid (H8.out.sub (fun _ h => h) (fc mm0 (fc mm1 (fc mm2 (fc mm3 fn0)))))
    obtain ⟨⟨z0, z1, z2⟩, f0, f1, f2⟩ := HP9.out.blk mm0
    go_simp
    have H9 := Lib.hid (HP9.out.set HB6.out.1 (fc (HB6.out.2 (g5, #[.int .i64 0, .int .i64 0, .slice none 0 0]) mm0) (fc (HB6.out.2 (w.heap.size + 1, #[.int .i64 Rb, .int .i64 Cb, .slice B nb cb]) mm1) (fc (HB6.out.2 (w.heap.size, #[.int .i64 Ra, .int .i64 Ca, .slice A na ca]) mm2) fn0))) (.int .i64 Ra) (.int .i64 Ca) (.slice A7 na c7))
    clear z0 z1 z2 f0 f1 f2 HP9
    generalize ((w8.setCell ⟨g6, 0, none⟩ (.int .i64 Ra)).setCell ⟨g6, 1, none⟩ (.int .i64 Ca)).setCell ⟨g6, 2, none⟩ (.slice A7 na c7) = w9 at *
    try dsimp only
    refine hK.out _ _ (fun _ => have h := H9.out; ⟨h.cells mm3, h.cells mm2⟩) fun hHeld => ?_
    clear hK K
    try simp only [pU, pU0, pA, pB, pC]
    have hHeld := hHeld (by kernel_rfl)
    refine on 7 rfl fun K hK => ?_
    have HP10 := Lib.hid (H9.out.sub (fun _ h => h) (fc mm1 (fc mm0 (fc mm2 (fc mm3 fn0)))))
    obtain ⟨⟨z0, z1, z2⟩, f0, f1, f2⟩ := HP10.out.blk mm0
    go_simp
    have H10 := Lib.hid (HP10.out.set HB5.out.1 (fc (Ne.symm (HB6.out.2 (g5, #[.int .i64 0, .int .i64 0, .slice none 0 0]) mm0)) (fc (HB5.out.2 (w.heap.size + 1, #[.int .i64 Rb, .int .i64 Cb, .slice B nb cb]) mm0) (fc (HB5.out.2 (w.heap.size, #[.int .i64 Ra, .int .i64 Ca, .slice A na ca]) mm1) fn0))) (.int .i64 Rb) (.int .i64 Cb) (.slice A8 nb c8))
    clear z0 z1 z2 f0 f1 f2 HP10
    generalize ((w9.setCell ⟨g5, 0, none⟩ (.int .i64 Rb)).setCell ⟨g5, 1, none⟩ (.int .i64 Cb)).setCell ⟨g5, 2, none⟩ (.slice A8 nb c8) = w10 at *
    try dsimp only
    refine hK.out _ _ (fun _ => have h := H10.out; ⟨h.cells mm3, h.cells mm2⟩) fun hHeld => ?_
    clear hK K
    try simp only [pU, pU0, pA, pB, pC]
    have hHeld := hHeld (by kernel_rfl)
    refine wpAnyG_done (by kernel_rfl) ?_ _
    refine NoPanic.normal ?_
    exact REST g6 g5 A7 c7 A8 c8 w10 (H10.out.sub (fun _ h => h) (fc mm0 (fc mm1 (fc mm2 (fc mm3 fn0)))))
 case rest =>
  intro gjx gjy Ajx cjx Ajy cjy w104 h
  have H104 := Lib.hid h
  clear h H4
  obtain ⟨a5, b5, d5⟩ := H104.out.cells mm1
  obtain ⟨a6, b6, d6⟩ := H104.out.cells mm0
  go_wp2_with fail
  clear a5 b5 d5 a6 b6 d6
  refine (HMU.out.prog H104.out mm1 mm0).mono ?_
  rintro e w105 ⟨A105, c105, rfl, h⟩
  have H105 := Lib.hid h
  clear h
  have L7 := Lib.hid (H105.out.put #[.int .i64 P1, .int .i64 P2, .slice A105 pn c105])
  go_wp2_with fail
  have H106 := L7
  clear L7
  generalize (w105.alloc (.cells #[.int .i64 P1, .int .i64 P2, .slice A105 pn c105] 27)) = w106 at *
  apply via1_1 (H := fun (gjq : Nat) (Ajq : Option Addr) (cjq : Nat) W => MS w (some fq) [⟨Ajq, lp, cjq⟩, ⟨A105, lp, c105⟩, ⟨Ajy, lb, cjy⟩, ⟨Ajx, la, cjx⟩, ⟨B, lb, cb⟩, ⟨A, la, ca⟩] [(gjq, #[.int .i64 P1, .int .i64 P2, .slice Ajq pn cjq]), (w105.heap.size, #[.int .i64 P1, .int .i64 P2, .slice A105 pn c105]), (gjy, #[.int .i64 Rb, .int .i64 Cb, .slice Ajy nb cjy]), (gjx, #[.int .i64 Ra, .int .i64 Ca, .slice Ajx na cjx]), (w.heap.size + 1, #[.int .i64 Rb, .int .i64 Cb, .slice B nb cb]), (w.heap.size, #[.int .i64 Ra, .int .i64 Ca, .slice A na ca])] W)
  case main =>
   intro REST
   refine wp_region_noPanic ?_
   refine wp_heldG (fun w' => (w'.cell? ⟨w.heap.size, 0, none⟩ = some (.int .i64 Ra) ∧ w'.cell? ⟨w.heap.size, 1, none⟩ = some (.int .i64 Ca) ∧ w'.cell? ⟨w.heap.size, 2, none⟩ = some (.slice A na ca)) ∧ (w'.cell? ⟨w.heap.size + 1, 0, none⟩ = some (.int .i64 Rb) ∧ w'.cell? ⟨w.heap.size + 1, 1, none⟩ = some (.int .i64 Cb) ∧ w'.cell? ⟨w.heap.size + 1, 2, none⟩ = some (.slice B nb cb))) [] (by kernel_rfl) ?hs0 ?rg0
   case hs0 =>
    have h := H106.out.keep (nextN (Mem.start w106) 1)
    exact ⟨h.cells mm4, h.cells mm3⟩
   case rg0 =>
   intro hHeld
   have HD106 := Lib.hid (show MS _ _ _ _ w106.drew from H106.out.keep (nextN (Mem.start w106) 1))
   generalize w106.drew = wd106 at *
   refine tk 0 rfl (by intro w hSw; obtain ⟨⟨k0, k1, k2⟩, ⟨l0, l1, l2⟩⟩ := hSw; go_simp; try with_reducible rfl) ?_
   refine tk 2 rfl (by intro w hSw; obtain ⟨⟨k0, k1, k2⟩, ⟨l0, l1, l2⟩⟩ := hSw; go_simp; try with_reducible rfl) ?_
   refine tw 1 8 rfl rfl (fun K hK => ?_) fun K hK => ?_
   ·skip
    go_simp
    refine (plainR HD106.out ).mono ?_
    rintro e w107 ⟨rfl, h⟩
    have H107 := Lib.hid h
    clear h
    try dsimp only
    refine hK.out _ _ (fun _ => have h := H107.out; ⟨h.cells mm4, h.cells mm3⟩) fun hHeld => ?_
    clear hK K
    try simp only [pU, pU0, pA, pB, pC]
    have hHeld := hHeld (by kernel_rfl)
    refine tw 3 8 rfl rfl (fun K hK => ?_) fun K hK => ?_
    ·skip
     go_simp
     refine (plainR H107.out ).mono ?_
     rintro e w108 ⟨rfl, h⟩
     have H108 := Lib.hid h
     clear h
     try dsimp only
     refine hK.out _ _ (fun _ => have h := H108.out; ⟨h.cells mm4, h.cells mm3⟩) fun hHeld => ?_
     clear hK K
     try simp only [pU, pU0, pA, pB, pC]
     have hHeld := hHeld (by kernel_rfl)
     refine tw 4 8 rfl rfl (fun K hK => ?_) fun K hK => ?_
     ·skip
      go_simp
      refine (HMU.out.doc H108.out mm4 mm3).mono ?_
      rintro e w109 ⟨A109, c109, rfl, h⟩
      have H109 := Lib.hid h
      clear h
      try dsimp only
      refine hK.out _ _ (fun _ => have h := H109.out; ⟨h.cells mm4, h.cells mm3⟩) fun hHeld => ?_
      clear hK K
      try simp only [pU, pU0, pA, pB, pC]
      have hHeld := hHeld (by kernel_rfl)
      refine pu 5 ?_
      refine pu 6 ?_
      refine pu 7 ?_
      refine on 8 rfl fun K hK => ?_
      refine step_new (P := Try.prog) _ ⟨rfl, rfl, rfl⟩ newMx5 ?_
      have H110 := Lib.hid (H109.out.putT #[.int .i64 0, .int .i64 0, .slice none 0 0] 38)
      have HB110 := Lib.hid (And.intro H109.out.below.size H109.out.far)
      obtain ⟨g110, hg110⟩ : ∃ x, w109.heap.size = x := ⟨_, rfl⟩
      rw [hg110] at H110 HB110 ⊢
      clear hg110
      generalize w109.alloc (.cells #[.int .i64 0, .int .i64 0, .slice none 0 0] 38) = w110 at *
      try dsimp only
      refine hK.out _ _ (fun _ => have h := H110.out; ⟨h.cells mm5, h.cells mm4⟩) fun hHeld => ?_
      clear hK K
      try simp only [pU, pU0, pA, pB, pC]
      have hHeld := hHeld (by kernel_rfl)
      refine on 9 rfl fun K hK => ?_
      have HP111 := Lib.hid (H110.out.sub (fun _ h => h) (fc mm0 (fc mm1 (fc mm2 (fc mm3 (fc mm4 (fc mm5 fn0)))))))
      obtain ⟨⟨z0, z1, z2⟩, f0, f1, f2⟩ := HP111.out.blk mm0
      go_simp
      have H111 := Lib.hid (HP111.out.set HB110.out.1 (fc (HB110.out.2 (w105.heap.size, #[.int .i64 P1, .int .i64 P2, .slice A105 pn c105]) mm0) (fc (HB110.out.2 (gjy, #[.int .i64 Rb, .int .i64 Cb, .slice Ajy nb cjy]) mm1) (fc (HB110.out.2 (gjx, #[.int .i64 Ra, .int .i64 Ca, .slice Ajx na cjx]) mm2) (fc (HB110.out.2 (w.heap.size + 1, #[.int .i64 Rb, .int .i64 Cb, .slice B nb cb]) mm3) (fc (HB110.out.2 (w.heap.size, #[.int .i64 Ra, .int .i64 Ca, .slice A na ca]) mm4) fn0))))) (.int .i64 P1) (.int .i64 P2) (.slice A109 pn c109))
      clear z0 z1 z2 f0 f1 f2 HP111
      generalize ((w110.setCell ⟨g110, 0, none⟩ (.int .i64 P1)).setCell ⟨g110, 1, none⟩ (.int .i64 P2)).setCell ⟨g110, 2, none⟩ (.slice A109 pn c109) = w111 at *
      try dsimp only
      refine hK.out _ _ (fun _ => have h := H111.out; ⟨h.cells mm5, h.cells mm4⟩) fun hHeld => ?_
      clear hK K
      try simp only [pU, pU0, pA, pB, pC]
      have hHeld := hHeld (by kernel_rfl)
      refine pu 10 ?_
      refine wpAnyG_done (by kernel_rfl) ?_ _
      refine NoPanic.normal ?_
      exact REST g110 A109 c109 w111 (H111.out.sub (fun _ h => h) (fc mm0 (fc mm1 (fc mm2 (fc mm3 (fc mm4 (fc mm5 fn0)))))))
     ·skip
      refine step_new (P := Try.prog) _ ⟨rfl, rfl, rfl⟩ newMx5 ?_
      have H109 := Lib.hid (H108.out.putT #[.int .i64 0, .int .i64 0, .slice none 0 0] 38)
      have HB109 := Lib.hid (And.intro H108.out.below.size H108.out.far)
      obtain ⟨g109, hg109⟩ : ∃ x, w108.heap.size = x := ⟨_, rfl⟩
      rw [hg109] at H109 HB109 ⊢
      clear hg109
      generalize w108.alloc (.cells #[.int .i64 0, .int .i64 0, .slice none 0 0] 38) = w109 at *
      try dsimp only
      refine hK.out _ _ (fun _ => have h := H109.out; ⟨h.cells mm5, h.cells mm4⟩) fun hHeld => ?_
      clear hK K
      try simp only [pU, pU0, pA, pB, pC]
      have hHeld := hHeld (by kernel_rfl)
      refine on 4 rfl fun K hK => ?_
      go_simp
      refine (HMU.out.doc H109.out mm4 mm3).mono ?_
      rintro e w110 ⟨A110, c110, rfl, h⟩
      have H110 := Lib.hid h
      clear h
      try dsimp only
      refine hK.out _ _ (fun _ => have h := H110.out; ⟨h.cells mm5, h.cells mm4⟩) fun hHeld => ?_
      clear hK K
      try simp only [pU, pU0, pA, pB, pC]
      have hHeld := hHeld (by kernel_rfl)
      refine pu 5 ?_
      refine pu 6 ?_
      refine pu 7 ?_
      refine on 9 rfl fun K hK => ?_
      have HP111 := Lib.hid (H110.out.sub (fun _ h => h) (fc mm0 (fc mm1 (fc mm2 (fc mm3 (fc mm4 (fc mm5 fn0)))))))
      obtain ⟨⟨z0, z1, z2⟩, f0, f1, f2⟩ := HP111.out.blk mm0
      go_simp
      have H111 := Lib.hid (HP111.out.set HB109.out.1 (fc (HB109.out.2 (w105.heap.size, #[.int .i64 P1, .int .i64 P2, .slice A105 pn c105]) mm0) (fc (HB109.out.2 (gjy, #[.int .i64 Rb, .int .i64 Cb, .slice Ajy nb cjy]) mm1) (fc (HB109.out.2 (gjx, #[.int .i64 Ra, .int .i64 Ca, .slice Ajx na cjx]) mm2) (fc (HB109.out.2 (w.heap.size + 1, #[.int .i64 Rb, .int .i64 Cb, .slice B nb cb]) mm3) (fc (HB109.out.2 (w.heap.size, #[.int .i64 Ra, .int .i64 Ca, .slice A na ca]) mm4) fn0))))) (.int .i64 P1) (.int .i64 P2) (.slice A110 pn c110))
      clear z0 z1 z2 f0 f1 f2 HP111
      generalize ((w110.setCell ⟨g109, 0, none⟩ (.int .i64 P1)).setCell ⟨g109, 1, none⟩ (.int .i64 P2)).setCell ⟨g109, 2, none⟩ (.slice A110 pn c110) = w111 at *
      try dsimp only
      refine hK.out _ _ (fun _ => have h := H111.out; ⟨h.cells mm5, h.cells mm4⟩) fun hHeld => ?_
      clear hK K
      try simp only [pU, pU0, pA, pB, pC]
      have hHeld := hHeld (by kernel_rfl)
      refine pu 10 ?_
      refine wpAnyG_done (by kernel_rfl) ?_ _
      refine NoPanic.normal ?_
      exact REST g109 A110 c110 w111 (H111.out.sub (fun _ h => h) (fc mm0 (fc mm1 (fc mm2 (fc mm3 (fc mm4 (fc mm5 fn0)))))))
    ·skip
     refine step_new (P := Try.prog) _ ⟨rfl, rfl, rfl⟩ newMx5 ?_
     have H108 := Lib.hid (H107.out.putT #[.int .i64 0, .int .i64 0, .slice none 0 0] 38)
     have HB108 := Lib.hid (And.intro H107.out.below.size H107.out.far)
     obtain ⟨g108, hg108⟩ : ∃ x, w107.heap.size = x := ⟨_, rfl⟩
     rw [hg108] at H108 HB108 ⊢
     clear hg108
     generalize w107.alloc (.cells #[.int .i64 0, .int .i64 0, .slice none 0 0] 38) = w108 at *
     try dsimp only
     refine hK.out _ _ (fun _ => have h := H108.out; ⟨h.cells mm5, h.cells mm4⟩) fun hHeld => ?_
     clear hK K
     try simp only [pU, pU0, pA, pB, pC]
     have hHeld := hHeld (by kernel_rfl)
     refine on 3 rfl fun K hK => ?_
     go_simp
     refine (plainR H108.out ).mono ?_
     rintro e w109 ⟨rfl, h⟩
     have H109 := Lib.hid h
     clear h
     try dsimp only
     refine hK.out _ _ (fun _ => have h := H109.out; ⟨h.cells mm5, h.cells mm4⟩) fun hHeld => ?_
     clear hK K
     try simp only [pU, pU0, pA, pB, pC]
     have hHeld := hHeld (by kernel_rfl)
     refine on 4 rfl fun K hK => ?_
     go_simp
     refine (HMU.out.doc H109.out mm4 mm3).mono ?_
     rintro e w110 ⟨A110, c110, rfl, h⟩
     have H110 := Lib.hid h
     clear h
     try dsimp only
     refine hK.out _ _ (fun _ => have h := H110.out; ⟨h.cells mm5, h.cells mm4⟩) fun hHeld => ?_
     clear hK K
     try simp only [pU, pU0, pA, pB, pC]
     have hHeld := hHeld (by kernel_rfl)
     refine pu 5 ?_
     refine pu 6 ?_
     refine pu 7 ?_
     refine on 9 rfl fun K hK => ?_
     have HP111 := Lib.hid (H110.out.sub (fun _ h => h) (fc mm0 (fc mm1 (fc mm2 (fc mm3 (fc mm4 (fc mm5 fn0)))))))
     obtain ⟨⟨z0, z1, z2⟩, f0, f1, f2⟩ := HP111.out.blk mm0
     go_simp
     have H111 := Lib.hid (HP111.out.set HB108.out.1 (fc (HB108.out.2 (w105.heap.size, #[.int .i64 P1, .int .i64 P2, .slice A105 pn c105]) mm0) (fc (HB108.out.2 (gjy, #[.int .i64 Rb, .int .i64 Cb, .slice Ajy nb cjy]) mm1) (fc (HB108.out.2 (gjx, #[.int .i64 Ra, .int .i64 Ca, .slice Ajx na cjx]) mm2) (fc (HB108.out.2 (w.heap.size + 1, #[.int .i64 Rb, .int .i64 Cb, .slice B nb cb]) mm3) (fc (HB108.out.2 (w.heap.size, #[.int .i64 Ra, .int .i64 Ca, .slice A na ca]) mm4) fn0))))) (.int .i64 P1) (.int .i64 P2) (.slice A110 pn c110))
     clear z0 z1 z2 f0 f1 f2 HP111
     generalize ((w110.setCell ⟨g108, 0, none⟩ (.int .i64 P1)).setCell ⟨g108, 1, none⟩ (.int .i64 P2)).setCell ⟨g108, 2, none⟩ (.slice A110 pn c110) = w111 at *
     try dsimp only
     refine hK.out _ _ (fun _ => have h := H111.out; ⟨h.cells mm5, h.cells mm4⟩) fun hHeld => ?_
     clear hK K
     try simp only [pU, pU0, pA, pB, pC]
     have hHeld := hHeld (by kernel_rfl)
     refine pu 10 ?_
     refine wpAnyG_done (by kernel_rfl) ?_ _
     refine NoPanic.normal ?_
     exact REST g108 A110 c110 w111 (H111.out.sub (fun _ h => h) (fc mm0 (fc mm1 (fc mm2 (fc mm3 (fc mm4 (fc mm5 fn0)))))))
   ·skip
    refine step_new (P := Try.prog) _ ⟨rfl, rfl, rfl⟩ newMx5 ?_
    have H107 := Lib.hid (HD106.out.putT #[.int .i64 0, .int .i64 0, .slice none 0 0] 38)
    have HB107 := Lib.hid (And.intro HD106.out.below.size HD106.out.far)
    obtain ⟨g107, hg107⟩ : ∃ x, wd106.heap.size = x := ⟨_, rfl⟩
    rw [hg107] at H107 HB107 ⊢
    clear hg107
    generalize wd106.alloc (.cells #[.int .i64 0, .int .i64 0, .slice none 0 0] 38) = w107 at *
    try dsimp only
    refine hK.out _ _ (fun _ => have h := H107.out; ⟨h.cells mm5, h.cells mm4⟩) fun hHeld => ?_
    clear hK K
    try simp only [pU, pU0, pA, pB, pC]
    have hHeld := hHeld (by kernel_rfl)
    refine on 1 rfl fun K hK => ?_
    go_simp
    refine (plainR H107.out ).mono ?_
    rintro e w108 ⟨rfl, h⟩
    have H108 := Lib.hid h
    clear h
    try dsimp only
    refine hK.out _ _ (fun _ => have h := H108.out; ⟨h.cells mm5, h.cells mm4⟩) fun hHeld => ?_
    clear hK K
    try simp only [pU, pU0, pA, pB, pC]
    have hHeld := hHeld (by kernel_rfl)
    refine on 3 rfl fun K hK => ?_
    go_simp
    refine (plainR H108.out ).mono ?_
    rintro e w109 ⟨rfl, h⟩
    have H109 := Lib.hid h
    clear h
    try dsimp only
    refine hK.out _ _ (fun _ => have h := H109.out; ⟨h.cells mm5, h.cells mm4⟩) fun hHeld => ?_
    clear hK K
    try simp only [pU, pU0, pA, pB, pC]
    have hHeld := hHeld (by kernel_rfl)
    refine on 4 rfl fun K hK => ?_
    go_simp
    refine (HMU.out.doc H109.out mm4 mm3).mono ?_
    rintro e w110 ⟨A110, c110, rfl, h⟩
    have H110 := Lib.hid h
    clear h
    try dsimp only
    refine hK.out _ _ (fun _ => have h := H110.out; ⟨h.cells mm5, h.cells mm4⟩) fun hHeld => ?_
    clear hK K
    try simp only [pU, pU0, pA, pB, pC]
    have hHeld := hHeld (by kernel_rfl)
    refine pu 5 ?_
    refine pu 6 ?_
    refine pu 7 ?_
    refine on 9 rfl fun K hK => ?_
    have HP111 := Lib.hid (H110.out.sub (fun _ h => h) (fc mm0 (fc mm1 (fc mm2 (fc mm3 (fc mm4 (fc mm5 fn0)))))))
    obtain ⟨⟨z0, z1, z2⟩, f0, f1, f2⟩ := HP111.out.blk mm0
    go_simp
    have H111 := Lib.hid (HP111.out.set HB107.out.1 (fc (HB107.out.2 (w105.heap.size, #[.int .i64 P1, .int .i64 P2, .slice A105 pn c105]) mm0) (fc (HB107.out.2 (gjy, #[.int .i64 Rb, .int .i64 Cb, .slice Ajy nb cjy]) mm1) (fc (HB107.out.2 (gjx, #[.int .i64 Ra, .int .i64 Ca, .slice Ajx na cjx]) mm2) (fc (HB107.out.2 (w.heap.size + 1, #[.int .i64 Rb, .int .i64 Cb, .slice B nb cb]) mm3) (fc (HB107.out.2 (w.heap.size, #[.int .i64 Ra, .int .i64 Ca, .slice A na ca]) mm4) fn0))))) (.int .i64 P1) (.int .i64 P2) (.slice A110 pn c110))
    clear z0 z1 z2 f0 f1 f2 HP111
    generalize ((w110.setCell ⟨g107, 0, none⟩ (.int .i64 P1)).setCell ⟨g107, 1, none⟩ (.int .i64 P2)).setCell ⟨g107, 2, none⟩ (.slice A110 pn c110) = w111 at *
    try dsimp only
    refine hK.out _ _ (fun _ => have h := H111.out; ⟨h.cells mm5, h.cells mm4⟩) fun hHeld => ?_
    clear hK K
    try simp only [pU, pU0, pA, pB, pC]
    have hHeld := hHeld (by kernel_rfl)
    refine pu 10 ?_
    refine wpAnyG_done (by kernel_rfl) ?_ _
    refine NoPanic.normal ?_
    exact REST g107 A110 c110 w111 (H111.out.sub (fun _ h => h) (fc mm0 (fc mm1 (fc mm2 (fc mm3 (fc mm4 (fc mm5 fn0)))))))
  case rest =>
   intro gjq Ajq cjq w206 h
   have H206 := Lib.hid h
   clear h H106
   obtain ⟨a8, b8, d8⟩ := H206.out.cells mm3
   obtain ⟨a9, b9, d9⟩ := H206.out.cells mm2
   go_wp2_with fail
   clear a8 b8 d8 a9 b9 d9
   refine (HSO.out.prog H206.out mm3 mm2).mono ?_
   rintro e w207 ⟨A207, c207, rfl, h⟩
   have H207 := Lib.hid h
   clear h
   have L10 := Lib.hid (H207.out.put #[.int .i64 S1, .int .i64 S2, .slice A207 sn c207])
   go_wp2_with fail
   have H208 := L10
   clear L10
   generalize (w207.alloc (.cells #[.int .i64 S1, .int .i64 S2, .slice A207 sn c207] 27)) = w208 at *
   apply via1_1 (H := fun (gjt : Nat) (Ajt : Option Addr) (cjt : Nat) W => MS w (some fq) [⟨Ajt, ls, cjt⟩, ⟨A207, ls, c207⟩, ⟨Ajq, lp, cjq⟩, ⟨A105, lp, c105⟩, ⟨Ajy, lb, cjy⟩, ⟨Ajx, la, cjx⟩, ⟨B, lb, cb⟩, ⟨A, la, ca⟩] [(gjt, #[.int .i64 S1, .int .i64 S2, .slice Ajt sn cjt]), (w207.heap.size, #[.int .i64 S1, .int .i64 S2, .slice A207 sn c207]), (gjq, #[.int .i64 P1, .int .i64 P2, .slice Ajq pn cjq]), (w105.heap.size, #[.int .i64 P1, .int .i64 P2, .slice A105 pn c105]), (gjy, #[.int .i64 Rb, .int .i64 Cb, .slice Ajy nb cjy]), (gjx, #[.int .i64 Ra, .int .i64 Ca, .slice Ajx na cjx]), (w.heap.size + 1, #[.int .i64 Rb, .int .i64 Cb, .slice B nb cb]), (w.heap.size, #[.int .i64 Ra, .int .i64 Ca, .slice A na ca])] W)
   case main =>
    intro REST
    refine wp_region_noPanic ?_
    refine wp_heldG (fun w' => (w'.cell? ⟨w.heap.size, 0, none⟩ = some (.int .i64 Ra) ∧ w'.cell? ⟨w.heap.size, 1, none⟩ = some (.int .i64 Ca) ∧ w'.cell? ⟨w.heap.size, 2, none⟩ = some (.slice A na ca)) ∧ (w'.cell? ⟨w.heap.size + 1, 0, none⟩ = some (.int .i64 Rb) ∧ w'.cell? ⟨w.heap.size + 1, 1, none⟩ = some (.int .i64 Cb) ∧ w'.cell? ⟨w.heap.size + 1, 2, none⟩ = some (.slice B nb cb))) [] (by kernel_rfl) ?hs0 ?rg0
    case hs0 =>
     have h := H208.out.keep (nextN (Mem.start w208) 1)
     exact ⟨h.cells mm6, h.cells mm5⟩
    case rg0 =>
    intro hHeld
    have HD208 := Lib.hid (show MS _ _ _ _ w208.drew from H208.out.keep (nextN (Mem.start w208) 1))
    generalize w208.drew = wd208 at *
    refine tk 0 rfl (by intro w hSw; obtain ⟨⟨k0, k1, k2⟩, ⟨l0, l1, l2⟩⟩ := hSw; go_simp; try with_reducible rfl) ?_
    refine tk 2 rfl (by intro w hSw; obtain ⟨⟨k0, k1, k2⟩, ⟨l0, l1, l2⟩⟩ := hSw; go_simp; try with_reducible rfl) ?_
    refine tw 1 8 rfl rfl (fun K hK => ?_) fun K hK => ?_
    ·skip
     go_simp
     refine (plainR HD208.out ).mono ?_
     rintro e w209 ⟨rfl, h⟩
     have H209 := Lib.hid h
     clear h
     try dsimp only
     refine hK.out _ _ (fun _ => have h := H209.out; ⟨h.cells mm6, h.cells mm5⟩) fun hHeld => ?_
     clear hK K
     try simp only [pU, pU0, pA, pB, pC]
     have hHeld := hHeld (by kernel_rfl)
     refine tw 3 8 rfl rfl (fun K hK => ?_) fun K hK => ?_
     ·skip
      go_simp
      refine (plainR H209.out ).mono ?_
      rintro e w210 ⟨rfl, h⟩
      have H210 := Lib.hid h
      clear h
      try dsimp only
      refine hK.out _ _ (fun _ => have h := H210.out; ⟨h.cells mm6, h.cells mm5⟩) fun hHeld => ?_
      clear hK K
      try simp only [pU, pU0, pA, pB, pC]
      have hHeld := hHeld (by kernel_rfl)
      refine tw 4 8 rfl rfl (fun K hK => ?_) fun K hK => ?_
      ·skip
       go_simp
       refine (HSO.out.doc H210.out mm6 mm5).mono ?_
       rintro e w211 ⟨A211, c211, rfl, h⟩
       have H211 := Lib.hid h
       clear h
       try dsimp only
       refine hK.out _ _ (fun _ => have h := H211.out; ⟨h.cells mm6, h.cells mm5⟩) fun hHeld => ?_
       clear hK K
       try simp only [pU, pU0, pA, pB, pC]
       have hHeld := hHeld (by kernel_rfl)
       refine pu 5 ?_
       refine pu 6 ?_
       refine pu 7 ?_
       refine on 8 rfl fun K hK => ?_
       refine step_new (P := Try.prog) _ ⟨rfl, rfl, rfl⟩ newMx5 ?_
       have H212 := Lib.hid (H211.out.putT #[.int .i64 0, .int .i64 0, .slice none 0 0] 38)
       have HB212 := Lib.hid (And.intro H211.out.below.size H211.out.far)
       obtain ⟨g212, hg212⟩ : ∃ x, w211.heap.size = x := ⟨_, rfl⟩
       rw [hg212] at H212 HB212 ⊢
       clear hg212
       generalize w211.alloc (.cells #[.int .i64 0, .int .i64 0, .slice none 0 0] 38) = w212 at *
       try dsimp only
       refine hK.out _ _ (fun _ => have h := H212.out; ⟨h.cells mm7, h.cells mm6⟩) fun hHeld => ?_
       clear hK K
       try simp only [pU, pU0, pA, pB, pC]
       have hHeld := hHeld (by kernel_rfl)
       refine on 9 rfl fun K hK => ?_
       have HP213 := Lib.hid (H212.out.sub (fun _ h => h) (fc mm0 (fc mm1 (fc mm2 (fc mm3 (fc mm4 (fc mm5 (fc mm6 (fc mm7 fn0)))))))))
       obtain ⟨⟨z0, z1, z2⟩, f0, f1, f2⟩ := HP213.out.blk mm0
       go_simp
       have H213 := Lib.hid (HP213.out.set HB212.out.1 (fc (HB212.out.2 (w207.heap.size, #[.int .i64 S1, .int .i64 S2, .slice A207 sn c207]) mm0) (fc (HB212.out.2 (gjq, #[.int .i64 P1, .int .i64 P2, .slice Ajq pn cjq]) mm1) (fc (HB212.out.2 (w105.heap.size, #[.int .i64 P1, .int .i64 P2, .slice A105 pn c105]) mm2) (fc (HB212.out.2 (gjy, #[.int .i64 Rb, .int .i64 Cb, .slice Ajy nb cjy]) mm3) (fc (HB212.out.2 (gjx, #[.int .i64 Ra, .int .i64 Ca, .slice Ajx na cjx]) mm4) (fc (HB212.out.2 (w.heap.size + 1, #[.int .i64 Rb, .int .i64 Cb, .slice B nb cb]) mm5) (fc (HB212.out.2 (w.heap.size, #[.int .i64 Ra, .int .i64 Ca, .slice A na ca]) mm6) fn0))))))) (.int .i64 S1) (.int .i64 S2) (.slice A211 sn c211))
       clear z0 z1 z2 f0 f1 f2 HP213
       generalize ((w212.setCell ⟨g212, 0, none⟩ (.int .i64 S1)).setCell ⟨g212, 1, none⟩ (.int .i64 S2)).setCell ⟨g212, 2, none⟩ (.slice A211 sn c211) = w213 at *
       try dsimp only
       refine hK.out _ _ (fun _ => have h := H213.out; ⟨h.cells mm7, h.cells mm6⟩) fun hHeld => ?_
       clear hK K
       try simp only [pU, pU0, pA, pB, pC]
       have hHeld := hHeld (by kernel_rfl)
       refine pu 10 ?_
       refine wpAnyG_done (by kernel_rfl) ?_ _
       refine NoPanic.normal ?_
       exact REST g212 A211 c211 w213 (H213.out.sub (fun _ h => h) (fc mm0 (fc mm1 (fc mm2 (fc mm3 (fc mm4 (fc mm5 (fc mm6 (fc mm7 fn0)))))))))
      ·skip
       refine step_new (P := Try.prog) _ ⟨rfl, rfl, rfl⟩ newMx5 ?_
       have H211 := Lib.hid (H210.out.putT #[.int .i64 0, .int .i64 0, .slice none 0 0] 38)
       have HB211 := Lib.hid (And.intro H210.out.below.size H210.out.far)
       obtain ⟨g211, hg211⟩ : ∃ x, w210.heap.size = x := ⟨_, rfl⟩
       rw [hg211] at H211 HB211 ⊢
       clear hg211
       generalize w210.alloc (.cells #[.int .i64 0, .int .i64 0, .slice none 0 0] 38) = w211 at *
       try dsimp only
       refine hK.out _ _ (fun _ => have h := H211.out; ⟨h.cells mm7, h.cells mm6⟩) fun hHeld => ?_
       clear hK K
       try simp only [pU, pU0, pA, pB, pC]
       have hHeld := hHeld (by kernel_rfl)
       refine on 4 rfl fun K hK => ?_
       go_simp
       refine (HSO.out.doc H211.out mm6 mm5).mono ?_
       rintro e w212 ⟨A212, c212, rfl, h⟩
       have H212 := Lib.hid h
       clear h
       try dsimp only
       refine hK.out _ _ (fun _ => have h := H212.out; ⟨h.cells mm7, h.cells mm6⟩) fun hHeld => ?_
       clear hK K
       try simp only [pU, pU0, pA, pB, pC]
       have hHeld := hHeld (by kernel_rfl)
       refine pu 5 ?_
       refine pu 6 ?_
       refine pu 7 ?_
       refine on 9 rfl fun K hK => ?_
       have HP213 := Lib.hid (H212.out.sub (fun _ h => h) (fc mm0 (fc mm1 (fc mm2 (fc mm3 (fc mm4 (fc mm5 (fc mm6 (fc mm7 fn0)))))))))
       obtain ⟨⟨z0, z1, z2⟩, f0, f1, f2⟩ := HP213.out.blk mm0
       go_simp
       have H213 := Lib.hid (HP213.out.set HB211.out.1 (fc (HB211.out.2 (w207.heap.size, #[.int .i64 S1, .int .i64 S2, .slice A207 sn c207]) mm0) (fc (HB211.out.2 (gjq, #[.int .i64 P1, .int .i64 P2, .slice Ajq pn cjq]) mm1) (fc (HB211.out.2 (w105.heap.size, #[.int .i64 P1, .int .i64 P2, .slice A105 pn c105]) mm2) (fc (HB211.out.2 (gjy, #[.int .i64 Rb, .int .i64 Cb, .slice Ajy nb cjy]) mm3) (fc (HB211.out.2 (gjx, #[.int .i64 Ra, .int .i64 Ca, .slice Ajx na cjx]) mm4) (fc (HB211.out.2 (w.heap.size + 1, #[.int .i64 Rb, .int .i64 Cb, .slice B nb cb]) mm5) (fc (HB211.out.2 (w.heap.size, #[.int .i64 Ra, .int .i64 Ca, .slice A na ca]) mm6) fn0))))))) (.int .i64 S1) (.int .i64 S2) (.slice A212 sn c212))
       clear z0 z1 z2 f0 f1 f2 HP213
       generalize ((w212.setCell ⟨g211, 0, none⟩ (.int .i64 S1)).setCell ⟨g211, 1, none⟩ (.int .i64 S2)).setCell ⟨g211, 2, none⟩ (.slice A212 sn c212) = w213 at *
       try dsimp only
       refine hK.out _ _ (fun _ => have h := H213.out; ⟨h.cells mm7, h.cells mm6⟩) fun hHeld => ?_
       clear hK K
       try simp only [pU, pU0, pA, pB, pC]
       have hHeld := hHeld (by kernel_rfl)
       refine pu 10 ?_
       refine wpAnyG_done (by kernel_rfl) ?_ _
       refine NoPanic.normal ?_
       exact REST g211 A212 c212 w213 (H213.out.sub (fun _ h => h) (fc mm0 (fc mm1 (fc mm2 (fc mm3 (fc mm4 (fc mm5 (fc mm6 (fc mm7 fn0)))))))))
     ·skip
      refine step_new (P := Try.prog) _ ⟨rfl, rfl, rfl⟩ newMx5 ?_
      have H210 := Lib.hid (H209.out.putT #[.int .i64 0, .int .i64 0, .slice none 0 0] 38)
      have HB210 := Lib.hid (And.intro H209.out.below.size H209.out.far)
      obtain ⟨g210, hg210⟩ : ∃ x, w209.heap.size = x := ⟨_, rfl⟩
      rw [hg210] at H210 HB210 ⊢
      clear hg210
      generalize w209.alloc (.cells #[.int .i64 0, .int .i64 0, .slice none 0 0] 38) = w210 at *
      try dsimp only
      refine hK.out _ _ (fun _ => have h := H210.out; ⟨h.cells mm7, h.cells mm6⟩) fun hHeld => ?_
      clear hK K
      try simp only [pU, pU0, pA, pB, pC]
      have hHeld := hHeld (by kernel_rfl)
      refine on 3 rfl fun K hK => ?_
      go_simp
      refine (plainR H210.out ).mono ?_
      rintro e w211 ⟨rfl, h⟩
      have H211 := Lib.hid h
      clear h
      try dsimp only
      refine hK.out _ _ (fun _ => have h := H211.out; ⟨h.cells mm7, h.cells mm6⟩) fun hHeld => ?_
      clear hK K
      try simp only [pU, pU0, pA, pB, pC]
      have hHeld := hHeld (by kernel_rfl)
      refine on 4 rfl fun K hK => ?_
      go_simp
      refine (HSO.out.doc H211.out mm6 mm5).mono ?_
      rintro e w212 ⟨A212, c212, rfl, h⟩
      have H212 := Lib.hid h
      clear h
      try dsimp only
      refine hK.out _ _ (fun _ => have h := H212.out; ⟨h.cells mm7, h.cells mm6⟩) fun hHeld => ?_
      clear hK K
      try simp only [pU, pU0, pA, pB, pC]
      have hHeld := hHeld (by kernel_rfl)
      refine pu 5 ?_
      refine pu 6 ?_
      refine pu 7 ?_
      refine on 9 rfl fun K hK => ?_
      have HP213 := Lib.hid (H212.out.sub (fun _ h => h) (fc mm0 (fc mm1 (fc mm2 (fc mm3 (fc mm4 (fc mm5 (fc mm6 (fc mm7 fn0)))))))))
      obtain ⟨⟨z0, z1, z2⟩, f0, f1, f2⟩ := HP213.out.blk mm0
      go_simp
      have H213 := Lib.hid (HP213.out.set HB210.out.1 (fc (HB210.out.2 (w207.heap.size, #[.int .i64 S1, .int .i64 S2, .slice A207 sn c207]) mm0) (fc (HB210.out.2 (gjq, #[.int .i64 P1, .int .i64 P2, .slice Ajq pn cjq]) mm1) (fc (HB210.out.2 (w105.heap.size, #[.int .i64 P1, .int .i64 P2, .slice A105 pn c105]) mm2) (fc (HB210.out.2 (gjy, #[.int .i64 Rb, .int .i64 Cb, .slice Ajy nb cjy]) mm3) (fc (HB210.out.2 (gjx, #[.int .i64 Ra, .int .i64 Ca, .slice Ajx na cjx]) mm4) (fc (HB210.out.2 (w.heap.size + 1, #[.int .i64 Rb, .int .i64 Cb, .slice B nb cb]) mm5) (fc (HB210.out.2 (w.heap.size, #[.int .i64 Ra, .int .i64 Ca, .slice A na ca]) mm6) fn0))))))) (.int .i64 S1) (.int .i64 S2) (.slice A212 sn c212))
      clear z0 z1 z2 f0 f1 f2 HP213
      generalize ((w212.setCell ⟨g210, 0, none⟩ (.int .i64 S1)).setCell ⟨g210, 1, none⟩ (.int .i64 S2)).setCell ⟨g210, 2, none⟩ (.slice A212 sn c212) = w213 at *
      try dsimp only
      refine hK.out _ _ (fun _ => have h := H213.out; ⟨h.cells mm7, h.cells mm6⟩) fun hHeld => ?_
      clear hK K
      try simp only [pU, pU0, pA, pB, pC]
      have hHeld := hHeld (by kernel_rfl)
      refine pu 10 ?_
      refine wpAnyG_done (by kernel_rfl) ?_ _
      refine NoPanic.normal ?_
      exact REST g210 A212 c212 w213 (H213.out.sub (fun _ h => h) (fc mm0 (fc mm1 (fc mm2 (fc mm3 (fc mm4 (fc mm5 (fc mm6 (fc mm7 fn0)))))))))
    ·skip
     refine step_new (P := Try.prog) _ ⟨rfl, rfl, rfl⟩ newMx5 ?_
     have H209 := Lib.hid (HD208.out.putT #[.int .i64 0, .int .i64 0, .slice none 0 0] 38)
     have HB209 := Lib.hid (And.intro HD208.out.below.size HD208.out.far)
     obtain ⟨g209, hg209⟩ : ∃ x, wd208.heap.size = x := ⟨_, rfl⟩
     rw [hg209] at H209 HB209 ⊢
     clear hg209
     generalize wd208.alloc (.cells #[.int .i64 0, .int .i64 0, .slice none 0 0] 38) = w209 at *
     try dsimp only
     refine hK.out _ _ (fun _ => have h := H209.out; ⟨h.cells mm7, h.cells mm6⟩) fun hHeld => ?_
     clear hK K
     try simp only [pU, pU0, pA, pB, pC]
     have hHeld := hHeld (by kernel_rfl)
     refine on 1 rfl fun K hK => ?_
     go_simp
     refine (plainR H209.out ).mono ?_
     rintro e w210 ⟨rfl, h⟩
     have H210 := Lib.hid h
     clear h
     try dsimp only
     refine hK.out _ _ (fun _ => have h := H210.out; ⟨h.cells mm7, h.cells mm6⟩) fun hHeld => ?_
     clear hK K
     try simp only [pU, pU0, pA, pB, pC]
     have hHeld := hHeld (by kernel_rfl)
     refine on 3 rfl fun K hK => ?_
     go_simp
     refine (plainR H210.out ).mono ?_
     rintro e w211 ⟨rfl, h⟩
     have H211 := Lib.hid h
     clear h
     try dsimp only
     refine hK.out _ _ (fun _ => have h := H211.out; ⟨h.cells mm7, h.cells mm6⟩) fun hHeld => ?_
     clear hK K
     try simp only [pU, pU0, pA, pB, pC]
     have hHeld := hHeld (by kernel_rfl)
     refine on 4 rfl fun K hK => ?_
     go_simp
     refine (HSO.out.doc H211.out mm6 mm5).mono ?_
     rintro e w212 ⟨A212, c212, rfl, h⟩
     have H212 := Lib.hid h
     clear h
     try dsimp only
     refine hK.out _ _ (fun _ => have h := H212.out; ⟨h.cells mm7, h.cells mm6⟩) fun hHeld => ?_
     clear hK K
     try simp only [pU, pU0, pA, pB, pC]
     have hHeld := hHeld (by kernel_rfl)
     refine pu 5 ?_
     refine pu 6 ?_
     refine pu 7 ?_
     refine on 9 rfl fun K hK => ?_
     have HP213 := Lib.hid (H212.out.sub (fun _ h => h) (fc mm0 (fc mm1 (fc mm2 (fc mm3 (fc mm4 (fc mm5 (fc mm6 (fc mm7 fn0)))))))))
     obtain ⟨⟨z0, z1, z2⟩, f0, f1, f2⟩ := HP213.out.blk mm0
     go_simp
     have H213 := Lib.hid (HP213.out.set HB209.out.1 (fc (HB209.out.2 (w207.heap.size, #[.int .i64 S1, .int .i64 S2, .slice A207 sn c207]) mm0) (fc (HB209.out.2 (gjq, #[.int .i64 P1, .int .i64 P2, .slice Ajq pn cjq]) mm1) (fc (HB209.out.2 (w105.heap.size, #[.int .i64 P1, .int .i64 P2, .slice A105 pn c105]) mm2) (fc (HB209.out.2 (gjy, #[.int .i64 Rb, .int .i64 Cb, .slice Ajy nb cjy]) mm3) (fc (HB209.out.2 (gjx, #[.int .i64 Ra, .int .i64 Ca, .slice Ajx na cjx]) mm4) (fc (HB209.out.2 (w.heap.size + 1, #[.int .i64 Rb, .int .i64 Cb, .slice B nb cb]) mm5) (fc (HB209.out.2 (w.heap.size, #[.int .i64 Ra, .int .i64 Ca, .slice A na ca]) mm6) fn0))))))) (.int .i64 S1) (.int .i64 S2) (.slice A212 sn c212))
     clear z0 z1 z2 f0 f1 f2 HP213
     generalize ((w212.setCell ⟨g209, 0, none⟩ (.int .i64 S1)).setCell ⟨g209, 1, none⟩ (.int .i64 S2)).setCell ⟨g209, 2, none⟩ (.slice A212 sn c212) = w213 at *
     try dsimp only
     refine hK.out _ _ (fun _ => have h := H213.out; ⟨h.cells mm7, h.cells mm6⟩) fun hHeld => ?_
     clear hK K
     try simp only [pU, pU0, pA, pB, pC]
     have hHeld := hHeld (by kernel_rfl)
     refine pu 10 ?_
     refine wpAnyG_done (by kernel_rfl) ?_ _
     refine NoPanic.normal ?_
     exact REST g209 A212 c212 w213 (H213.out.sub (fun _ h => h) (fc mm0 (fc mm1 (fc mm2 (fc mm3 (fc mm4 (fc mm5 (fc mm6 (fc mm7 fn0)))))))))
   case rest =>
    intro gjt Ajt cjt w308 h
    have H308 := Lib.hid h
    clear h H208
    go_wp2_with fail
    refine wp_region_noPanic ?_
    refine wp_heldG (fun w' => (w'.cell? ⟨w105.heap.size, 0, none⟩ = some (.int .i64 P1) ∧ w'.cell? ⟨w105.heap.size, 1, none⟩ = some (.int .i64 P2) ∧ w'.cell? ⟨w105.heap.size, 2, none⟩ = some (.slice A105 pn c105)) ∧ (w'.cell? ⟨gjq, 0, none⟩ = some (.int .i64 P1) ∧ w'.cell? ⟨gjq, 1, none⟩ = some (.int .i64 P2) ∧ w'.cell? ⟨gjq, 2, none⟩ = some (.slice Ajq pn cjq)) ∧ (w'.cell? ⟨w207.heap.size, 0, none⟩ = some (.int .i64 S1) ∧ w'.cell? ⟨w207.heap.size, 1, none⟩ = some (.int .i64 S2) ∧ w'.cell? ⟨w207.heap.size, 2, none⟩ = some (.slice A207 sn c207)) ∧ (w'.cell? ⟨gjt, 0, none⟩ = some (.int .i64 S1) ∧ w'.cell? ⟨gjt, 1, none⟩ = some (.int .i64 S2) ∧ w'.cell? ⟨gjt, 2, none⟩ = some (.slice Ajt sn cjt)) ∧ (w'.cell? ⟨gjx, 0, none⟩ = some (.int .i64 Ra) ∧ w'.cell? ⟨gjx, 1, none⟩ = some (.int .i64 Ca) ∧ w'.cell? ⟨gjx, 2, none⟩ = some (.slice Ajx na cjx)) ∧ (w'.cell? ⟨gjy, 0, none⟩ = some (.int .i64 Rb) ∧ w'.cell? ⟨gjy, 1, none⟩ = some (.int .i64 Cb) ∧ w'.cell? ⟨gjy, 2, none⟩ = some (.slice Ajy nb cjy)) ∧ (w'.cell? ⟨w.heap.size, 0, none⟩ = some (.int .i64 Ra) ∧ w'.cell? ⟨w.heap.size, 1, none⟩ = some (.int .i64 Ca) ∧ w'.cell? ⟨w.heap.size, 2, none⟩ = some (.slice A na ca)) ∧ (w'.cell? ⟨w.heap.size + 1, 0, none⟩ = some (.int .i64 Rb) ∧ w'.cell? ⟨w.heap.size + 1, 1, none⟩ = some (.int .i64 Cb) ∧ w'.cell? ⟨w.heap.size + 1, 2, none⟩ = some (.slice B nb cb))) [] (by kernel_rfl) ?hs0 ?rg0
    case hs0 =>
     have h := H308.out.keep (nextN (Mem.start w308) 1)
     exact ⟨h.cells mm3, h.cells mm2, h.cells mm1, h.cells mm0, h.cells mm5, h.cells mm4, h.cells mm7, h.cells mm6⟩
    case rg0 =>
    intro hHeld
    have HD308 := Lib.hid (show MS _ _ _ _ w308.drew from H308.out.keep (nextN (Mem.start w308) 1))
    generalize w308.drew = wd308 at *
    refine pu 0 ?_
    refine pu 1 ?_
    refine pu 2 ?_
    refine pu 3 ?_
    refine tk 4 rfl (by intro w hSw; obtain ⟨⟨kp0, kp1, kp2⟩, ⟨kq0, kq1, kq2⟩, ⟨ks0, ks1, ks2⟩, ⟨kt0, kt1, kt2⟩, ⟨kx0, kx1, kx2⟩, ⟨ky0, ky1, ky2⟩, ⟨ka0, ka1, ka2⟩, ⟨kb0, kb1, kb2⟩⟩ := hSw; go_simp; try with_reducible rfl) ?_
    refine tk 5 rfl (by intro w hSw; obtain ⟨⟨kp0, kp1, kp2⟩, ⟨kq0, kq1, kq2⟩, ⟨ks0, ks1, ks2⟩, ⟨kt0, kt1, kt2⟩, ⟨kx0, kx1, kx2⟩, ⟨ky0, ky1, ky2⟩, ⟨ka0, ka1, ka2⟩, ⟨kb0, kb1, kb2⟩⟩ := hSw; go_simp; try with_reducible rfl) ?_
    refine on 6 rfl fun K hK => ?_
    go_simp
    refine (lsameR HD308.out mm3 HMU.out.len mm2 HMU.out.len (v := true) (sameB_self _ _ _)).mono ?_
    rintro e w309 ⟨rfl, h⟩
    have H309 := Lib.hid h
    clear h
    try dsimp only
    refine hK.out _ _ (fun _ => have h := H309.out; ⟨h.cells mm3, h.cells mm2, h.cells mm1, h.cells mm0, h.cells mm5, h.cells mm4, h.cells mm7, h.cells mm6⟩) fun hHeld => ?_
    clear hK K
    try simp only [pU, pU0, pA, pB, pC]
    have hHeld := hHeld (by kernel_rfl)
    refine pu 7 ?_
    refine pu 8 ?_
    refine pu 9 ?_
    refine pu 10 ?_
    refine pu 11 ?_
    refine pu 12 ?_
    refine pu 13 ?_
    refine tk 14 rfl (by intro w hSw; obtain ⟨⟨kp0, kp1, kp2⟩, ⟨kq0, kq1, kq2⟩, ⟨ks0, ks1, ks2⟩, ⟨kt0, kt1, kt2⟩, ⟨kx0, kx1, kx2⟩, ⟨ky0, ky1, ky2⟩, ⟨ka0, ka1, ka2⟩, ⟨kb0, kb1, kb2⟩⟩ := hSw; go_simp; try with_reducible rfl) ?_
    refine tk 15 rfl (by intro w hSw; obtain ⟨⟨kp0, kp1, kp2⟩, ⟨kq0, kq1, kq2⟩, ⟨ks0, ks1, ks2⟩, ⟨kt0, kt1, kt2⟩, ⟨kx0, kx1, kx2⟩, ⟨ky0, ky1, ky2⟩, ⟨ka0, ka1, ka2⟩, ⟨kb0, kb1, kb2⟩⟩ := hSw; go_simp; try with_reducible rfl) ?_
    refine on 16 rfl fun K hK => ?_
    go_simp
    refine (lsameR H309.out mm1 HSO.out.len mm0 HSO.out.len (v := true) (sameB_self _ _ _)).mono ?_
    rintro e w310 ⟨rfl, h⟩
    have H310 := Lib.hid h
    clear h
    try dsimp only
    refine hK.out _ _ (fun _ => have h := H310.out; ⟨h.cells mm3, h.cells mm2, h.cells mm1, h.cells mm0, h.cells mm5, h.cells mm4, h.cells mm7, h.cells mm6⟩) fun hHeld => ?_
    clear hK K
    try simp only [pU, pU0, pA, pB, pC]
    have hHeld := hHeld (by kernel_rfl)
    refine pu 17 ?_
    refine pu 18 ?_
    refine tk 19 rfl (by intro w hSw; obtain ⟨⟨kp0, kp1, kp2⟩, ⟨kq0, kq1, kq2⟩, ⟨ks0, ks1, ks2⟩, ⟨kt0, kt1, kt2⟩, ⟨kx0, kx1, kx2⟩, ⟨ky0, ky1, ky2⟩, ⟨ka0, ka1, ka2⟩, ⟨kb0, kb1, kb2⟩⟩ := hSw; go_simp; try with_reducible rfl) ?_
    refine tk 20 rfl (by intro w hSw; obtain ⟨⟨kp0, kp1, kp2⟩, ⟨kq0, kq1, kq2⟩, ⟨ks0, ks1, ks2⟩, ⟨kt0, kt1, kt2⟩, ⟨kx0, kx1, kx2⟩, ⟨ky0, ky1, ky2⟩, ⟨ka0, ka1, ka2⟩, ⟨kb0, kb1, kb2⟩⟩ := hSw; go_simp; try with_reducible rfl) ?_
    refine on 21 rfl fun K hK => ?_
    go_simp
    refine (sameR H310.out mm5 HLNa.out mm7 HLNa.out (v := true) (sameB_self _ _ _)).mono ?_
    rintro e w311 ⟨rfl, h⟩
    have H311 := Lib.hid h
    clear h
    try dsimp only
    refine hK.out _ _ (fun _ => have h := H311.out; ⟨h.cells mm3, h.cells mm2, h.cells mm1, h.cells mm0, h.cells mm5, h.cells mm4, h.cells mm7, h.cells mm6⟩) fun hHeld => ?_
    clear hK K
    try simp only [pU, pU0, pA, pB, pC]
    have hHeld := hHeld (by kernel_rfl)
    refine pu 22 ?_
    refine pu 23 ?_
    refine tk 24 rfl (by intro w hSw; obtain ⟨⟨kp0, kp1, kp2⟩, ⟨kq0, kq1, kq2⟩, ⟨ks0, ks1, ks2⟩, ⟨kt0, kt1, kt2⟩, ⟨kx0, kx1, kx2⟩, ⟨ky0, ky1, ky2⟩, ⟨ka0, ka1, ka2⟩, ⟨kb0, kb1, kb2⟩⟩ := hSw; go_simp; try with_reducible rfl) ?_
    refine tk 25 rfl (by intro w hSw; obtain ⟨⟨kp0, kp1, kp2⟩, ⟨kq0, kq1, kq2⟩, ⟨ks0, ks1, ks2⟩, ⟨kt0, kt1, kt2⟩, ⟨kx0, kx1, kx2⟩, ⟨ky0, ky1, ky2⟩, ⟨ka0, ka1, ka2⟩, ⟨kb0, kb1, kb2⟩⟩ := hSw; go_simp; try with_reducible rfl) ?_
    refine on 26 rfl fun K hK => ?_
    go_simp
    refine (sameR H311.out mm4 HLNb.out mm6 HLNb.out (v := true) (sameB_self _ _ _)).mono ?_
    rintro e w312 ⟨rfl, h⟩
    have H312 := Lib.hid h
    clear h
    try dsimp only
    refine hK.out _ _ (fun _ => have h := H312.out; ⟨h.cells mm3, h.cells mm2, h.cells mm1, h.cells mm0, h.cells mm5, h.cells mm4, h.cells mm7, h.cells mm6⟩) fun hHeld => ?_
    clear hK K
    try simp only [pU, pU0, pA, pB, pC]
    have hHeld := hHeld (by kernel_rfl)
    refine pu 27 ?_
    refine pu 28 ?_
    refine tk 29 rfl (by intro w hSw; obtain ⟨⟨kp0, kp1, kp2⟩, ⟨kq0, kq1, kq2⟩, ⟨ks0, ks1, ks2⟩, ⟨kt0, kt1, kt2⟩, ⟨kx0, kx1, kx2⟩, ⟨ky0, ky1, ky2⟩, ⟨ka0, ka1, ka2⟩, ⟨kb0, kb1, kb2⟩⟩ := hSw; go_simp; try with_reducible rfl) ?_
    refine tk 30 rfl (by intro w hSw; obtain ⟨⟨kp0, kp1, kp2⟩, ⟨kq0, kq1, kq2⟩, ⟨ks0, ks1, ks2⟩, ⟨kt0, kt1, kt2⟩, ⟨kx0, kx1, kx2⟩, ⟨ky0, ky1, ky2⟩, ⟨ka0, ka1, ka2⟩, ⟨kb0, kb1, kb2⟩⟩ := hSw; go_simp; try with_reducible rfl) ?_
    refine tk 32 rfl (by intro w hSw; obtain ⟨⟨kp0, kp1, kp2⟩, ⟨kq0, kq1, kq2⟩, ⟨ks0, ks1, ks2⟩, ⟨kt0, kt1, kt2⟩, ⟨kx0, kx1, kx2⟩, ⟨ky0, ky1, ky2⟩, ⟨ka0, ka1, ka2⟩, ⟨kb0, kb1, kb2⟩⟩ := hSw; go_simp; try with_reducible rfl) ?_
    refine tk 34 rfl (by intro w hSw; obtain ⟨⟨kp0, kp1, kp2⟩, ⟨kq0, kq1, kq2⟩, ⟨ks0, ks1, ks2⟩, ⟨kt0, kt1, kt2⟩, ⟨kx0, kx1, kx2⟩, ⟨ky0, ky1, ky2⟩, ⟨ka0, ka1, ka2⟩, ⟨kb0, kb1, kb2⟩⟩ := hSw; go_simp; try with_reducible rfl) ?_
    refine on 31 rfl fun K hK => ?_
    go_simp
    refine (sameR H312.out mm7 HLNa.out mm6 HLNb.out (v := sameB Ra Ca Rb Cb la lb) rfl).mono ?_
    rintro e w313 ⟨rfl, h⟩
    have H313 := Lib.hid h
    clear h
    try dsimp only
    refine hK.out _ _ (fun _ => have h := H313.out; ⟨h.cells mm3, h.cells mm2, h.cells mm1, h.cells mm0, h.cells mm5, h.cells mm4, h.cells mm7, h.cells mm6⟩) fun hHeld => ?_
    clear hK K
    try simp only [pU, pU0, pA, pB, pC]
    have hHeld := hHeld (by kernel_rfl)
    refine on 33 rfl fun K hK => ?_
    go_simp
    refine (plainR H313.out ).mono ?_
    rintro e w314 ⟨rfl, h⟩
    have H314 := Lib.hid h
    clear h
    try dsimp only
    refine hK.out _ _ (fun _ => have h := H314.out; ⟨h.cells mm3, h.cells mm2, h.cells mm1, h.cells mm0, h.cells mm5, h.cells mm4, h.cells mm7, h.cells mm6⟩) fun hHeld => ?_
    clear hK K
    try simp only [pU, pU0, pA, pB, pC]
    have hHeld := hHeld (by kernel_rfl)
    refine on 35 rfl fun K hK => ?_
    go_simp
    refine (plainR H314.out ).mono ?_
    rintro e w315 ⟨rfl, h⟩
    have H315 := Lib.hid h
    clear h
    try dsimp only
    refine hK.out _ _ (fun _ => have h := H315.out; ⟨h.cells mm3, h.cells mm2, h.cells mm1, h.cells mm0, h.cells mm5, h.cells mm4, h.cells mm7, h.cells mm6⟩) fun hHeld => ?_
    clear hK K
    try simp only [pU, pU0, pA, pB, pC]
    have hHeld := hHeld (by kernel_rfl)
    refine on 36 rfl fun K hK => ?_
    go_simp
    refine (rsameR H315.out mm7 HLNa.out mm6 HLNb.out (v := sameB Ra Ca Rb Cb la lb) rfl).mono ?_
    rintro e w316 ⟨rfl, h⟩
    have H316 := Lib.hid h
    clear h
    try dsimp only
    refine hK.out _ _ (fun _ => have h := H316.out; ⟨h.cells mm3, h.cells mm2, h.cells mm1, h.cells mm0, h.cells mm5, h.cells mm4, h.cells mm7, h.cells mm6⟩) fun hHeld => ?_
    clear hK K
    try simp only [pU, pU0, pA, pB, pC]
    have hHeld := hHeld (by kernel_rfl)
    refine pu 37 ?_
    refine pu 38 ?_
    refine pu 39 ?_
    refine on 40 rfl fun K hK => ?_
    go_simp
    refine (works_any _).mono ?_
    rintro e w317 ⟨rfl, hb⟩
    have H317 := Lib.hid (MS.keep H316.out hb)
    clear hb
    try dsimp only
    refine hK.out _ _ (fun _ => have h := H317.out; ⟨h.cells mm3, h.cells mm2, h.cells mm1, h.cells mm0, h.cells mm5, h.cells mm4, h.cells mm7, h.cells mm6⟩) fun hHeld => ?_
    clear hK K
    try simp only [pU, pU0, pA, pB, pC]
    have hHeld := hHeld (by kernel_rfl)
    refine pu 41 ?_
    refine pu 42 ?_
    refine wpAnyG_done (by kernel_rfl) ?_ _
    refine NoPanic.normal ?_
    go_wp2_with fail
    go_ret
    exact ⟨rfl, H317.out.below⟩
end Go.Proofs.Ythdapoipfnnaeaa.MxW
/- The law MatrixTwo: its walk. -/
namespace Go.Proofs.Ythdapoipfnnaeaa.MxW
open Go.RowKit Go.Shelf Mem Gf FdW Mx Rng
open PlW (In)
set_option linter.unusedVariables false
set_option linter.unusedSectionVars false
attribute [local go_sem] Oper.semAt_some wide_fn
set_option maxRecDepth 100000 in
set_option maxHeartbeats 40000000 in
theorem two_out0 (w : World)  (Ra Ca : Int) (A : Option Addr) (la : List UInt8) (na ca : Nat) (hla : la.length = na) (hA : Bytes w w.heap.size A la) (hca : la.length ≤ ca) (Rb Cb : Int) (B : Option Addr) (lb : List UInt8) (nb cb : Nat) (hlb : lb.length = nb) (hB : Bytes w w.heap.size B lb) (hcb : lb.length ≤ cb) (hsa : smallB 12 Ra Ca na = false) :
    Calls Try.prog 4 #[.agg #[.int .i64 Ra, .int .i64 Ca, .slice A na ca], .agg #[.int .i64 Rb, .int .i64 Cb, .slice B nb cb]] w fun e w' => e = .returned (.bool true) ∧ Below w.heap.size w w' := by
 have H0 := Lib.hid (((MS.start w).arg hA hca).arg hB hcb)
 have HLNa := Lib.hid hla
 have HLNb := Lib.hid hlb
 have HSa := Lib.hid hsa
 clear hA hca hla hB hcb hlb hsa
 go_enter Try.func4, Try.ntmps4
 have L1 := Lib.hid (H0.out.put #[.int .i64 Ra, .int .i64 Ca, .slice A na ca])
 have L2 := Lib.hid (show MS _ _ _ ((w.heap.size + 1, #[.int .i64 Rb, .int .i64 Cb, .slice B nb cb]) :: _) ((w.alloc (.cells #[.int .i64 Ra, .int .i64 Ca, .slice A na ca] 27)).alloc (.cells #[.int .i64 Rb, .int .i64 Cb, .slice B nb cb] 27)) from by have h := L1.out.put #[.int .i64 Rb, .int .i64 Cb, .slice B nb cb]; (try simp only [World.size_alloc] at h); exact h)
 obtain ⟨a3, b3, d3⟩ := L2.out.cells mm1
 go_wp2_with fail
 clear a3 b3 d3
 have H1 := L2
 clear L1 L2
 generalize ((w.alloc (.cells #[.int .i64 Ra, .int .i64 Ca, .slice A na ca] 27)).alloc (.cells #[.int .i64 Rb, .int .i64 Cb, .slice B nb cb] 27)) = w1 at *
 refine (smallR H1.out 12 (by decide) (v := false) HSa.out).mono ?_
 rintro e w2 ⟨rfl, h⟩
 have H2 := Lib.hid h
 clear h
 go_wp2_with fail
 refine (works_any _).mono ?_
 rintro e w3 ⟨rfl, hb⟩
 have H3 := Lib.hid (MS.keep H2.out hb)
 clear hb
 go_wp2_with fail
 go_ret
 exact ⟨rfl, H3.out.below⟩
set_option maxRecDepth 100000 in
set_option maxHeartbeats 40000000 in
theorem two_out1 (w : World)  (Ra Ca : Int) (A : Option Addr) (la : List UInt8) (na ca : Nat) (hla : la.length = na) (hA : Bytes w w.heap.size A la) (hca : la.length ≤ ca) (Rb Cb : Int) (B : Option Addr) (lb : List UInt8) (nb cb : Nat) (hlb : lb.length = nb) (hB : Bytes w w.heap.size B lb) (hcb : lb.length ≤ cb) (hsa : smallB 12 Ra Ca na = true) (hsb : smallB 12 Rb Cb nb = false) :
    Calls Try.prog 4 #[.agg #[.int .i64 Ra, .int .i64 Ca, .slice A na ca], .agg #[.int .i64 Rb, .int .i64 Cb, .slice B nb cb]] w fun e w' => e = .returned (.bool true) ∧ Below w.heap.size w w' := by
 have H0 := Lib.hid (((MS.start w).arg hA hca).arg hB hcb)
 have HLNa := Lib.hid hla
 have HLNb := Lib.hid hlb
 have HSa := Lib.hid hsa
 have HSb := Lib.hid hsb
 clear hA hca hla hB hcb hlb hsa hsb
 go_enter Try.func4, Try.ntmps4
 have L1 := Lib.hid (H0.out.put #[.int .i64 Ra, .int .i64 Ca, .slice A na ca])
 have L2 := Lib.hid (show MS _ _ _ ((w.heap.size + 1, #[.int .i64 Rb, .int .i64 Cb, .slice B nb cb]) :: _) ((w.alloc (.cells #[.int .i64 Ra, .int .i64 Ca, .slice A na ca] 27)).alloc (.cells #[.int .i64 Rb, .int .i64 Cb, .slice B nb cb] 27)) from by have h := L1.out.put #[.int .i64 Rb, .int .i64 Cb, .slice B nb cb]; (try simp only [World.size_alloc] at h); exact h)
 obtain ⟨a3, b3, d3⟩ := L2.out.cells mm1
 go_wp2_with fail
 clear a3 b3 d3
 have H1 := L2
 clear L1 L2
 generalize ((w.alloc (.cells #[.int .i64 Ra, .int .i64 Ca, .slice A na ca] 27)).alloc (.cells #[.int .i64 Rb, .int .i64 Cb, .slice B nb cb] 27)) = w1 at *
 refine (smallR H1.out 12 (by decide) (v := true) HSa.out).mono ?_
 rintro e w2 ⟨rfl, h⟩
 have H2 := Lib.hid h
 clear h
 obtain ⟨a4, b4, d4⟩ := H2.out.cells mm0
 go_wp2_with fail
 clear a4 b4 d4
 refine (smallR H2.out 12 (by decide) (v := false) HSb.out).mono ?_
 rintro e w3 ⟨rfl, h⟩
 have H3 := Lib.hid h
 clear h
 go_wp2_with fail
 refine (works_any _).mono ?_
 rintro e w4 ⟨rfl, hb⟩
 have H4 := Lib.hid (MS.keep H3.out hb)
 clear hb
 go_wp2_with fail
 go_ret
 exact ⟨rfl, H4.out.below⟩
theorem two_law (w : World) (Ra Ca : Int) (A : Option Addr) (la : List UInt8) (ca : Nat) (ga : Open.MtOk w Ra Ca A la ca) (Rb Cb : Int) (B : Option Addr) (lb : List UInt8) (cb : Nat) (gb : Open.MtOk w Rb Cb B lb cb) :
    Calls Try.prog 4 #[.agg #[.int .i64 Ra, .int .i64 Ca, .slice A la.length ca], .agg #[.int .i64 Rb, .int .i64 Cb, .slice B lb.length cb]] w fun e w' => e = .returned (.bool true) ∧ Below w.heap.size w w' := by
 cases hsa : smallB 12 Ra Ca la.length with
 | false => exact two_out0 w Ra Ca A la _ ca rfl ga.row ga.le Rb Cb B lb _ cb rfl gb.row gb.le hsa
 | true =>
 cases hsb : smallB 12 Rb Cb lb.length with
 | false => exact two_out1 w Ra Ca A la _ ca rfl ga.row ga.le Rb Cb B lb _ cb rfl gb.row gb.le hsa hsb
 | true =>
 have k1 := of_decide_eq_true hsa
 have k2 := of_decide_eq_true hsb
 obtain ⟨P1, P2, pn, lp, pe, hmu⟩ := mulE (R1 := Ra) (C1 := Ca) (R2 := Rb) (C2 := Cb) (a := la) (b := lb) rfl rfl (by omega)
 obtain ⟨S1, S2, sn, ls, se, hso⟩ := solE (R1 := Ra) (C1 := Ca) (R2 := Rb) (C2 := Cb) (a := la) (b := lb) rfl rfl (by omega)
 exact two_in w Ra Ca A la _ ca rfl ga.row ga.le Rb Cb B lb _ cb rfl gb.row gb.le hsa hsb P1 P2 pn lp pe hmu S1 S2 sn ls se hso
end Go.Proofs.Ythdapoipfnnaeaa.MxW
/- The law MatrixMakes: its walk. -/
namespace Go.Proofs.Ythdapoipfnnaeaa.MxW
open Go.RowKit Go.Shelf Mem Gf FdW Mx Rng
open PlW (In)
set_option linter.unusedVariables false
set_option linter.unusedSectionVars false
attribute [local go_sem] Oper.semAt_some wide_fn
set_option maxRecDepth 100000 in
set_option maxHeartbeats 40000000 in
theorem makes_neg (w : World)  (Rm Cm : Int) (M : Option Addr) (lm : List UInt8) (nm cm : Nat) (hlm : lm.length = nm) (hM : Bytes w w.heap.size M lm) (hcm : lm.length ≤ cm) (K : Option Addr) (ks : List Int) (nk ck : Nat) (hlk : ks.length = nk) (hK : Cells w w.heap.size K (ks.map i64v)) (h64 : ∀ v ∈ ks, -9223372036854775808 ≤ v ∧ v ≤ 9223372036854775807) (X : Option Addr) (lx : List UInt8) (nx cx : Nat) (hlx : lx.length = nx) (hX : Bytes w w.heap.size X lx) (hcx : lx.length ≤ cx) (n : Int) (hcap : cm ≤ maxLen) (hs : smallB 12 Rm Cm nm = true) (h1 : ¬ (20 : Int) < (nk : Int)) (h2 : ¬ (20 : Int) < (nx : Int)) (hn : -9223372036854775808 ≤ n ∧ n < 0) :
    Calls Try.prog 6 #[.agg #[.int .i64 Rm, .int .i64 Cm, .slice M nm cm], .slice K nk ck, .slice X nx cx, .int .i64 n] w fun e w' => e = .returned (.bool true) ∧ Below w.heap.size w w' := by
 have H0 := Lib.hid (((MS.start w).nilR.arg hM hcm).arg hX hcx)
 have HLNm := Lib.hid hlm
 have HLNx := Lib.hid hlx
 have HKS := Lib.hid (And.intro hK (And.intro h64 hlk))
 have HSm := Lib.hid hs
 have HD := Lib.hid (show nk ≤ 20 ∧ nx ≤ 20 ∧ nm ≤ 153 ∧ cm ≤ maxLen from by have h := of_decide_eq_true hs; omega)
 have hn12 : ¬ (12 : Int) < n := by omega
 have hn65 : ¬ (65536 : Int) < n := by omega
 have HNN := Lib.hid hn
 clear hM hcm hlm hX hcx hlx hK h64 hlk hs hcap hn
 go_enter Try.func6, Try.ntmps6
 have L1 := Lib.hid (H0.out.put #[.int .i64 Rm, .int .i64 Cm, .slice M nm cm])
 obtain ⟨a2, b2, d2⟩ := L1.out.cells mm0
 go_wp2_with fail
 clear a2 b2 d2
 have H1 := L1
 clear L1
 generalize (w.alloc (.cells #[.int .i64 Rm, .int .i64 Cm, .slice M nm cm] 27)) = w1 at *
 refine (smallR H1.out 12 (by decide) (v := true) HSm.out).mono ?_
 rintro e w2 ⟨rfl, h⟩
 have H2 := Lib.hid h
 clear h
 go_wp2_with fail
 refine (newR H2.out).mono ?_
 rintro e w3 ⟨rfl, h⟩
 have H3 := Lib.hid h
 clear h
 obtain ⟨a3, b3, d3⟩ := H3.out.cells mm0
 go_wp2_with fail
 clear a3 b3 d3
 cases hr : rightB Rm Cm nm with
 | false =>
  have HR := Lib.hid hr
  clear hr
  refine (pick0R H3.out HR.out).mono ?_
  rintro e w4 ⟨rfl, h⟩
  have H4 := Lib.hid h
  clear h
  have L4 := Lib.hid (H4.out.put #[.int .i64 0, .int .i64 0, .slice none 0 0])
  obtain ⟨a5, b5, d5⟩ := L4.out.cells mm1
  go_wp2_with fail
  clear a5 b5 d5
  have H5 := L4
  clear L4
  generalize (w4.alloc (.cells #[.int .i64 0, .int .i64 0, .slice none 0 0] 27)) = w5 at *
  refine (plainR H5.out ).mono ?_
  rintro e w6 ⟨rfl, h⟩
  have H6 := Lib.hid h
  clear h
  go_wp2_with fail
  refine (rpick0R H6.out HR.out).mono ?_
  rintro e w7 ⟨rfl, h⟩
  have H7 := Lib.hid h
  clear h
  have L6 := Lib.hid (H7.out.putT #[.int .i64 0, .int .i64 0, .slice none 0 0] 38)
  obtain ⟨a7, b7, d7⟩ := L6.out.cells mm2
  go_wp2_with fail
  clear a7 b7 d7
  have H8 := L6
  clear L6
  generalize (w7.alloc (.cells #[.int .i64 0, .int .i64 0, .slice none 0 0] 38)) = w8 at *
  have HX := Lib.hid (show n < 0 ∨ 65536 < n ∨ (0 ≤ n ∧ n ≤ 65536 ∧ (nm : Int) ≠ n * (n + 1) / 2) from .inl HNN.out.2)
  have HB9 := Lib.hid (show -9223372036854775808 ≤ n ∧ n ≤ 9223372036854775807 from by have := HNN.out; omega)
  refine (symXR H8.out HB9.out HX.out).mono ?_
  rintro e w9 ⟨rfl, h⟩
  have H9 := Lib.hid h
  clear h
  have L8 := Lib.hid (H9.out.put #[.int .i64 0, .int .i64 0, .slice none 0 0])
  obtain ⟨a9, b9, d9⟩ := L8.out.cells mm3
  go_wp2_with fail
  clear a9 b9 d9
  have H10 := L8
  clear L8
  generalize (w9.alloc (.cells #[.int .i64 0, .int .i64 0, .slice none 0 0] 27)) = w10 at *
  refine (rsymXR H10.out HB9.out HX.out).mono ?_
  rintro e w11 ⟨rfl, h⟩
  have H11 := Lib.hid h
  clear h
  have L10 := Lib.hid (H11.out.putT #[.int .i64 0, .int .i64 0, .slice none 0 0] 38)
  obtain ⟨a11, b11, d11⟩ := L10.out.cells mm3
  obtain ⟨a12, b12, d12⟩ := L10.out.cells mm2
  go_wp2_with fail
  clear a11 b11 d11 a12 b12 d12
  have H12 := L10
  clear L10
  generalize (w11.alloc (.cells #[.int .i64 0, .int .i64 0, .slice none 0 0] 38)) = w12 at *
  refine (lsameR H12.out mm2 rfl mm2 rfl (v := true) (sameB_self _ _ _)).mono ?_
  rintro e w13 ⟨rfl, h⟩
  have H13 := Lib.hid h
  clear h
  obtain ⟨a13, b13, d13⟩ := H13.out.cells mm1
  obtain ⟨a14, b14, d14⟩ := H13.out.cells mm0
  go_wp2_with fail
  clear a13 b13 d13 a14 b14 d14
  refine (lsameR H13.out mm2 rfl mm2 rfl (v := true) (sameB_self _ _ _)).mono ?_
  rintro e w14 ⟨rfl, h⟩
  have H14 := Lib.hid h
  clear h
  go_wp2_with fail
  refine (one0R H14.out (.inl (by have := HNN.out; omega))).mono ?_
  rintro e w15 ⟨A15, c15, rfl, h⟩
  have H15 := Lib.hid h
  clear h
  go_wp2_with fail
  refine (roneR H15.out (r := 0) (by have := HNN.out; omega) (by have := HNN.out; omega) 0 0 ⟨rfl, rfl⟩ (l := []) rfl).mono ?_
  rintro e w16 ⟨A16, c16, rfl, h⟩
  have H16 := Lib.hid h
  clear h
  go_wp2_with fail
  refine (lsameR H16.out mm1 rfl mm0 rfl (v := true) (sameB_self _ _ _)).mono ?_
  rintro e w17 ⟨rfl, h⟩
  have H17 := Lib.hid h
  clear h
  go_wp2_with fail
  refine (pow0R H17.out mm2 HLNx.out (by have := HD.out; omega) (by have := HNN.out; omega)).mono ?_
  rintro e w18 ⟨A18, c18, rfl, h⟩
  have H18 := Lib.hid h
  clear h
  go_wp2_with fail
  refine (rpowR H18.out (c := 0) mm3 HLNx.out (by have := HD.out; omega) (by have := HNN.out; omega) (by have := HNN.out; omega) (nx : Int) 0 (nx * 0) ⟨rfl, rfl, rfl⟩ rfl).mono ?_
  rintro e w19 ⟨A19, c19, rfl, h⟩
  have H19 := Lib.hid h
  clear h
  go_wp2_with fail
  refine (lsameR H19.out mm1 (flat_len _ _ _) mm0 (flat_len _ _ _) (v := true) (sameB_self _ _ _)).mono ?_
  rintro e w20 ⟨rfl, h⟩
  have H20 := Lib.hid h
  clear h
  go_wp2_with fail
  refine (works_any _).mono ?_
  rintro e w21 ⟨rfl, hb⟩
  have H21 := Lib.hid (MS.keep H20.out hb)
  clear hb
  go_wp2_with fail
  go_ret
  exact ⟨rfl, H21.out.below⟩
 | true =>
  obtain ⟨r, c, rfl, rfl, hr6, hc6, hnm⟩ := right_nat hr
  have HNM := Lib.hid hnm
  have HDR := Lib.hid (show r ≤ 100 ∧ c ≤ 100 ∧ nk ≤ 100 from by have h := of_decide_eq_true HSm.out; have := HD.out; omega)
  have HMM := Lib.hid (show lm = flat r c (ent lm c) from (flat_ent (HLNm.out.trans hnm)).symm)
  clear hr hr6 hc6 hnm
  cases hin : allIn r ks with
  | false =>
   have HIN := Lib.hid hin
   clear hin
   refine (pick1R H3.out (r := r) (c := c) HKS.out.1 mm1 HKS.out.2.2 HNM.out ⟨rfl, rfl⟩ HDR.out HMM.out HIN.out).mono ?_
   rintro e w4 ⟨rfl, h⟩
   have H4 := Lib.hid h
   clear h
   have L4 := Lib.hid (H4.out.put #[.int .i64 0, .int .i64 0, .slice none 0 0])
   obtain ⟨a5, b5, d5⟩ := L4.out.cells mm1
   go_wp2_with fail
   clear a5 b5 d5
   have H5 := L4
   clear L4
   generalize (w4.alloc (.cells #[.int .i64 0, .int .i64 0, .slice none 0 0] 27)) = w5 at *
   refine (plainR H5.out ).mono ?_
   rintro e w6 ⟨rfl, h⟩
   have H6 := Lib.hid h
   clear h
   go_wp2_with fail
   refine (rpick1R H6.out (r := r) (c := c) HKS.out.1 HKS.out.2.1 mm1 HKS.out.2.2 HNM.out ⟨rfl, rfl⟩ HDR.out HMM.out HIN.out).mono ?_
   rintro e w7 ⟨rfl, h⟩
   have H7 := Lib.hid h
   clear h
   have L6 := Lib.hid (H7.out.putT #[.int .i64 0, .int .i64 0, .slice none 0 0] 38)
   obtain ⟨a7, b7, d7⟩ := L6.out.cells mm2
   go_wp2_with fail
   clear a7 b7 d7
   have H8 := L6
   clear L6
   generalize (w7.alloc (.cells #[.int .i64 0, .int .i64 0, .slice none 0 0] 38)) = w8 at *
   have HX := Lib.hid (show n < 0 ∨ 65536 < n ∨ (0 ≤ n ∧ n ≤ 65536 ∧ (nm : Int) ≠ n * (n + 1) / 2) from .inl HNN.out.2)
   have HB9 := Lib.hid (show -9223372036854775808 ≤ n ∧ n ≤ 9223372036854775807 from by have := HNN.out; omega)
   refine (symXR H8.out HB9.out HX.out).mono ?_
   rintro e w9 ⟨rfl, h⟩
   have H9 := Lib.hid h
   clear h
   have L8 := Lib.hid (H9.out.put #[.int .i64 0, .int .i64 0, .slice none 0 0])
   obtain ⟨a9, b9, d9⟩ := L8.out.cells mm3
   go_wp2_with fail
   clear a9 b9 d9
   have H10 := L8
   clear L8
   generalize (w9.alloc (.cells #[.int .i64 0, .int .i64 0, .slice none 0 0] 27)) = w10 at *
   refine (rsymXR H10.out HB9.out HX.out).mono ?_
   rintro e w11 ⟨rfl, h⟩
   have H11 := Lib.hid h
   clear h
   have L10 := Lib.hid (H11.out.putT #[.int .i64 0, .int .i64 0, .slice none 0 0] 38)
   obtain ⟨a11, b11, d11⟩ := L10.out.cells mm3
   obtain ⟨a12, b12, d12⟩ := L10.out.cells mm2
   go_wp2_with fail
   clear a11 b11 d11 a12 b12 d12
   have H12 := L10
   clear L10
   generalize (w11.alloc (.cells #[.int .i64 0, .int .i64 0, .slice none 0 0] 38)) = w12 at *
   refine (lsameR H12.out mm2 rfl mm2 rfl (v := true) (sameB_self _ _ _)).mono ?_
   rintro e w13 ⟨rfl, h⟩
   have H13 := Lib.hid h
   clear h
   obtain ⟨a13, b13, d13⟩ := H13.out.cells mm1
   obtain ⟨a14, b14, d14⟩ := H13.out.cells mm0
   go_wp2_with fail
   clear a13 b13 d13 a14 b14 d14
   refine (lsameR H13.out mm2 rfl mm2 rfl (v := true) (sameB_self _ _ _)).mono ?_
   rintro e w14 ⟨rfl, h⟩
   have H14 := Lib.hid h
   clear h
   go_wp2_with fail
   refine (one0R H14.out (.inl (by have := HNN.out; omega))).mono ?_
   rintro e w15 ⟨A15, c15, rfl, h⟩
   have H15 := Lib.hid h
   clear h
   go_wp2_with fail
   refine (roneR H15.out (r := 0) (by have := HNN.out; omega) (by have := HNN.out; omega) 0 0 ⟨rfl, rfl⟩ (l := []) rfl).mono ?_
   rintro e w16 ⟨A16, c16, rfl, h⟩
   have H16 := Lib.hid h
   clear h
   go_wp2_with fail
   refine (lsameR H16.out mm1 rfl mm0 rfl (v := true) (sameB_self _ _ _)).mono ?_
   rintro e w17 ⟨rfl, h⟩
   have H17 := Lib.hid h
   clear h
   go_wp2_with fail
   refine (pow0R H17.out mm2 HLNx.out (by have := HD.out; omega) (by have := HNN.out; omega)).mono ?_
   rintro e w18 ⟨A18, c18, rfl, h⟩
   have H18 := Lib.hid h
   clear h
   go_wp2_with fail
   refine (rpowR H18.out (c := 0) mm3 HLNx.out (by have := HD.out; omega) (by have := HNN.out; omega) (by have := HNN.out; omega) (nx : Int) 0 (nx * 0) ⟨rfl, rfl, rfl⟩ rfl).mono ?_
   rintro e w19 ⟨A19, c19, rfl, h⟩
   have H19 := Lib.hid h
   clear h
   go_wp2_with fail
   refine (lsameR H19.out mm1 (flat_len _ _ _) mm0 (flat_len _ _ _) (v := true) (sameB_self _ _ _)).mono ?_
   rintro e w20 ⟨rfl, h⟩
   have H20 := Lib.hid h
   clear h
   go_wp2_with fail
   refine (works_any _).mono ?_
   rintro e w21 ⟨rfl, hb⟩
   have H21 := Lib.hid (MS.keep H20.out hb)
   clear hb
   go_wp2_with fail
   go_ret
   exact ⟨rfl, H21.out.below⟩
  | true =>
   have HIN := Lib.hid hin
   clear hin
   refine (pickR H3.out (r := r) (c := c) HKS.out.1 mm1 HKS.out.2.2 HNM.out ⟨rfl, rfl⟩ HDR.out HMM.out HIN.out nk c (nk * c) ⟨rfl, rfl, rfl⟩ rfl).mono ?_
   rintro e w4 ⟨A4, c4, rfl, h⟩
   have H4 := Lib.hid h
   clear h
   have L4 := Lib.hid (H4.out.put #[.int .i64 (nk : Int), .int .i64 (c : Int), .slice A4 (nk * c) c4])
   obtain ⟨a5, b5, d5⟩ := L4.out.cells mm1
   go_wp2_with fail
   clear a5 b5 d5
   have H5 := L4
   clear L4
   generalize (w4.alloc (.cells #[.int .i64 (nk : Int), .int .i64 (c : Int), .slice A4 (nk * c) c4] 27)) = w5 at *
   refine (plainR H5.out ).mono ?_
   rintro e w6 ⟨rfl, h⟩
   have H6 := Lib.hid h
   clear h
   go_wp2_with fail
   refine (rpickR H6.out (r := r) (c := c) HKS.out.1 HKS.out.2.1 mm2 HKS.out.2.2 HNM.out ⟨rfl, rfl⟩ HDR.out HMM.out HIN.out nk c (nk * c) ⟨rfl, rfl, rfl⟩ rfl).mono ?_
   rintro e w7 ⟨A7, c7, rfl, h⟩
   have H7 := Lib.hid h
   clear h
   have L6 := Lib.hid (H7.out.putT #[.int .i64 (nk : Int), .int .i64 (c : Int), .slice A7 (nk * c) c7] 38)
   obtain ⟨a7, b7, d7⟩ := L6.out.cells mm2
   go_wp2_with fail
   clear a7 b7 d7
   have H8 := L6
   clear L6
   generalize (w7.alloc (.cells #[.int .i64 (nk : Int), .int .i64 (c : Int), .slice A7 (nk * c) c7] 38)) = w8 at *
   have HX := Lib.hid (show n < 0 ∨ 65536 < n ∨ (0 ≤ n ∧ n ≤ 65536 ∧ (nm : Int) ≠ n * (n + 1) / 2) from .inl HNN.out.2)
   have HB9 := Lib.hid (show -9223372036854775808 ≤ n ∧ n ≤ 9223372036854775807 from by have := HNN.out; omega)
   refine (symXR H8.out HB9.out HX.out).mono ?_
   rintro e w9 ⟨rfl, h⟩
   have H9 := Lib.hid h
   clear h
   have L8 := Lib.hid (H9.out.put #[.int .i64 0, .int .i64 0, .slice none 0 0])
   obtain ⟨a9, b9, d9⟩ := L8.out.cells mm3
   go_wp2_with fail
   clear a9 b9 d9
   have H10 := L8
   clear L8
   generalize (w9.alloc (.cells #[.int .i64 0, .int .i64 0, .slice none 0 0] 27)) = w10 at *
   refine (rsymXR H10.out HB9.out HX.out).mono ?_
   rintro e w11 ⟨rfl, h⟩
   have H11 := Lib.hid h
   clear h
   have L10 := Lib.hid (H11.out.putT #[.int .i64 0, .int .i64 0, .slice none 0 0] 38)
   obtain ⟨a11, b11, d11⟩ := L10.out.cells mm3
   obtain ⟨a12, b12, d12⟩ := L10.out.cells mm2
   go_wp2_with fail
   clear a11 b11 d11 a12 b12 d12
   have H12 := L10
   clear L10
   generalize (w11.alloc (.cells #[.int .i64 0, .int .i64 0, .slice none 0 0] 38)) = w12 at *
   refine (lsameR H12.out mm1 (flat_len _ _ _) mm0 (flat_len _ _ _) (v := true) (sameB_self _ _ _)).mono ?_
   rintro e w13 ⟨rfl, h⟩
   have H13 := Lib.hid h
   clear h
   obtain ⟨a13, b13, d13⟩ := H13.out.cells mm1
   obtain ⟨a14, b14, d14⟩ := H13.out.cells mm0
   go_wp2_with fail
   clear a13 b13 d13 a14 b14 d14
   refine (lsameR H13.out mm4 rfl mm4 rfl (v := true) (sameB_self _ _ _)).mono ?_
   rintro e w14 ⟨rfl, h⟩
   have H14 := Lib.hid h
   clear h
   go_wp2_with fail
   refine (one0R H14.out (.inl (by have := HNN.out; omega))).mono ?_
   rintro e w15 ⟨A15, c15, rfl, h⟩
   have H15 := Lib.hid h
   clear h
   go_wp2_with fail
   refine (roneR H15.out (r := 0) (by have := HNN.out; omega) (by have := HNN.out; omega) 0 0 ⟨rfl, rfl⟩ (l := []) rfl).mono ?_
   rintro e w16 ⟨A16, c16, rfl, h⟩
   have H16 := Lib.hid h
   clear h
   go_wp2_with fail
   refine (lsameR H16.out mm1 rfl mm0 rfl (v := true) (sameB_self _ _ _)).mono ?_
   rintro e w17 ⟨rfl, h⟩
   have H17 := Lib.hid h
   clear h
   go_wp2_with fail
   refine (pow0R H17.out mm4 HLNx.out (by have := HD.out; omega) (by have := HNN.out; omega)).mono ?_
   rintro e w18 ⟨A18, c18, rfl, h⟩
   have H18 := Lib.hid h
   clear h
   go_wp2_with fail
   refine (rpowR H18.out (c := 0) mm5 HLNx.out (by have := HD.out; omega) (by have := HNN.out; omega) (by have := HNN.out; omega) (nx : Int) 0 (nx * 0) ⟨rfl, rfl, rfl⟩ rfl).mono ?_
   rintro e w19 ⟨A19, c19, rfl, h⟩
   have H19 := Lib.hid h
   clear h
   go_wp2_with fail
   refine (lsameR H19.out mm1 (flat_len _ _ _) mm0 (flat_len _ _ _) (v := true) (sameB_self _ _ _)).mono ?_
   rintro e w20 ⟨rfl, h⟩
   have H20 := Lib.hid h
   clear h
   go_wp2_with fail
   refine (works_any _).mono ?_
   rintro e w21 ⟨rfl, hb⟩
   have H21 := Lib.hid (MS.keep H20.out hb)
   clear hb
   go_wp2_with fail
   go_ret
   exact ⟨rfl, H21.out.below⟩
end Go.Proofs.Ythdapoipfnnaeaa.MxW
/- The law MatrixMakes: its walk. -/
namespace Go.Proofs.Ythdapoipfnnaeaa.MxW
open Go.RowKit Go.Shelf Mem Gf FdW Mx Rng
open PlW (In)
set_option linter.unusedVariables false
set_option linter.unusedSectionVars false
attribute [local go_sem] Oper.semAt_some wide_fn
set_option maxRecDepth 100000 in
set_option maxHeartbeats 40000000 in
theorem makes_small (w : World)  (Rm Cm : Int) (M : Option Addr) (lm : List UInt8) (nm cm : Nat) (hlm : lm.length = nm) (hM : Bytes w w.heap.size M lm) (hcm : lm.length ≤ cm) (K : Option Addr) (ks : List Int) (nk ck : Nat) (hlk : ks.length = nk) (hK : Cells w w.heap.size K (ks.map i64v)) (h64 : ∀ v ∈ ks, -9223372036854775808 ≤ v ∧ v ≤ 9223372036854775807) (X : Option Addr) (lx : List UInt8) (nx cx : Nat) (hlx : lx.length = nx) (hX : Bytes w w.heap.size X lx) (hcx : lx.length ≤ cx) (k : Nat) (hcap : cm ≤ maxLen) (hs : smallB 12 Rm Cm nm = true) (h1 : ¬ (20 : Int) < (nk : Int)) (h2 : ¬ (20 : Int) < (nx : Int)) (hn : k ≤ 12) :
    Calls Try.prog 6 #[.agg #[.int .i64 Rm, .int .i64 Cm, .slice M nm cm], .slice K nk ck, .slice X nx cx, .int .i64 (k : Int)] w fun e w' => e = .returned (.bool true) ∧ Below w.heap.size w w' := by
 have H0 := Lib.hid (((MS.start w).nilR.arg hM hcm).arg hX hcx)
 have HLNm := Lib.hid hlm
 have HLNx := Lib.hid hlx
 have HKS := Lib.hid (And.intro hK (And.intro h64 hlk))
 have HSm := Lib.hid hs
 have HD := Lib.hid (show nk ≤ 20 ∧ nx ≤ 20 ∧ nm ≤ 153 ∧ cm ≤ maxLen from by have h := of_decide_eq_true hs; omega)
 have hn12 : ¬ (12 : Int) < (k : Int) := by omega
 have hn65 : ¬ (65536 : Int) < (k : Int) := by omega
 have HNN := Lib.hid hn
 clear hM hcm hlm hX hcx hlx hK h64 hlk hs hcap hn
 go_enter Try.func6, Try.ntmps6
 have L1 := Lib.hid (H0.out.put #[.int .i64 Rm, .int .i64 Cm, .slice M nm cm])
 obtain ⟨a2, b2, d2⟩ := L1.out.cells mm0
 go_wp2_with fail
 clear a2 b2 d2
 have H1 := L1
 clear L1
 generalize (w.alloc (.cells #[.int .i64 Rm, .int .i64 Cm, .slice M nm cm] 27)) = w1 at *
 refine (smallR H1.out 12 (by decide) (v := true) HSm.out).mono ?_
 rintro e w2 ⟨rfl, h⟩
 have H2 := Lib.hid h
 clear h
 go_wp2_with fail
 refine (newR H2.out).mono ?_
 rintro e w3 ⟨rfl, h⟩
 have H3 := Lib.hid h
 clear h
 obtain ⟨a3, b3, d3⟩ := H3.out.cells mm0
 go_wp2_with fail
 clear a3 b3 d3
 cases hr : rightB Rm Cm nm with
 | false =>
  have HR := Lib.hid hr
  clear hr
  refine (pick0R H3.out HR.out).mono ?_
  rintro e w4 ⟨rfl, h⟩
  have H4 := Lib.hid h
  clear h
  have L4 := Lib.hid (H4.out.put #[.int .i64 0, .int .i64 0, .slice none 0 0])
  obtain ⟨a5, b5, d5⟩ := L4.out.cells mm1
  go_wp2_with fail
  clear a5 b5 d5
  have H5 := L4
  clear L4
  generalize (w4.alloc (.cells #[.int .i64 0, .int .i64 0, .slice none 0 0] 27)) = w5 at *
  refine (plainR H5.out ).mono ?_
  rintro e w6 ⟨rfl, h⟩
  have H6 := Lib.hid h
  clear h
  go_wp2_with fail
  refine (rpick0R H6.out HR.out).mono ?_
  rintro e w7 ⟨rfl, h⟩
  have H7 := Lib.hid h
  clear h
  have L6 := Lib.hid (H7.out.putT #[.int .i64 0, .int .i64 0, .slice none 0 0] 38)
  obtain ⟨a7, b7, d7⟩ := L6.out.cells mm2
  go_wp2_with fail
  clear a7 b7 d7
  have H8 := L6
  clear L6
  generalize (w7.alloc (.cells #[.int .i64 0, .int .i64 0, .slice none 0 0] 38)) = w8 at *
  by_cases h2l : 2 * nm = k * (k + 1)
  ·have H2L := Lib.hid h2l
   clear h2l
   refine (symR H8.out (r := k) mm1 HD.out.2.2.2 HLNm.out rfl (by have := HNN.out; omega) H2L.out (k * k) rfl rfl).mono ?_
   rintro e w9 ⟨A9, c9, rfl, h⟩
   have H9 := Lib.hid h
   clear h
   have L8 := Lib.hid (H9.out.put #[.int .i64 (k : Int), .int .i64 (k : Int), .slice A9 (k * k) c9])
   obtain ⟨a9, b9, d9⟩ := L8.out.cells mm3
   go_wp2_with fail
   clear a9 b9 d9
   have H10 := L8
   clear L8
   generalize (w9.alloc (.cells #[.int .i64 (k : Int), .int .i64 (k : Int), .slice A9 (k * k) c9] 27)) = w10 at *
   refine (rsymR H10.out (r := k) mm2 HLNm.out rfl (by have := HNN.out; omega) H2L.out (k * k) rfl rfl).mono ?_
   rintro e w11 ⟨A11, c11, rfl, h⟩
   have H11 := Lib.hid h
   clear h
   have L10 := Lib.hid (H11.out.putT #[.int .i64 (k : Int), .int .i64 (k : Int), .slice A11 (k * k) c11] 38)
   obtain ⟨a11, b11, d11⟩ := L10.out.cells mm3
   obtain ⟨a12, b12, d12⟩ := L10.out.cells mm2
   go_wp2_with fail
   clear a11 b11 d11 a12 b12 d12
   have H12 := L10
   clear L10
   generalize (w11.alloc (.cells #[.int .i64 (k : Int), .int .i64 (k : Int), .slice A11 (k * k) c11] 38)) = w12 at *
   refine (lsameR H12.out mm4 rfl mm4 rfl (v := true) (sameB_self _ _ _)).mono ?_
   rintro e w13 ⟨rfl, h⟩
   have H13 := Lib.hid h
   clear h
   obtain ⟨a13, b13, d13⟩ := H13.out.cells mm1
   obtain ⟨a14, b14, d14⟩ := H13.out.cells mm0
   go_wp2_with fail
   clear a13 b13 d13 a14 b14 d14
   refine (lsameR H13.out mm1 (flat_len _ _ _) mm0 (flat_len _ _ _) (v := true) (sameB_self _ _ _)).mono ?_
   rintro e w14 ⟨rfl, h⟩
   have H14 := Lib.hid h
   clear h
   go_wp2_with fail
   refine (oneR H14.out (r := k) rfl (by have := HNN.out; omega) (k * k) rfl rfl).mono ?_
   rintro e w15 ⟨A15, c15, rfl, h⟩
   have H15 := Lib.hid h
   clear h
   go_wp2_with fail
   refine (roneR H15.out (r := k) (by omega) (by have := HNN.out; omega) (k : Int) (k * k) ⟨rfl, rfl⟩ rfl).mono ?_
   rintro e w16 ⟨A16, c16, rfl, h⟩
   have H16 := Lib.hid h
   clear h
   go_wp2_with fail
   refine (lsameR H16.out mm1 (flat_len _ _ _) mm0 (flat_len _ _ _) (v := true) (sameB_self _ _ _)).mono ?_
   rintro e w17 ⟨rfl, h⟩
   have H17 := Lib.hid h
   clear h
   go_wp2_with fail
   refine (powR H17.out (c := k) mm4 HLNx.out rfl (by have := HNN.out; have := HD.out; omega) (nx : Int) (nx * k) ⟨rfl, rfl⟩ rfl).mono ?_
   rintro e w18 ⟨A18, c18, rfl, h⟩
   have H18 := Lib.hid h
   clear h
   go_wp2_with fail
   refine (rpowR H18.out (c := k) mm5 HLNx.out (by have := HD.out; omega) (by have := HNN.out; omega) (by omega) (nx : Int) (k : Int) (nx * k) ⟨rfl, rfl, rfl⟩ rfl).mono ?_
   rintro e w19 ⟨A19, c19, rfl, h⟩
   have H19 := Lib.hid h
   clear h
   go_wp2_with fail
   refine (lsameR H19.out mm1 (flat_len _ _ _) mm0 (flat_len _ _ _) (v := true) (sameB_self _ _ _)).mono ?_
   rintro e w20 ⟨rfl, h⟩
   have H20 := Lib.hid h
   clear h
   go_wp2_with fail
   refine (works_any _).mono ?_
   rintro e w21 ⟨rfl, hb⟩
   have H21 := Lib.hid (MS.keep H20.out hb)
   clear hb
   go_wp2_with fail
   go_ret
   exact ⟨rfl, H21.out.below⟩
  ·have HX := Lib.hid (show (k : Int) < 0 ∨ 65536 < (k : Int) ∨ (0 ≤ (k : Int) ∧ (k : Int) ≤ 65536 ∧ (nm : Int) ≠ (k : Int) * ((k : Int) + 1) / 2) from .inr (.inr ⟨by omega, by have := HNN.out; omega, by
    obtain ⟨q, hq⟩ : ∃ q, k * (k + 1) = q := ⟨_, rfl⟩
    have hq2 : q % 2 = 0 := by rw [← hq]; rcases Nat.mod_two_eq_zero_or_one k with e | e <;> rw [Nat.mul_mod, Nat.add_mod, e]
    rw [show (k : Int) * ((k : Int) + 1) = (q : Int) by rw [← hq]; simp]
    rw [hq] at h2l; omega⟩))
   have HB9 := Lib.hid (show -9223372036854775808 ≤ (k : Int) ∧ (k : Int) ≤ 9223372036854775807 from by have := HNN.out; omega)
   clear h2l
   refine (symXR H8.out HB9.out HX.out).mono ?_
   rintro e w9 ⟨rfl, h⟩
   have H9 := Lib.hid h
   clear h
   have L8 := Lib.hid (H9.out.put #[.int .i64 0, .int .i64 0, .slice none 0 0])
   obtain ⟨a9, b9, d9⟩ := L8.out.cells mm3
   go_wp2_with fail
   clear a9 b9 d9
   have H10 := L8
   clear L8
   generalize (w9.alloc (.cells #[.int .i64 0, .int .i64 0, .slice none 0 0] 27)) = w10 at *
   refine (rsymXR H10.out HB9.out HX.out).mono ?_
   rintro e w11 ⟨rfl, h⟩
   have H11 := Lib.hid h
   clear h
   have L10 := Lib.hid (H11.out.putT #[.int .i64 0, .int .i64 0, .slice none 0 0] 38)
   obtain ⟨a11, b11, d11⟩ := L10.out.cells mm3
   obtain ⟨a12, b12, d12⟩ := L10.out.cells mm2
   go_wp2_with fail
   clear a11 b11 d11 a12 b12 d12
   have H12 := L10
   clear L10
   generalize (w11.alloc (.cells #[.int .i64 0, .int .i64 0, .slice none 0 0] 38)) = w12 at *
   refine (lsameR H12.out mm2 rfl mm2 rfl (v := true) (sameB_self _ _ _)).mono ?_
   rintro e w13 ⟨rfl, h⟩
   have H13 := Lib.hid h
   clear h
   obtain ⟨a13, b13, d13⟩ := H13.out.cells mm1
   obtain ⟨a14, b14, d14⟩ := H13.out.cells mm0
   go_wp2_with fail
   clear a13 b13 d13 a14 b14 d14
   refine (lsameR H13.out mm2 rfl mm2 rfl (v := true) (sameB_self _ _ _)).mono ?_
   rintro e w14 ⟨rfl, h⟩
   have H14 := Lib.hid h
   clear h
   go_wp2_with fail
   refine (oneR H14.out (r := k) rfl (by have := HNN.out; omega) (k * k) rfl rfl).mono ?_
   rintro e w15 ⟨A15, c15, rfl, h⟩
   have H15 := Lib.hid h
   clear h
   go_wp2_with fail
   refine (roneR H15.out (r := k) (by omega) (by have := HNN.out; omega) (k : Int) (k * k) ⟨rfl, rfl⟩ rfl).mono ?_
   rintro e w16 ⟨A16, c16, rfl, h⟩
   have H16 := Lib.hid h
   clear h
   go_wp2_with fail
   refine (lsameR H16.out mm1 (flat_len _ _ _) mm0 (flat_len _ _ _) (v := true) (sameB_self _ _ _)).mono ?_
   rintro e w17 ⟨rfl, h⟩
   have H17 := Lib.hid h
   clear h
   go_wp2_with fail
   refine (powR H17.out (c := k) mm2 HLNx.out rfl (by have := HNN.out; have := HD.out; omega) (nx : Int) (nx * k) ⟨rfl, rfl⟩ rfl).mono ?_
   rintro e w18 ⟨A18, c18, rfl, h⟩
   have H18 := Lib.hid h
   clear h
   go_wp2_with fail
   refine (rpowR H18.out (c := k) mm3 HLNx.out (by have := HD.out; omega) (by have := HNN.out; omega) (by omega) (nx : Int) (k : Int) (nx * k) ⟨rfl, rfl, rfl⟩ rfl).mono ?_
   rintro e w19 ⟨A19, c19, rfl, h⟩
   have H19 := Lib.hid h
   clear h
   go_wp2_with fail
   refine (lsameR H19.out mm1 (flat_len _ _ _) mm0 (flat_len _ _ _) (v := true) (sameB_self _ _ _)).mono ?_
   rintro e w20 ⟨rfl, h⟩
   have H20 := Lib.hid h
   clear h
   go_wp2_with fail
   refine (works_any _).mono ?_
   rintro e w21 ⟨rfl, hb⟩
   have H21 := Lib.hid (MS.keep H20.out hb)
   clear hb
   go_wp2_with fail
   go_ret
   exact ⟨rfl, H21.out.below⟩
 | true =>
  obtain ⟨r, c, rfl, rfl, hr6, hc6, hnm⟩ := right_nat hr
  have HNM := Lib.hid hnm
  have HDR := Lib.hid (show r ≤ 100 ∧ c ≤ 100 ∧ nk ≤ 100 from by have h := of_decide_eq_true HSm.out; have := HD.out; omega)
  have HMM := Lib.hid (show lm = flat r c (ent lm c) from (flat_ent (HLNm.out.trans hnm)).symm)
  clear hr hr6 hc6 hnm
  cases hin : allIn r ks with
  | false =>
   have HIN := Lib.hid hin
   clear hin
   refine (pick1R H3.out (r := r) (c := c) HKS.out.1 mm1 HKS.out.2.2 HNM.out ⟨rfl, rfl⟩ HDR.out HMM.out HIN.out).mono ?_
   rintro e w4 ⟨rfl, h⟩
   have H4 := Lib.hid h
   clear h
   have L4 := Lib.hid (H4.out.put #[.int .i64 0, .int .i64 0, .slice none 0 0])
   obtain ⟨a5, b5, d5⟩ := L4.out.cells mm1
   go_wp2_with fail
   clear a5 b5 d5
   have H5 := L4
   clear L4
   generalize (w4.alloc (.cells #[.int .i64 0, .int .i64 0, .slice none 0 0] 27)) = w5 at *
   refine (plainR H5.out ).mono ?_
   rintro e w6 ⟨rfl, h⟩
   have H6 := Lib.hid h
   clear h
   go_wp2_with fail
   refine (rpick1R H6.out (r := r) (c := c) HKS.out.1 HKS.out.2.1 mm1 HKS.out.2.2 HNM.out ⟨rfl, rfl⟩ HDR.out HMM.out HIN.out).mono ?_
   rintro e w7 ⟨rfl, h⟩
   have H7 := Lib.hid h
   clear h
   have L6 := Lib.hid (H7.out.putT #[.int .i64 0, .int .i64 0, .slice none 0 0] 38)
   obtain ⟨a7, b7, d7⟩ := L6.out.cells mm2
   go_wp2_with fail
   clear a7 b7 d7
   have H8 := L6
   clear L6
   generalize (w7.alloc (.cells #[.int .i64 0, .int .i64 0, .slice none 0 0] 38)) = w8 at *
   by_cases h2l : 2 * nm = k * (k + 1)
   ·have H2L := Lib.hid h2l
    clear h2l
    refine (symR H8.out (r := k) mm1 HD.out.2.2.2 HLNm.out rfl (by have := HNN.out; omega) H2L.out (k * k) rfl rfl).mono ?_
    rintro e w9 ⟨A9, c9, rfl, h⟩
    have H9 := Lib.hid h
    clear h
    have L8 := Lib.hid (H9.out.put #[.int .i64 (k : Int), .int .i64 (k : Int), .slice A9 (k * k) c9])
    obtain ⟨a9, b9, d9⟩ := L8.out.cells mm3
    go_wp2_with fail
    clear a9 b9 d9
    have H10 := L8
    clear L8
    generalize (w9.alloc (.cells #[.int .i64 (k : Int), .int .i64 (k : Int), .slice A9 (k * k) c9] 27)) = w10 at *
    refine (rsymR H10.out (r := k) mm2 HLNm.out rfl (by have := HNN.out; omega) H2L.out (k * k) rfl rfl).mono ?_
    rintro e w11 ⟨A11, c11, rfl, h⟩
    have H11 := Lib.hid h
    clear h
    have L10 := Lib.hid (H11.out.putT #[.int .i64 (k : Int), .int .i64 (k : Int), .slice A11 (k * k) c11] 38)
    obtain ⟨a11, b11, d11⟩ := L10.out.cells mm3
    obtain ⟨a12, b12, d12⟩ := L10.out.cells mm2
    go_wp2_with fail
    clear a11 b11 d11 a12 b12 d12
    have H12 := L10
    clear L10
    generalize (w11.alloc (.cells #[.int .i64 (k : Int), .int .i64 (k : Int), .slice A11 (k * k) c11] 38)) = w12 at *
    refine (lsameR H12.out mm4 rfl mm4 rfl (v := true) (sameB_self _ _ _)).mono ?_
    rintro e w13 ⟨rfl, h⟩
    have H13 := Lib.hid h
    clear h
    obtain ⟨a13, b13, d13⟩ := H13.out.cells mm1
    obtain ⟨a14, b14, d14⟩ := H13.out.cells mm0
    go_wp2_with fail
    clear a13 b13 d13 a14 b14 d14
    refine (lsameR H13.out mm1 (flat_len _ _ _) mm0 (flat_len _ _ _) (v := true) (sameB_self _ _ _)).mono ?_
    rintro e w14 ⟨rfl, h⟩
    have H14 := Lib.hid h
    clear h
    go_wp2_with fail
    refine (oneR H14.out (r := k) rfl (by have := HNN.out; omega) (k * k) rfl rfl).mono ?_
    rintro e w15 ⟨A15, c15, rfl, h⟩
    have H15 := Lib.hid h
    clear h
    go_wp2_with fail
    refine (roneR H15.out (r := k) (by omega) (by have := HNN.out; omega) (k : Int) (k * k) ⟨rfl, rfl⟩ rfl).mono ?_
    rintro e w16 ⟨A16, c16, rfl, h⟩
    have H16 := Lib.hid h
    clear h
    go_wp2_with fail
    refine (lsameR H16.out mm1 (flat_len _ _ _) mm0 (flat_len _ _ _) (v := true) (sameB_self _ _ _)).mono ?_
    rintro e w17 ⟨rfl, h⟩
    have H17 := Lib.hid h
    clear h
    go_wp2_with fail
    refine (powR H17.out (c := k) mm4 HLNx.out rfl (by have := HNN.out; have := HD.out; omega) (nx : Int) (nx * k) ⟨rfl, rfl⟩ rfl).mono ?_
    rintro e w18 ⟨A18, c18, rfl, h⟩
    have H18 := Lib.hid h
    clear h
    go_wp2_with fail
    refine (rpowR H18.out (c := k) mm5 HLNx.out (by have := HD.out; omega) (by have := HNN.out; omega) (by omega) (nx : Int) (k : Int) (nx * k) ⟨rfl, rfl, rfl⟩ rfl).mono ?_
    rintro e w19 ⟨A19, c19, rfl, h⟩
    have H19 := Lib.hid h
    clear h
    go_wp2_with fail
    refine (lsameR H19.out mm1 (flat_len _ _ _) mm0 (flat_len _ _ _) (v := true) (sameB_self _ _ _)).mono ?_
    rintro e w20 ⟨rfl, h⟩
    have H20 := Lib.hid h
    clear h
    go_wp2_with fail
    refine (works_any _).mono ?_
    rintro e w21 ⟨rfl, hb⟩
    have H21 := Lib.hid (MS.keep H20.out hb)
    clear hb
    go_wp2_with fail
    go_ret
    exact ⟨rfl, H21.out.below⟩
   ·have HX := Lib.hid (show (k : Int) < 0 ∨ 65536 < (k : Int) ∨ (0 ≤ (k : Int) ∧ (k : Int) ≤ 65536 ∧ (nm : Int) ≠ (k : Int) * ((k : Int) + 1) / 2) from .inr (.inr ⟨by omega, by have := HNN.out; omega, by
     obtain ⟨q, hq⟩ : ∃ q, k * (k + 1) = q := ⟨_, rfl⟩
     have hq2 : q % 2 = 0 := by rw [← hq]; rcases Nat.mod_two_eq_zero_or_one k with e | e <;> rw [Nat.mul_mod, Nat.add_mod, e]
     rw [show (k : Int) * ((k : Int) + 1) = (q : Int) by rw [← hq]; simp]
     rw [hq] at h2l; omega⟩))
    have HB9 := Lib.hid (show -9223372036854775808 ≤ (k : Int) ∧ (k : Int) ≤ 9223372036854775807 from by have := HNN.out; omega)
    clear h2l
    refine (symXR H8.out HB9.out HX.out).mono ?_
    rintro e w9 ⟨rfl, h⟩
    have H9 := Lib.hid h
    clear h
    have L8 := Lib.hid (H9.out.put #[.int .i64 0, .int .i64 0, .slice none 0 0])
    obtain ⟨a9, b9, d9⟩ := L8.out.cells mm3
    go_wp2_with fail
    clear a9 b9 d9
    have H10 := L8
    clear L8
    generalize (w9.alloc (.cells #[.int .i64 0, .int .i64 0, .slice none 0 0] 27)) = w10 at *
    refine (rsymXR H10.out HB9.out HX.out).mono ?_
    rintro e w11 ⟨rfl, h⟩
    have H11 := Lib.hid h
    clear h
    have L10 := Lib.hid (H11.out.putT #[.int .i64 0, .int .i64 0, .slice none 0 0] 38)
    obtain ⟨a11, b11, d11⟩ := L10.out.cells mm3
    obtain ⟨a12, b12, d12⟩ := L10.out.cells mm2
    go_wp2_with fail
    clear a11 b11 d11 a12 b12 d12
    have H12 := L10
    clear L10
    generalize (w11.alloc (.cells #[.int .i64 0, .int .i64 0, .slice none 0 0] 38)) = w12 at *
    refine (lsameR H12.out mm2 rfl mm2 rfl (v := true) (sameB_self _ _ _)).mono ?_
    rintro e w13 ⟨rfl, h⟩
    have H13 := Lib.hid h
    clear h
    obtain ⟨a13, b13, d13⟩ := H13.out.cells mm1
    obtain ⟨a14, b14, d14⟩ := H13.out.cells mm0
    go_wp2_with fail
    clear a13 b13 d13 a14 b14 d14
    refine (lsameR H13.out mm2 rfl mm2 rfl (v := true) (sameB_self _ _ _)).mono ?_
    rintro e w14 ⟨rfl, h⟩
    have H14 := Lib.hid h
    clear h
    go_wp2_with fail
    refine (oneR H14.out (r := k) rfl (by have := HNN.out; omega) (k * k) rfl rfl).mono ?_
    rintro e w15 ⟨A15, c15, rfl, h⟩
    have H15 := Lib.hid h
    clear h
    go_wp2_with fail
    refine (roneR H15.out (r := k) (by omega) (by have := HNN.out; omega) (k : Int) (k * k) ⟨rfl, rfl⟩ rfl).mono ?_
    rintro e w16 ⟨A16, c16, rfl, h⟩
    have H16 := Lib.hid h
    clear h
    go_wp2_with fail
    refine (lsameR H16.out mm1 (flat_len _ _ _) mm0 (flat_len _ _ _) (v := true) (sameB_self _ _ _)).mono ?_
    rintro e w17 ⟨rfl, h⟩
    have H17 := Lib.hid h
    clear h
    go_wp2_with fail
    refine (powR H17.out (c := k) mm2 HLNx.out rfl (by have := HNN.out; have := HD.out; omega) (nx : Int) (nx * k) ⟨rfl, rfl⟩ rfl).mono ?_
    rintro e w18 ⟨A18, c18, rfl, h⟩
    have H18 := Lib.hid h
    clear h
    go_wp2_with fail
    refine (rpowR H18.out (c := k) mm3 HLNx.out (by have := HD.out; omega) (by have := HNN.out; omega) (by omega) (nx : Int) (k : Int) (nx * k) ⟨rfl, rfl, rfl⟩ rfl).mono ?_
    rintro e w19 ⟨A19, c19, rfl, h⟩
    have H19 := Lib.hid h
    clear h
    go_wp2_with fail
    refine (lsameR H19.out mm1 (flat_len _ _ _) mm0 (flat_len _ _ _) (v := true) (sameB_self _ _ _)).mono ?_
    rintro e w20 ⟨rfl, h⟩
    have H20 := Lib.hid h
    clear h
    go_wp2_with fail
    refine (works_any _).mono ?_
    rintro e w21 ⟨rfl, hb⟩
    have H21 := Lib.hid (MS.keep H20.out hb)
    clear hb
    go_wp2_with fail
    go_ret
    exact ⟨rfl, H21.out.below⟩
  | true =>
   have HIN := Lib.hid hin
   clear hin
   refine (pickR H3.out (r := r) (c := c) HKS.out.1 mm1 HKS.out.2.2 HNM.out ⟨rfl, rfl⟩ HDR.out HMM.out HIN.out nk c (nk * c) ⟨rfl, rfl, rfl⟩ rfl).mono ?_
   rintro e w4 ⟨A4, c4, rfl, h⟩
   have H4 := Lib.hid h
   clear h
   have L4 := Lib.hid (H4.out.put #[.int .i64 (nk : Int), .int .i64 (c : Int), .slice A4 (nk * c) c4])
   obtain ⟨a5, b5, d5⟩ := L4.out.cells mm1
   go_wp2_with fail
   clear a5 b5 d5
   have H5 := L4
   clear L4
   generalize (w4.alloc (.cells #[.int .i64 (nk : Int), .int .i64 (c : Int), .slice A4 (nk * c) c4] 27)) = w5 at *
   refine (plainR H5.out ).mono ?_
   rintro e w6 ⟨rfl, h⟩
   have H6 := Lib.hid h
   clear h
   go_wp2_with fail
   refine (rpickR H6.out (r := r) (c := c) HKS.out.1 HKS.out.2.1 mm2 HKS.out.2.2 HNM.out ⟨rfl, rfl⟩ HDR.out HMM.out HIN.out nk c (nk * c) ⟨rfl, rfl, rfl⟩ rfl).mono ?_
   rintro e w7 ⟨A7, c7, rfl, h⟩
   have H7 := Lib.hid h
   clear h
   have L6 := Lib.hid (H7.out.putT #[.int .i64 (nk : Int), .int .i64 (c : Int), .slice A7 (nk * c) c7] 38)
   obtain ⟨a7, b7, d7⟩ := L6.out.cells mm2
   go_wp2_with fail
   clear a7 b7 d7
   have H8 := L6
   clear L6
   generalize (w7.alloc (.cells #[.int .i64 (nk : Int), .int .i64 (c : Int), .slice A7 (nk * c) c7] 38)) = w8 at *
   by_cases h2l : 2 * nm = k * (k + 1)
   ·have H2L := Lib.hid h2l
    clear h2l
    refine (symR H8.out (r := k) mm3 HD.out.2.2.2 HLNm.out rfl (by have := HNN.out; omega) H2L.out (k * k) rfl rfl).mono ?_
    rintro e w9 ⟨A9, c9, rfl, h⟩
    have H9 := Lib.hid h
    clear h
    have L8 := Lib.hid (H9.out.put #[.int .i64 (k : Int), .int .i64 (k : Int), .slice A9 (k * k) c9])
    obtain ⟨a9, b9, d9⟩ := L8.out.cells mm3
    go_wp2_with fail
    clear a9 b9 d9
    have H10 := L8
    clear L8
    generalize (w9.alloc (.cells #[.int .i64 (k : Int), .int .i64 (k : Int), .slice A9 (k * k) c9] 27)) = w10 at *
    refine (rsymR H10.out (r := k) mm4 HLNm.out rfl (by have := HNN.out; omega) H2L.out (k * k) rfl rfl).mono ?_
    rintro e w11 ⟨A11, c11, rfl, h⟩
    have H11 := Lib.hid h
    clear h
    have L10 := Lib.hid (H11.out.putT #[.int .i64 (k : Int), .int .i64 (k : Int), .slice A11 (k * k) c11] 38)
    obtain ⟨a11, b11, d11⟩ := L10.out.cells mm3
    obtain ⟨a12, b12, d12⟩ := L10.out.cells mm2
    go_wp2_with fail
    clear a11 b11 d11 a12 b12 d12
    have H12 := L10
    clear L10
    generalize (w11.alloc (.cells #[.int .i64 (k : Int), .int .i64 (k : Int), .slice A11 (k * k) c11] 38)) = w12 at *
    refine (lsameR H12.out mm3 (flat_len _ _ _) mm2 (flat_len _ _ _) (v := true) (sameB_self _ _ _)).mono ?_
    rintro e w13 ⟨rfl, h⟩
    have H13 := Lib.hid h
    clear h
    obtain ⟨a13, b13, d13⟩ := H13.out.cells mm1
    obtain ⟨a14, b14, d14⟩ := H13.out.cells mm0
    go_wp2_with fail
    clear a13 b13 d13 a14 b14 d14
    refine (lsameR H13.out mm1 (flat_len _ _ _) mm0 (flat_len _ _ _) (v := true) (sameB_self _ _ _)).mono ?_
    rintro e w14 ⟨rfl, h⟩
    have H14 := Lib.hid h
    clear h
    go_wp2_with fail
    refine (oneR H14.out (r := k) rfl (by have := HNN.out; omega) (k * k) rfl rfl).mono ?_
    rintro e w15 ⟨A15, c15, rfl, h⟩
    have H15 := Lib.hid h
    clear h
    go_wp2_with fail
    refine (roneR H15.out (r := k) (by omega) (by have := HNN.out; omega) (k : Int) (k * k) ⟨rfl, rfl⟩ rfl).mono ?_
    rintro e w16 ⟨A16, c16, rfl, h⟩
    have H16 := Lib.hid h
    clear h
    go_wp2_with fail
    refine (lsameR H16.out mm1 (flat_len _ _ _) mm0 (flat_len _ _ _) (v := true) (sameB_self _ _ _)).mono ?_
    rintro e w17 ⟨rfl, h⟩
    have H17 := Lib.hid h
    clear h
    go_wp2_with fail
    refine (powR H17.out (c := k) mm6 HLNx.out rfl (by have := HNN.out; have := HD.out; omega) (nx : Int) (nx * k) ⟨rfl, rfl⟩ rfl).mono ?_
    rintro e w18 ⟨A18, c18, rfl, h⟩
    have H18 := Lib.hid h
    clear h
    go_wp2_with fail
    refine (rpowR H18.out (c := k) mm7 HLNx.out (by have := HD.out; omega) (by have := HNN.out; omega) (by omega) (nx : Int) (k : Int) (nx * k) ⟨rfl, rfl, rfl⟩ rfl).mono ?_
    rintro e w19 ⟨A19, c19, rfl, h⟩
    have H19 := Lib.hid h
    clear h
    go_wp2_with fail
    refine (lsameR H19.out mm1 (flat_len _ _ _) mm0 (flat_len _ _ _) (v := true) (sameB_self _ _ _)).mono ?_
    rintro e w20 ⟨rfl, h⟩
    have H20 := Lib.hid h
    clear h
    go_wp2_with fail
    refine (works_any _).mono ?_
    rintro e w21 ⟨rfl, hb⟩
    have H21 := Lib.hid (MS.keep H20.out hb)
    clear hb
    go_wp2_with fail
    go_ret
    exact ⟨rfl, H21.out.below⟩
   ·have HX := Lib.hid (show (k : Int) < 0 ∨ 65536 < (k : Int) ∨ (0 ≤ (k : Int) ∧ (k : Int) ≤ 65536 ∧ (nm : Int) ≠ (k : Int) * ((k : Int) + 1) / 2) from .inr (.inr ⟨by omega, by have := HNN.out; omega, by
     obtain ⟨q, hq⟩ : ∃ q, k * (k + 1) = q := ⟨_, rfl⟩
     have hq2 : q % 2 = 0 := by rw [← hq]; rcases Nat.mod_two_eq_zero_or_one k with e | e <;> rw [Nat.mul_mod, Nat.add_mod, e]
     rw [show (k : Int) * ((k : Int) + 1) = (q : Int) by rw [← hq]; simp]
     rw [hq] at h2l; omega⟩))
    have HB9 := Lib.hid (show -9223372036854775808 ≤ (k : Int) ∧ (k : Int) ≤ 9223372036854775807 from by have := HNN.out; omega)
    clear h2l
    refine (symXR H8.out HB9.out HX.out).mono ?_
    rintro e w9 ⟨rfl, h⟩
    have H9 := Lib.hid h
    clear h
    have L8 := Lib.hid (H9.out.put #[.int .i64 0, .int .i64 0, .slice none 0 0])
    obtain ⟨a9, b9, d9⟩ := L8.out.cells mm3
    go_wp2_with fail
    clear a9 b9 d9
    have H10 := L8
    clear L8
    generalize (w9.alloc (.cells #[.int .i64 0, .int .i64 0, .slice none 0 0] 27)) = w10 at *
    refine (rsymXR H10.out HB9.out HX.out).mono ?_
    rintro e w11 ⟨rfl, h⟩
    have H11 := Lib.hid h
    clear h
    have L10 := Lib.hid (H11.out.putT #[.int .i64 0, .int .i64 0, .slice none 0 0] 38)
    obtain ⟨a11, b11, d11⟩ := L10.out.cells mm3
    obtain ⟨a12, b12, d12⟩ := L10.out.cells mm2
    go_wp2_with fail
    clear a11 b11 d11 a12 b12 d12
    have H12 := L10
    clear L10
    generalize (w11.alloc (.cells #[.int .i64 0, .int .i64 0, .slice none 0 0] 38)) = w12 at *
    refine (lsameR H12.out mm1 (flat_len _ _ _) mm0 (flat_len _ _ _) (v := true) (sameB_self _ _ _)).mono ?_
    rintro e w13 ⟨rfl, h⟩
    have H13 := Lib.hid h
    clear h
    obtain ⟨a13, b13, d13⟩ := H13.out.cells mm1
    obtain ⟨a14, b14, d14⟩ := H13.out.cells mm0
    go_wp2_with fail
    clear a13 b13 d13 a14 b14 d14
    refine (lsameR H13.out mm4 rfl mm4 rfl (v := true) (sameB_self _ _ _)).mono ?_
    rintro e w14 ⟨rfl, h⟩
    have H14 := Lib.hid h
    clear h
    go_wp2_with fail
    refine (oneR H14.out (r := k) rfl (by have := HNN.out; omega) (k * k) rfl rfl).mono ?_
    rintro e w15 ⟨A15, c15, rfl, h⟩
    have H15 := Lib.hid h
    clear h
    go_wp2_with fail
    refine (roneR H15.out (r := k) (by omega) (by have := HNN.out; omega) (k : Int) (k * k) ⟨rfl, rfl⟩ rfl).mono ?_
    rintro e w16 ⟨A16, c16, rfl, h⟩
    have H16 := Lib.hid h
    clear h
    go_wp2_with fail
    refine (lsameR H16.out mm1 (flat_len _ _ _) mm0 (flat_len _ _ _) (v := true) (sameB_self _ _ _)).mono ?_
    rintro e w17 ⟨rfl, h⟩
    have H17 := Lib.hid h
    clear h
    go_wp2_with fail
    refine (powR H17.out (c := k) mm4 HLNx.out rfl (by have := HNN.out; have := HD.out; omega) (nx : Int) (nx * k) ⟨rfl, rfl⟩ rfl).mono ?_
    rintro e w18 ⟨A18, c18, rfl, h⟩
    have H18 := Lib.hid h
    clear h
    go_wp2_with fail
    refine (rpowR H18.out (c := k) mm5 HLNx.out (by have := HD.out; omega) (by have := HNN.out; omega) (by omega) (nx : Int) (k : Int) (nx * k) ⟨rfl, rfl, rfl⟩ rfl).mono ?_
    rintro e w19 ⟨A19, c19, rfl, h⟩
    have H19 := Lib.hid h
    clear h
    go_wp2_with fail
    refine (lsameR H19.out mm1 (flat_len _ _ _) mm0 (flat_len _ _ _) (v := true) (sameB_self _ _ _)).mono ?_
    rintro e w20 ⟨rfl, h⟩
    have H20 := Lib.hid h
    clear h
    go_wp2_with fail
    refine (works_any _).mono ?_
    rintro e w21 ⟨rfl, hb⟩
    have H21 := Lib.hid (MS.keep H20.out hb)
    clear hb
    go_wp2_with fail
    go_ret
    exact ⟨rfl, H21.out.below⟩
end Go.Proofs.Ythdapoipfnnaeaa.MxW
/- The law MatrixMakes: its walk. -/
namespace Go.Proofs.Ythdapoipfnnaeaa.MxW
open Go.RowKit Go.Shelf Mem Gf FdW Mx Rng
open PlW (In)
set_option linter.unusedVariables false
set_option linter.unusedSectionVars false
attribute [local go_sem] Oper.semAt_some wide_fn
set_option maxRecDepth 100000 in
set_option maxHeartbeats 40000000 in
theorem makes_big (w : World)  (Rm Cm : Int) (M : Option Addr) (lm : List UInt8) (nm cm : Nat) (hlm : lm.length = nm) (hM : Bytes w w.heap.size M lm) (hcm : lm.length ≤ cm) (K : Option Addr) (ks : List Int) (nk ck : Nat) (hlk : ks.length = nk) (hK : Cells w w.heap.size K (ks.map i64v)) (h64 : ∀ v ∈ ks, -9223372036854775808 ≤ v ∧ v ≤ 9223372036854775807) (X : Option Addr) (lx : List UInt8) (nx cx : Nat) (hlx : lx.length = nx) (hX : Bytes w w.heap.size X lx) (hcx : lx.length ≤ cx) (n : Int) (hcap : cm ≤ maxLen) (hs : smallB 12 Rm Cm nm = true) (h1 : ¬ (20 : Int) < (nk : Int)) (h2 : ¬ (20 : Int) < (nx : Int)) (hn : 4097 ≤ n ∧ n ≤ 65536) :
    Calls Try.prog 6 #[.agg #[.int .i64 Rm, .int .i64 Cm, .slice M nm cm], .slice K nk ck, .slice X nx cx, .int .i64 n] w fun e w' => e = .returned (.bool true) ∧ Below w.heap.size w w' := by
 have H0 := Lib.hid (((MS.start w).nilR.arg hM hcm).arg hX hcx)
 have HLNm := Lib.hid hlm
 have HLNx := Lib.hid hlx
 have HKS := Lib.hid (And.intro hK (And.intro h64 hlk))
 have HSm := Lib.hid hs
 have HD := Lib.hid (show nk ≤ 20 ∧ nx ≤ 20 ∧ nm ≤ 153 ∧ cm ≤ maxLen from by have h := of_decide_eq_true hs; omega)
 have hn12 : (12 : Int) < n := by omega
 have hn4 : ¬ n < 4097 := by omega
 have hn65 : ¬ (65536 : Int) < n := by omega
 have HNN := Lib.hid hn
 clear hM hcm hlm hX hcx hlx hK h64 hlk hs hcap hn
 go_enter Try.func6, Try.ntmps6
 have L1 := Lib.hid (H0.out.put #[.int .i64 Rm, .int .i64 Cm, .slice M nm cm])
 obtain ⟨a2, b2, d2⟩ := L1.out.cells mm0
 go_wp2_with fail
 clear a2 b2 d2
 have H1 := L1
 clear L1
 generalize (w.alloc (.cells #[.int .i64 Rm, .int .i64 Cm, .slice M nm cm] 27)) = w1 at *
 refine (smallR H1.out 12 (by decide) (v := true) HSm.out).mono ?_
 rintro e w2 ⟨rfl, h⟩
 have H2 := Lib.hid h
 clear h
 go_wp2_with fail
 refine (newR H2.out).mono ?_
 rintro e w3 ⟨rfl, h⟩
 have H3 := Lib.hid h
 clear h
 obtain ⟨a3, b3, d3⟩ := H3.out.cells mm0
 go_wp2_with fail
 clear a3 b3 d3
 cases hr : rightB Rm Cm nm with
 | false =>
  have HR := Lib.hid hr
  clear hr
  refine (pick0R H3.out HR.out).mono ?_
  rintro e w4 ⟨rfl, h⟩
  have H4 := Lib.hid h
  clear h
  have L4 := Lib.hid (H4.out.put #[.int .i64 0, .int .i64 0, .slice none 0 0])
  obtain ⟨a5, b5, d5⟩ := L4.out.cells mm1
  go_wp2_with fail
  clear a5 b5 d5
  have H5 := L4
  clear L4
  generalize (w4.alloc (.cells #[.int .i64 0, .int .i64 0, .slice none 0 0] 27)) = w5 at *
  refine (plainR H5.out ).mono ?_
  rintro e w6 ⟨rfl, h⟩
  have H6 := Lib.hid h
  clear h
  go_wp2_with fail
  refine (rpick0R H6.out HR.out).mono ?_
  rintro e w7 ⟨rfl, h⟩
  have H7 := Lib.hid h
  clear h
  have L6 := Lib.hid (H7.out.putT #[.int .i64 0, .int .i64 0, .slice none 0 0] 38)
  obtain ⟨a7, b7, d7⟩ := L6.out.cells mm2
  go_wp2_with fail
  clear a7 b7 d7
  have H8 := L6
  clear L6
  generalize (w7.alloc (.cells #[.int .i64 0, .int .i64 0, .slice none 0 0] 38)) = w8 at *
  have HX := Lib.hid (show n < 0 ∨ 65536 < n ∨ (0 ≤ n ∧ n ≤ 65536 ∧ (nm : Int) ≠ n * (n + 1) / 2) from .inr (.inr ⟨by have := HNN.out; omega, HNN.out.2, by
   obtain ⟨k, hk⟩ : ∃ k : Nat, n = (k : Int) := ⟨n.toNat, by have := HNN.out; omega⟩
   have h1 := HNN.out; have h2 := HD.out
   have h3 : 4097 * 4098 ≤ k * (k + 1) := Nat.mul_le_mul (by omega) (by omega)
   rw [hk, show (k : Int) * ((k : Int) + 1) = ((k * (k + 1) : Nat) : Int) by simp]; omega⟩))
  have HB9 := Lib.hid (show -9223372036854775808 ≤ n ∧ n ≤ 9223372036854775807 from by have := HNN.out; omega)
  refine (symXR H8.out HB9.out HX.out).mono ?_
  rintro e w9 ⟨rfl, h⟩
  have H9 := Lib.hid h
  clear h
  have L8 := Lib.hid (H9.out.put #[.int .i64 0, .int .i64 0, .slice none 0 0])
  obtain ⟨a9, b9, d9⟩ := L8.out.cells mm3
  go_wp2_with fail
  clear a9 b9 d9
  have H10 := L8
  clear L8
  generalize (w9.alloc (.cells #[.int .i64 0, .int .i64 0, .slice none 0 0] 27)) = w10 at *
  refine (rsymXR H10.out HB9.out HX.out).mono ?_
  rintro e w11 ⟨rfl, h⟩
  have H11 := Lib.hid h
  clear h
  have L10 := Lib.hid (H11.out.putT #[.int .i64 0, .int .i64 0, .slice none 0 0] 38)
  obtain ⟨a11, b11, d11⟩ := L10.out.cells mm3
  obtain ⟨a12, b12, d12⟩ := L10.out.cells mm2
  go_wp2_with fail
  clear a11 b11 d11 a12 b12 d12
  have H12 := L10
  clear L10
  generalize (w11.alloc (.cells #[.int .i64 0, .int .i64 0, .slice none 0 0] 38)) = w12 at *
  refine (lsameR H12.out mm2 rfl mm2 rfl (v := true) (sameB_self _ _ _)).mono ?_
  rintro e w13 ⟨rfl, h⟩
  have H13 := Lib.hid h
  clear h
  obtain ⟨a13, b13, d13⟩ := H13.out.cells mm1
  obtain ⟨a14, b14, d14⟩ := H13.out.cells mm0
  go_wp2_with fail
  clear a13 b13 d13 a14 b14 d14
  refine (lsameR H13.out mm2 rfl mm2 rfl (v := true) (sameB_self _ _ _)).mono ?_
  rintro e w14 ⟨rfl, h⟩
  have H14 := Lib.hid h
  clear h
  go_wp2_with fail
  refine (one0R H14.out (.inr (by have := HNN.out; omega))).mono ?_
  rintro e w15 ⟨A15, c15, rfl, h⟩
  have H15 := Lib.hid h
  clear h
  have hfd := fun W => Mx_field0 W 0 0 A15 0 c15
  go_wp2_with fail
  refine (works_any _).mono ?_
  rintro e w16 ⟨rfl, hb⟩
  have H16 := Lib.hid (MS.keep H15.out hb)
  clear hb
  go_wp2_with fail
  go_ret
  exact ⟨rfl, H16.out.below⟩
 | true =>
  obtain ⟨r, c, rfl, rfl, hr6, hc6, hnm⟩ := right_nat hr
  have HNM := Lib.hid hnm
  have HDR := Lib.hid (show r ≤ 100 ∧ c ≤ 100 ∧ nk ≤ 100 from by have h := of_decide_eq_true HSm.out; have := HD.out; omega)
  have HMM := Lib.hid (show lm = flat r c (ent lm c) from (flat_ent (HLNm.out.trans hnm)).symm)
  clear hr hr6 hc6 hnm
  cases hin : allIn r ks with
  | false =>
   have HIN := Lib.hid hin
   clear hin
   refine (pick1R H3.out (r := r) (c := c) HKS.out.1 mm1 HKS.out.2.2 HNM.out ⟨rfl, rfl⟩ HDR.out HMM.out HIN.out).mono ?_
   rintro e w4 ⟨rfl, h⟩
   have H4 := Lib.hid h
   clear h
   have L4 := Lib.hid (H4.out.put #[.int .i64 0, .int .i64 0, .slice none 0 0])
   obtain ⟨a5, b5, d5⟩ := L4.out.cells mm1
   go_wp2_with fail
   clear a5 b5 d5
   have H5 := L4
   clear L4
   generalize (w4.alloc (.cells #[.int .i64 0, .int .i64 0, .slice none 0 0] 27)) = w5 at *
   refine (plainR H5.out ).mono ?_
   rintro e w6 ⟨rfl, h⟩
   have H6 := Lib.hid h
   clear h
   go_wp2_with fail
   refine (rpick1R H6.out (r := r) (c := c) HKS.out.1 HKS.out.2.1 mm1 HKS.out.2.2 HNM.out ⟨rfl, rfl⟩ HDR.out HMM.out HIN.out).mono ?_
   rintro e w7 ⟨rfl, h⟩
   have H7 := Lib.hid h
   clear h
   have L6 := Lib.hid (H7.out.putT #[.int .i64 0, .int .i64 0, .slice none 0 0] 38)
   obtain ⟨a7, b7, d7⟩ := L6.out.cells mm2
   go_wp2_with fail
   clear a7 b7 d7
   have H8 := L6
   clear L6
   generalize (w7.alloc (.cells #[.int .i64 0, .int .i64 0, .slice none 0 0] 38)) = w8 at *
   have HX := Lib.hid (show n < 0 ∨ 65536 < n ∨ (0 ≤ n ∧ n ≤ 65536 ∧ (nm : Int) ≠ n * (n + 1) / 2) from .inr (.inr ⟨by have := HNN.out; omega, HNN.out.2, by
    obtain ⟨k, hk⟩ : ∃ k : Nat, n = (k : Int) := ⟨n.toNat, by have := HNN.out; omega⟩
    have h1 := HNN.out; have h2 := HD.out
    have h3 : 4097 * 4098 ≤ k * (k + 1) := Nat.mul_le_mul (by omega) (by omega)
    rw [hk, show (k : Int) * ((k : Int) + 1) = ((k * (k + 1) : Nat) : Int) by simp]; omega⟩))
   have HB9 := Lib.hid (show -9223372036854775808 ≤ n ∧ n ≤ 9223372036854775807 from by have := HNN.out; omega)
   refine (symXR H8.out HB9.out HX.out).mono ?_
   rintro e w9 ⟨rfl, h⟩
   have H9 := Lib.hid h
   clear h
   have L8 := Lib.hid (H9.out.put #[.int .i64 0, .int .i64 0, .slice none 0 0])
   obtain ⟨a9, b9, d9⟩ := L8.out.cells mm3
   go_wp2_with fail
   clear a9 b9 d9
   have H10 := L8
   clear L8
   generalize (w9.alloc (.cells #[.int .i64 0, .int .i64 0, .slice none 0 0] 27)) = w10 at *
   refine (rsymXR H10.out HB9.out HX.out).mono ?_
   rintro e w11 ⟨rfl, h⟩
   have H11 := Lib.hid h
   clear h
   have L10 := Lib.hid (H11.out.putT #[.int .i64 0, .int .i64 0, .slice none 0 0] 38)
   obtain ⟨a11, b11, d11⟩ := L10.out.cells mm3
   obtain ⟨a12, b12, d12⟩ := L10.out.cells mm2
   go_wp2_with fail
   clear a11 b11 d11 a12 b12 d12
   have H12 := L10
   clear L10
   generalize (w11.alloc (.cells #[.int .i64 0, .int .i64 0, .slice none 0 0] 38)) = w12 at *
   refine (lsameR H12.out mm2 rfl mm2 rfl (v := true) (sameB_self _ _ _)).mono ?_
   rintro e w13 ⟨rfl, h⟩
   have H13 := Lib.hid h
   clear h
   obtain ⟨a13, b13, d13⟩ := H13.out.cells mm1
   obtain ⟨a14, b14, d14⟩ := H13.out.cells mm0
   go_wp2_with fail
   clear a13 b13 d13 a14 b14 d14
   refine (lsameR H13.out mm2 rfl mm2 rfl (v := true) (sameB_self _ _ _)).mono ?_
   rintro e w14 ⟨rfl, h⟩
   have H14 := Lib.hid h
   clear h
   go_wp2_with fail
   refine (one0R H14.out (.inr (by have := HNN.out; omega))).mono ?_
   rintro e w15 ⟨A15, c15, rfl, h⟩
   have H15 := Lib.hid h
   clear h
   have hfd := fun W => Mx_field0 W 0 0 A15 0 c15
   go_wp2_with fail
   refine (works_any _).mono ?_
   rintro e w16 ⟨rfl, hb⟩
   have H16 := Lib.hid (MS.keep H15.out hb)
   clear hb
   go_wp2_with fail
   go_ret
   exact ⟨rfl, H16.out.below⟩
  | true =>
   have HIN := Lib.hid hin
   clear hin
   refine (pickR H3.out (r := r) (c := c) HKS.out.1 mm1 HKS.out.2.2 HNM.out ⟨rfl, rfl⟩ HDR.out HMM.out HIN.out nk c (nk * c) ⟨rfl, rfl, rfl⟩ rfl).mono ?_
   rintro e w4 ⟨A4, c4, rfl, h⟩
   have H4 := Lib.hid h
   clear h
   have L4 := Lib.hid (H4.out.put #[.int .i64 (nk : Int), .int .i64 (c : Int), .slice A4 (nk * c) c4])
   obtain ⟨a5, b5, d5⟩ := L4.out.cells mm1
   go_wp2_with fail
   clear a5 b5 d5
   have H5 := L4
   clear L4
   generalize (w4.alloc (.cells #[.int .i64 (nk : Int), .int .i64 (c : Int), .slice A4 (nk * c) c4] 27)) = w5 at *
   refine (plainR H5.out ).mono ?_
   rintro e w6 ⟨rfl, h⟩
   have H6 := Lib.hid h
   clear h
   go_wp2_with fail
   refine (rpickR H6.out (r := r) (c := c) HKS.out.1 HKS.out.2.1 mm2 HKS.out.2.2 HNM.out ⟨rfl, rfl⟩ HDR.out HMM.out HIN.out nk c (nk * c) ⟨rfl, rfl, rfl⟩ rfl).mono ?_
   rintro e w7 ⟨A7, c7, rfl, h⟩
   have H7 := Lib.hid h
   clear h
   have L6 := Lib.hid (H7.out.putT #[.int .i64 (nk : Int), .int .i64 (c : Int), .slice A7 (nk * c) c7] 38)
   obtain ⟨a7, b7, d7⟩ := L6.out.cells mm2
   go_wp2_with fail
   clear a7 b7 d7
   have H8 := L6
   clear L6
   generalize (w7.alloc (.cells #[.int .i64 (nk : Int), .int .i64 (c : Int), .slice A7 (nk * c) c7] 38)) = w8 at *
   have HX := Lib.hid (show n < 0 ∨ 65536 < n ∨ (0 ≤ n ∧ n ≤ 65536 ∧ (nm : Int) ≠ n * (n + 1) / 2) from .inr (.inr ⟨by have := HNN.out; omega, HNN.out.2, by
    obtain ⟨k, hk⟩ : ∃ k : Nat, n = (k : Int) := ⟨n.toNat, by have := HNN.out; omega⟩
    have h1 := HNN.out; have h2 := HD.out
    have h3 : 4097 * 4098 ≤ k * (k + 1) := Nat.mul_le_mul (by omega) (by omega)
    rw [hk, show (k : Int) * ((k : Int) + 1) = ((k * (k + 1) : Nat) : Int) by simp]; omega⟩))
   have HB9 := Lib.hid (show -9223372036854775808 ≤ n ∧ n ≤ 9223372036854775807 from by have := HNN.out; omega)
   refine (symXR H8.out HB9.out HX.out).mono ?_
   rintro e w9 ⟨rfl, h⟩
   have H9 := Lib.hid h
   clear h
   have L8 := Lib.hid (H9.out.put #[.int .i64 0, .int .i64 0, .slice none 0 0])
   obtain ⟨a9, b9, d9⟩ := L8.out.cells mm3
   go_wp2_with fail
   clear a9 b9 d9
   have H10 := L8
   clear L8
   generalize (w9.alloc (.cells #[.int .i64 0, .int .i64 0, .slice none 0 0] 27)) = w10 at *
   refine (rsymXR H10.out HB9.out HX.out).mono ?_
   rintro e w11 ⟨rfl, h⟩
   have H11 := Lib.hid h
   clear h
   have L10 := Lib.hid (H11.out.putT #[.int .i64 0, .int .i64 0, .slice none 0 0] 38)
   obtain ⟨a11, b11, d11⟩ := L10.out.cells mm3
   obtain ⟨a12, b12, d12⟩ := L10.out.cells mm2
   go_wp2_with fail
   clear a11 b11 d11 a12 b12 d12
   have H12 := L10
   clear L10
   generalize (w11.alloc (.cells #[.int .i64 0, .int .i64 0, .slice none 0 0] 38)) = w12 at *
   refine (lsameR H12.out mm1 (flat_len _ _ _) mm0 (flat_len _ _ _) (v := true) (sameB_self _ _ _)).mono ?_
   rintro e w13 ⟨rfl, h⟩
   have H13 := Lib.hid h
   clear h
   obtain ⟨a13, b13, d13⟩ := H13.out.cells mm1
   obtain ⟨a14, b14, d14⟩ := H13.out.cells mm0
   go_wp2_with fail
   clear a13 b13 d13 a14 b14 d14
   refine (lsameR H13.out mm4 rfl mm4 rfl (v := true) (sameB_self _ _ _)).mono ?_
   rintro e w14 ⟨rfl, h⟩
   have H14 := Lib.hid h
   clear h
   go_wp2_with fail
   refine (one0R H14.out (.inr (by have := HNN.out; omega))).mono ?_
   rintro e w15 ⟨A15, c15, rfl, h⟩
   have H15 := Lib.hid h
   clear h
   have hfd := fun W => Mx_field0 W 0 0 A15 0 c15
   go_wp2_with fail
   refine (works_any _).mono ?_
   rintro e w16 ⟨rfl, hb⟩
   have H16 := Lib.hid (MS.keep H15.out hb)
   clear hb
   go_wp2_with fail
   go_ret
   exact ⟨rfl, H16.out.below⟩
end Go.Proofs.Ythdapoipfnnaeaa.MxW
/- The arguments of a law, opened: a slice of int. -/
namespace Go.Proofs.Ythdapoipfnnaeaa.Open
open Go.ChangeShapes Go.WideShapes Go.ChangeAt Go.RowKit Mem

open MxW (i64v)
theorem open_i64s {H : Type} {enc : TypeId × Value → H} {P : Program} {W : World} {T E : TypeId} {r : Reach} {b0 base : Nat} {sp : Nat → Bool} {held : Bool} {v : Value} {d : DataW H} {p : List MemPlace}
    (hT : P.underlying T = some (.slice E)) (hE : P.underlying E = some (.int .i64)) (hC : P.cellsOf E = 1) (hv : Value.okWide P W r b0 T v) (h : DataW.Trod enc P W base sp held T v d p) :
    ∃ (A : Option Addr) (l : List Int) (c : Nat), v = .slice A l.length c ∧ l.length ≤ c ∧ c ≤ maxLen ∧ Cells W W.heap.size A (l.map i64v) ∧ ∀ n ∈ l, -9223372036854775808 ≤ n ∧ n ≤ 9223372036854775807 := by
 obtain ⟨a, len, cap, rfl⟩ := okWide_slice hT hv
 obtain ⟨fuel, hf⟩ := h
 rcases open_ints hT hE hC hf with ⟨hcs, _⟩ | ⟨x, l, c, zs, hcs, _, hl, hm, hz, _, hcell, hwz⟩
 ·simp [Value.cells] at hcs
  obtain ⟨rfl, rfl, rfl⟩ := hcs
  exact ⟨none, [], 0, rfl, Nat.le_refl _, Nat.zero_le _, Cells.nil, by simp⟩
 ·simp [Value.cells] at hcs
  obtain ⟨rfl, rfl, rfl⟩ := hcs
  have hzl : len ≤ zs.length := by rw [hz]; split <;> omega
  have hin : ∀ i, i < len → zs.getD i 0 ∈ zs := by
   intro i hi
   have hz' : i < zs.length := by omega
   simp [List.getD, hz']
  refine ⟨some x, (List.range len).map fun i => zs.getD i 0, cap, by simp, by simpa using hl, hm, fun hlen => ?_, fun n hn => ?_⟩
  ·simp at hlen
   obtain ⟨b, off, spot⟩ := x
   have hspot : spot = none := by
    have hc0 := hcell 0 (by omega)
    exact by simpa [Addr.add] using World.cell?_spot hc0
   subst hspot
   refine ⟨b, off, rfl, ?_, fun j v hv => ?_⟩
   ·have hc0 := hcell 0 (by omega)
    rw [Addr.add_lit] at hc0
    exact World.block_lt_of_cell? _ _ hc0
   ·simp only [List.getElem?_map] at hv
    by_cases hj : j < len
    ·have hc0 := hcell j (by omega)
     rw [Addr.add_lit] at hc0
     rw [hc0]
     simp [hj] at hv
     rw [← hv]
     simp only [i64v, List.getD]
     try rfl
    ·simp [hj] at hv
  ·obtain ⟨i, hi, rfl⟩ := List.mem_map.1 hn
   have := i64_of_wf (hwz _ (hin i (List.mem_range.1 hi)))
   omega
end Go.Proofs.Ythdapoipfnnaeaa.Open
/- The law MatrixMakes: its walk. -/
namespace Go.Proofs.Ythdapoipfnnaeaa.MxW
open Go.RowKit Go.Shelf Mem Gf FdW Mx Rng
open PlW (In)
set_option linter.unusedVariables false
set_option linter.unusedSectionVars false
attribute [local go_sem] Oper.semAt_some wide_fn
set_option maxRecDepth 100000 in
set_option maxHeartbeats 40000000 in
theorem makes_out0 (w : World)  (Rm Cm : Int) (M : Option Addr) (lm : List UInt8) (nm cm : Nat) (hlm : lm.length = nm) (hM : Bytes w w.heap.size M lm) (hcm : lm.length ≤ cm) (K : Option Addr) (ks : List Int) (nk ck : Nat) (hlk : ks.length = nk) (hK : Cells w w.heap.size K (ks.map i64v)) (h64 : ∀ v ∈ ks, -9223372036854775808 ≤ v ∧ v ≤ 9223372036854775807) (X : Option Addr) (lx : List UInt8) (nx cx : Nat) (hlx : lx.length = nx) (hX : Bytes w w.heap.size X lx) (hcx : lx.length ≤ cx) (n : Int) (hs : smallB 12 Rm Cm nm = false)  :
    Calls Try.prog 6 #[.agg #[.int .i64 Rm, .int .i64 Cm, .slice M nm cm], .slice K nk ck, .slice X nx cx, .int .i64 n] w fun e w' => e = .returned (.bool true) ∧ Below w.heap.size w w' := by
 have H0 := Lib.hid (((MS.start w).nilR.arg hM hcm).arg hX hcx)
 have HLNm := Lib.hid hlm
 have HLNx := Lib.hid hlx
 have HKS := Lib.hid (And.intro hK (And.intro h64 hlk))
 have HSm := Lib.hid hs
 clear hM hcm hlm hX hcx hlx hK h64 hlk hs
 go_enter Try.func6, Try.ntmps6
 have L1 := Lib.hid (H0.out.put #[.int .i64 Rm, .int .i64 Cm, .slice M nm cm])
 obtain ⟨a2, b2, d2⟩ := L1.out.cells mm0
 go_wp2_with fail
 clear a2 b2 d2
 have H1 := L1
 clear L1
 generalize (w.alloc (.cells #[.int .i64 Rm, .int .i64 Cm, .slice M nm cm] 27)) = w1 at *
 refine (smallR H1.out 12 (by decide) (v := false) HSm.out).mono ?_
 rintro e w2 ⟨rfl, h⟩
 have H2 := Lib.hid h
 clear h
 go_wp2_with fail
 refine (works_any _).mono ?_
 rintro e w3 ⟨rfl, hb⟩
 have H3 := Lib.hid (MS.keep H2.out hb)
 clear hb
 go_wp2_with fail
 go_ret
 exact ⟨rfl, H3.out.below⟩
set_option maxRecDepth 100000 in
set_option maxHeartbeats 40000000 in
theorem makes_out1 (w : World)  (Rm Cm : Int) (M : Option Addr) (lm : List UInt8) (nm cm : Nat) (hlm : lm.length = nm) (hM : Bytes w w.heap.size M lm) (hcm : lm.length ≤ cm) (K : Option Addr) (ks : List Int) (nk ck : Nat) (hlk : ks.length = nk) (hK : Cells w w.heap.size K (ks.map i64v)) (h64 : ∀ v ∈ ks, -9223372036854775808 ≤ v ∧ v ≤ 9223372036854775807) (X : Option Addr) (lx : List UInt8) (nx cx : Nat) (hlx : lx.length = nx) (hX : Bytes w w.heap.size X lx) (hcx : lx.length ≤ cx) (n : Int) (hs : smallB 12 Rm Cm nm = true) (h1 : (20 : Int) < (nk : Int)) :
    Calls Try.prog 6 #[.agg #[.int .i64 Rm, .int .i64 Cm, .slice M nm cm], .slice K nk ck, .slice X nx cx, .int .i64 n] w fun e w' => e = .returned (.bool true) ∧ Below w.heap.size w w' := by
 have H0 := Lib.hid (((MS.start w).nilR.arg hM hcm).arg hX hcx)
 have HLNm := Lib.hid hlm
 have HLNx := Lib.hid hlx
 have HKS := Lib.hid (And.intro hK (And.intro h64 hlk))
 have HSm := Lib.hid hs
 clear hM hcm hlm hX hcx hlx hK h64 hlk hs
 go_enter Try.func6, Try.ntmps6
 have L1 := Lib.hid (H0.out.put #[.int .i64 Rm, .int .i64 Cm, .slice M nm cm])
 obtain ⟨a2, b2, d2⟩ := L1.out.cells mm0
 go_wp2_with fail
 clear a2 b2 d2
 have H1 := L1
 clear L1
 generalize (w.alloc (.cells #[.int .i64 Rm, .int .i64 Cm, .slice M nm cm] 27)) = w1 at *
 refine (smallR H1.out 12 (by decide) (v := true) HSm.out).mono ?_
 rintro e w2 ⟨rfl, h⟩
 have H2 := Lib.hid h
 clear h
 go_wp2_with fail
 refine (works_any _).mono ?_
 rintro e w3 ⟨rfl, hb⟩
 have H3 := Lib.hid (MS.keep H2.out hb)
 clear hb
 go_wp2_with fail
 go_ret
 exact ⟨rfl, H3.out.below⟩
set_option maxRecDepth 100000 in
set_option maxHeartbeats 40000000 in
theorem makes_out2 (w : World)  (Rm Cm : Int) (M : Option Addr) (lm : List UInt8) (nm cm : Nat) (hlm : lm.length = nm) (hM : Bytes w w.heap.size M lm) (hcm : lm.length ≤ cm) (K : Option Addr) (ks : List Int) (nk ck : Nat) (hlk : ks.length = nk) (hK : Cells w w.heap.size K (ks.map i64v)) (h64 : ∀ v ∈ ks, -9223372036854775808 ≤ v ∧ v ≤ 9223372036854775807) (X : Option Addr) (lx : List UInt8) (nx cx : Nat) (hlx : lx.length = nx) (hX : Bytes w w.heap.size X lx) (hcx : lx.length ≤ cx) (n : Int) (hs : smallB 12 Rm Cm nm = true) (h1 : ¬ (20 : Int) < (nk : Int)) (h2 : (20 : Int) < (nx : Int)) :
    Calls Try.prog 6 #[.agg #[.int .i64 Rm, .int .i64 Cm, .slice M nm cm], .slice K nk ck, .slice X nx cx, .int .i64 n] w fun e w' => e = .returned (.bool true) ∧ Below w.heap.size w w' := by
 have H0 := Lib.hid (((MS.start w).nilR.arg hM hcm).arg hX hcx)
 have HLNm := Lib.hid hlm
 have HLNx := Lib.hid hlx
 have HKS := Lib.hid (And.intro hK (And.intro h64 hlk))
 have HSm := Lib.hid hs
 clear hM hcm hlm hX hcx hlx hK h64 hlk hs
 go_enter Try.func6, Try.ntmps6
 have L1 := Lib.hid (H0.out.put #[.int .i64 Rm, .int .i64 Cm, .slice M nm cm])
 obtain ⟨a2, b2, d2⟩ := L1.out.cells mm0
 go_wp2_with fail
 clear a2 b2 d2
 have H1 := L1
 clear L1
 generalize (w.alloc (.cells #[.int .i64 Rm, .int .i64 Cm, .slice M nm cm] 27)) = w1 at *
 refine (smallR H1.out 12 (by decide) (v := true) HSm.out).mono ?_
 rintro e w2 ⟨rfl, h⟩
 have H2 := Lib.hid h
 clear h
 go_wp2_with fail
 refine (works_any _).mono ?_
 rintro e w3 ⟨rfl, hb⟩
 have H3 := Lib.hid (MS.keep H2.out hb)
 clear hb
 go_wp2_with fail
 go_ret
 exact ⟨rfl, H3.out.below⟩
set_option maxRecDepth 100000 in
set_option maxHeartbeats 40000000 in
theorem makes_out3 (w : World)  (Rm Cm : Int) (M : Option Addr) (lm : List UInt8) (nm cm : Nat) (hlm : lm.length = nm) (hM : Bytes w w.heap.size M lm) (hcm : lm.length ≤ cm) (K : Option Addr) (ks : List Int) (nk ck : Nat) (hlk : ks.length = nk) (hK : Cells w w.heap.size K (ks.map i64v)) (h64 : ∀ v ∈ ks, -9223372036854775808 ≤ v ∧ v ≤ 9223372036854775807) (X : Option Addr) (lx : List UInt8) (nx cx : Nat) (hlx : lx.length = nx) (hX : Bytes w w.heap.size X lx) (hcx : lx.length ≤ cx) (n : Int) (hs : smallB 12 Rm Cm nm = true) (h1 : ¬ (20 : Int) < (nk : Int)) (h2 : ¬ (20 : Int) < (nx : Int)) (h3 : (12 : Int) < n) (h4 : n < 4097) :
    Calls Try.prog 6 #[.agg #[.int .i64 Rm, .int .i64 Cm, .slice M nm cm], .slice K nk ck, .slice X nx cx, .int .i64 n] w fun e w' => e = .returned (.bool true) ∧ Below w.heap.size w w' := by
 have H0 := Lib.hid (((MS.start w).nilR.arg hM hcm).arg hX hcx)
 have HLNm := Lib.hid hlm
 have HLNx := Lib.hid hlx
 have HKS := Lib.hid (And.intro hK (And.intro h64 hlk))
 have HSm := Lib.hid hs
 clear hM hcm hlm hX hcx hlx hK h64 hlk hs
 go_enter Try.func6, Try.ntmps6
 have L1 := Lib.hid (H0.out.put #[.int .i64 Rm, .int .i64 Cm, .slice M nm cm])
 obtain ⟨a2, b2, d2⟩ := L1.out.cells mm0
 go_wp2_with fail
 clear a2 b2 d2
 have H1 := L1
 clear L1
 generalize (w.alloc (.cells #[.int .i64 Rm, .int .i64 Cm, .slice M nm cm] 27)) = w1 at *
 refine (smallR H1.out 12 (by decide) (v := true) HSm.out).mono ?_
 rintro e w2 ⟨rfl, h⟩
 have H2 := Lib.hid h
 clear h
 go_wp2_with fail
 refine (works_any _).mono ?_
 rintro e w3 ⟨rfl, hb⟩
 have H3 := Lib.hid (MS.keep H2.out hb)
 clear hb
 go_wp2_with fail
 go_ret
 exact ⟨rfl, H3.out.below⟩
set_option maxRecDepth 100000 in
set_option maxHeartbeats 40000000 in
theorem makes_out4 (w : World)  (Rm Cm : Int) (M : Option Addr) (lm : List UInt8) (nm cm : Nat) (hlm : lm.length = nm) (hM : Bytes w w.heap.size M lm) (hcm : lm.length ≤ cm) (K : Option Addr) (ks : List Int) (nk ck : Nat) (hlk : ks.length = nk) (hK : Cells w w.heap.size K (ks.map i64v)) (h64 : ∀ v ∈ ks, -9223372036854775808 ≤ v ∧ v ≤ 9223372036854775807) (X : Option Addr) (lx : List UInt8) (nx cx : Nat) (hlx : lx.length = nx) (hX : Bytes w w.heap.size X lx) (hcx : lx.length ≤ cx) (n : Int) (hs : smallB 12 Rm Cm nm = true) (h1 : ¬ (20 : Int) < (nk : Int)) (h2 : ¬ (20 : Int) < (nx : Int)) (h3 : (12 : Int) < n) (h4 : ¬ n < 4097) (h5 : (65536 : Int) < n) :
    Calls Try.prog 6 #[.agg #[.int .i64 Rm, .int .i64 Cm, .slice M nm cm], .slice K nk ck, .slice X nx cx, .int .i64 n] w fun e w' => e = .returned (.bool true) ∧ Below w.heap.size w w' := by
 have H0 := Lib.hid (((MS.start w).nilR.arg hM hcm).arg hX hcx)
 have HLNm := Lib.hid hlm
 have HLNx := Lib.hid hlx
 have HKS := Lib.hid (And.intro hK (And.intro h64 hlk))
 have HSm := Lib.hid hs
 clear hM hcm hlm hX hcx hlx hK h64 hlk hs
 go_enter Try.func6, Try.ntmps6
 have L1 := Lib.hid (H0.out.put #[.int .i64 Rm, .int .i64 Cm, .slice M nm cm])
 obtain ⟨a2, b2, d2⟩ := L1.out.cells mm0
 go_wp2_with fail
 clear a2 b2 d2
 have H1 := L1
 clear L1
 generalize (w.alloc (.cells #[.int .i64 Rm, .int .i64 Cm, .slice M nm cm] 27)) = w1 at *
 refine (smallR H1.out 12 (by decide) (v := true) HSm.out).mono ?_
 rintro e w2 ⟨rfl, h⟩
 have H2 := Lib.hid h
 clear h
 go_wp2_with fail
 refine (works_any _).mono ?_
 rintro e w3 ⟨rfl, hb⟩
 have H3 := Lib.hid (MS.keep H2.out hb)
 clear hb
 go_wp2_with fail
 go_ret
 exact ⟨rfl, H3.out.below⟩
theorem makes_law (w : World) (Rm Cm : Int) (M : Option Addr) (lm : List UInt8) (cm : Nat) (gm : Open.MtOk w Rm Cm M lm cm) (K : Option Addr) (ks : List Int) (ck : Nat) (_ : ks.length ≤ ck) (_ : ck ≤ maxLen) (hK : Cells w w.heap.size K (ks.map i64v)) (h64 : ∀ v ∈ ks, -9223372036854775808 ≤ v ∧ v ≤ 9223372036854775807) (X : Option Addr) (lx : List UInt8) (cx : Nat) (hlx : lx.length ≤ cx) (_ : cx ≤ maxLen) (hX : Bytes w w.heap.size X lx) (n : Int) (hn : -9223372036854775808 ≤ n ∧ n ≤ 9223372036854775807) :
    Calls Try.prog 6 #[.agg #[.int .i64 Rm, .int .i64 Cm, .slice M lm.length cm], .slice K ks.length ck, .slice X lx.length cx, .int .i64 n] w fun e w' => e = .returned (.bool true) ∧ Below w.heap.size w w' := by
 cases hs : smallB 12 Rm Cm lm.length with
 | false => exact makes_out0 w Rm Cm M lm _ cm rfl gm.row gm.le K ks _ ck rfl hK h64 X lx _ cx rfl hX hlx n hs
 | true =>
 by_cases h1 : (20 : Int) < (ks.length : Int)
 ·exact makes_out1 w Rm Cm M lm _ cm rfl gm.row gm.le K ks _ ck rfl hK h64 X lx _ cx rfl hX hlx n hs h1
 by_cases h2 : (20 : Int) < (lx.length : Int)
 ·exact makes_out2 w Rm Cm M lm _ cm rfl gm.row gm.le K ks _ ck rfl hK h64 X lx _ cx rfl hX hlx n hs h1 h2
 by_cases h3 : (12 : Int) < n
 ·by_cases h4 : n < 4097
  ·exact makes_out3 w Rm Cm M lm _ cm rfl gm.row gm.le K ks _ ck rfl hK h64 X lx _ cx rfl hX hlx n hs h1 h2 h3 h4
  ·by_cases h5 : (65536 : Int) < n
   ·exact makes_out4 w Rm Cm M lm _ cm rfl gm.row gm.le K ks _ ck rfl hK h64 X lx _ cx rfl hX hlx n hs h1 h2 h3 h4 h5
   ·exact makes_big w Rm Cm M lm _ cm rfl gm.row gm.le K ks _ ck rfl hK h64 X lx _ cx rfl hX hlx n gm.max hs h1 h2 ⟨by omega, by omega⟩
 ·by_cases h4 : n < 0
  ·exact makes_neg w Rm Cm M lm _ cm rfl gm.row gm.le K ks _ ck rfl hK h64 X lx _ cx rfl hX hlx n gm.max hs h1 h2 ⟨hn.1, h4⟩
  ·obtain ⟨k, rfl⟩ : ∃ k : Nat, n = (k : Int) := ⟨n.toNat, by omega⟩
   exact makes_small w Rm Cm M lm _ cm rfl gm.row gm.le K ks _ ck rfl hK h64 X lx _ cx rfl hX hlx k gm.max hs h1 h2 (by omega)
end Go.Proofs.Ythdapoipfnnaeaa.MxW
/- The law MatrixPowers: its walk. -/
namespace Go.Proofs.Ythdapoipfnnaeaa.MxW
open Go.RowKit Go.Shelf Mem Gf FdW Mx Rng
open PlW (In)
set_option linter.unusedVariables false
set_option linter.unusedSectionVars false
attribute [local go_sem] Oper.semAt_some wide_fn

theorem solves_sq (r : Nat) (a : M) : solves r r r a idm = decide (rankM r r a = r) := by
 unfold solves rankM
 rw [List.drop_of_length_le (by rw [flat_len]; exact Nat.le_refl _), (Mx.redTo_A a idm (fun _ _ => 0) r r).2]
 simp [anyNz]
/-- Is place i none of the first k? -/
def frst (xs : List UInt8) (i k : Nat) : Bool := decide (∀ j, j < k → xs.getD j 0 ≠ xs.getD i 0)
theorem frst_zero (xs : List UInt8) (i : Nat) : frst xs i 0 = true := by unfold frst; exact decide_eq_true fun j hj => absurd hj (Nat.not_lt_zero _)
theorem frst_off {xs : List UInt8} {i k : Nat} (h : frst xs i k = false) : frst xs i (k + 1) = false := by
 unfold frst at h ⊢
 rw [decide_eq_false_iff_not] at h ⊢
 exact fun h2 => h fun j hj => h2 j (by omega)
theorem frst_hit {xs : List UInt8} {i k : Nat} (h : xs.getD k 0 = xs.getD i 0) : frst xs i (k + 1) = false := by
 unfold frst
 rw [decide_eq_false_iff_not]
 exact fun h2 => h2 k (by omega) h
theorem frst_on {xs : List UInt8} {i k : Nat} (h : frst xs i k = true) (h2 : xs.getD k 0 ≠ xs.getD i 0) : frst xs i (k + 1) = true := by
 unfold frst at h ⊢
 rw [decide_eq_true_iff] at h ⊢
 intro j hj
 by_cases e : j = k
 ·rw [e]; exact h2
 ·exact h j (by omega)
theorem unl_on {xs : List UInt8} {i : Nat} (h : frst xs i i = true) : (unl xs (i + 1)).length = (unl xs i).length + 1 := by
 unfold frst at h
 rw [decide_eq_true_iff] at h
 rw [unl, if_neg, List.length_append, List.length_singleton]
 rw [unl_mem]
 rintro ⟨j, hj, e⟩
 exact h j hj e
theorem unl_off {xs : List UInt8} {i : Nat} (h : frst xs i i = false) : (unl xs (i + 1)).length = (unl xs i).length := by
 unfold frst at h
 rw [decide_eq_false_iff_not] at h
 rw [unl, if_pos]
 rw [unl_mem]
 refine Classical.byContradiction fun h2 => h fun j hj e => h2 ⟨j, hj, e⟩
set_option maxRecDepth 100000 in
set_option maxHeartbeats 40000000 in
theorem powers_out (w : World) (A : Option Addr) (xs : List UInt8) (n c : Nat) (hn : xs.length = n) (h : (10 : Int) < n ∨ n = 0) :
    Calls Try.prog 3 #[.slice A n c] w fun e w' => e = .returned (.bool true) ∧ Below w.heap.size w w' := by
 rcases h with h | h
 ·go_enter Try.func3, Try.ntmps3
  go_wp2_with fail
  refine (works_any _).mono ?_
  rintro e w1 ⟨rfl, hb⟩
  have H1 := Lib.hid hb
  clear hb
  go_wp2_with fail
  go_ret
  exact ⟨rfl, H1.out⟩
 ·subst h
  clear hn
  go_enter Try.func3, Try.ntmps3
  go_wp2_with fail
  refine (works_any _).mono ?_
  rintro e w1 ⟨rfl, hb⟩
  have H1 := Lib.hid hb
  clear hb
  go_wp2_with fail
  go_ret
  exact ⟨rfl, H1.out⟩
set_option maxRecDepth 100000 in
set_option maxHeartbeats 40000000 in
theorem powers_in (w : World) (A : Option Addr) (xs : List UInt8) (n c : Nat) (hn : xs.length = n) (hc : n ≤ c) (hA : Bytes w w.heap.size A xs) (h1 : ¬ (10 : Int) < n) (h0 : ((n : Int) == 0) = false) :
    Calls Try.prog 3 #[.slice A n c] w fun e w' => e = .returned (.bool true) ∧ Below w.heap.size w w' := by
 have H0 := Lib.hid ((MS.start w).arg hA (by rw [hn]; exact hc))
 have HN := Lib.hid hn
 clear hA hn hc
 go_enter Try.func3, Try.ntmps3
 go_wp2_with fail
 refine (newR H0.out).mono ?_
 rintro e w1 ⟨rfl, h⟩
 have H1 := Lib.hid h
 clear h
 go_wp2_with fail
 go_loopw [4, 5] (fun u i wr => ∃ k : Nat, i = .int .i64 (k : Int) ∧ u = .int .i64 ((unl xs k).length : Int) ∧ k ≤ n ∧ MS w (some w.heap.size) [⟨A, xs, c⟩] [] wr) (fun _ i _ => n - (intOf i).toNat)
 case atStart => exact ⟨0, rfl, rfl, Nat.zero_le _, H1.out⟩
 case round =>
  obtain ⟨i, rfl, rfl, hi, h⟩ := hrel
  have H2 := Lib.hid h
  clear h H1
  obtain ⟨w2, rfl⟩ : ∃ w2 : World, w2 = wr := ⟨_, rfl⟩
  obtain ⟨u, hu⟩ : ∃ u, (unl xs i).length = u := ⟨_, rfl⟩
  have hu9 : (u : Int) ≤ 10 := by have := unl_len xs i; omega
  rw [hu]
  have HU := Lib.hid hu
  clear hu
  by_cases hin : i < n
  ·have hi1 : (i : Int) < (n : Int) := by omega
   have hi0 : (0 : Int) ≤ (i : Int) := by omega
   have hwi : IntKind.i64.wrap ((i : Int) + 1) = ((i + 1 : Nat) : Int) := by rw [IntWalk.i64_in _ (by omega)]; omega
   have hwu : IntKind.i64.wrap ((u : Int) + 1) = ((u + 1 : Nat) : Int) := by rw [IntWalk.i64_in _ (by omega)]; omega
   go_wp2_with fail
   go_loopw [6, 7] (fun b k wr => ∃ j : Nat, k = .int .i64 (j : Int) ∧ b = .bool (frst xs i j) ∧ j ≤ i ∧ MS w (some w.heap.size) [⟨A, xs, c⟩] [] wr) (fun _ k _ => i - (intOf k).toNat)
   case atStart => exact ⟨0, rfl, by rw [frst_zero], Nat.zero_le _, H2.out⟩
   case round =>
    obtain ⟨j, rfl, rfl, hj, h⟩ := hrel
    have H3 := Lib.hid h
    clear h
    obtain ⟨w3, rfl⟩ : ∃ w3 : World, w3 = wr := ⟨_, rfl⟩
    by_cases hji : j < i
    ·have hj1 : (j : Int) < (i : Int) := by omega
     have hj2 : (j : Int) < (n : Int) := by omega
     have hj0 : (0 : Int) ≤ (j : Int) := by omega
     have hwj : IntKind.i64.wrap ((j : Int) + 1) = ((j + 1 : Nat) : Int) := by rw [IntWalk.i64_in _ (by omega)]; omega
     cases hf : frst xs i j with
     | false =>
      have HF := Lib.hid (frst_off hf)
      clear hf
      go_wp2_with fail
      go_quiet (fail)
      go_wp2_with fail
      go_roundw
      case rel => exact ⟨j + 1, rfl, by rw [HF.out], hji, H3.out.keep (nextN (Mem.start _) _)⟩
      case measure => simp [intOf]; omega
     | true =>
      have HF := Lib.hid hf
      clear hf
      obtain ⟨b, o, rfl, hb, hcj⟩ := (H3.out.row _ mm0).1.at_ (k := j) (by rw [HN.out]; omega)
      obtain ⟨b', o', e', hb', hci⟩ := (H3.out.row _ mm0).1.at_ (k := i) (by rw [HN.out]; omega)
      injection e' with e'; injection e' with e' e''
      subst e'; subst e''
      dsimp only at hcj hci
      obtain ⟨x, hx⟩ : ∃ x, xs.getD j 0 = x := ⟨_, rfl⟩
      obtain ⟨y, hy⟩ : ∃ y, xs.getD i 0 = y := ⟨_, rfl⟩
      rw [show xs[j]'(by rw [HN.out]; omega) = x from by rw [← hx, List.getD_eq_getElem?_getD, List.getElem?_eq_getElem (by rw [HN.out]; omega)]; rfl] at hcj
      rw [show xs[i]'(by rw [HN.out]; omega) = y from by rw [← hy, List.getD_eq_getElem?_getD, List.getElem?_eq_getElem (by rw [HN.out]; omega)]; rfl] at hci
      by_cases hxy : x = y
      ·have HF2 := Lib.hid (frst_hit (xs := xs) (i := i) (k := j) (by rw [hx, hy, hxy]))
       have hne : ((x.toNat : Int) != (y.toNat : Int)) = false := by rw [hxy]; simp
       clear hx hy hxy
       go_wp2_with fail
       go_quiet (fail)
       go_wp2_with fail
       go_roundw
       case rel => exact ⟨j + 1, rfl, by rw [HF2.out], hji, H3.out.keep (nextN (Mem.start _) _)⟩
       case measure => simp [intOf]; omega
      ·have HF2 := Lib.hid (frst_on HF.out (by rw [hx, hy]; exact hxy))
       have hne : ((x.toNat : Int) != (y.toNat : Int)) = true := by
        rw [bne_iff_ne]; exact fun e => hxy (UInt8.toNat_inj.1 (by omega))
       clear hx hy hxy
       go_wp2_with fail
       go_quiet (fail)
       go_wp2_with fail
       go_roundw
       case rel => exact ⟨j + 1, rfl, by rw [HF2.out], hji, H3.out.keep (nextN (Mem.start _) _)⟩
       case measure => simp [intOf]; omega
    ·obtain rfl : i = j := by omega
     cases hf : frst xs i i with
     | false =>
      have HF := Lib.hid (unl_off hf)
      clear hf
      go_wp2_with fail
      go_roundw
      case rel => exact ⟨i + 1, rfl, by rw [HF.out, HU.out], hin, H3.out⟩
      case measure => simp [intOf]; omega
     | true =>
      have HF := Lib.hid (unl_on hf)
      clear hf
      go_wp2_with fail
      go_roundw
      case rel => exact ⟨i + 1, rfl, by rw [HF.out, HU.out]; simp, hin, H3.out⟩
      case measure => simp [intOf]; omega
  ·obtain rfl : n = i := by omega
   have HR := Lib.hid (show rankM n n (powM xs) = u from by rw [← HU.out, ← van_rank]; rfl)
   have hn9 : n ≤ 10 := by omega
   have HN9 := Lib.hid hn9
   go_wp2_with fail
   refine (powR H2.out (c := n) mm0 HN.out rfl (by have := HN9.out; omega) n (n * n) ⟨rfl, rfl⟩ rfl).mono ?_
   rintro e w3 ⟨A3, c3, rfl, h⟩
   have H3 := Lib.hid h
   clear h
   have L1 := Lib.hid (H3.out.put #[.int .i64 n, .int .i64 n, .slice A3 (n * n) c3])
   obtain ⟨a1, b1, d1⟩ := L1.out.cells mm0
   go_wp2_with fail
   clear a1 b1 d1
   generalize w3.alloc (.cells #[.int .i64 n, .int .i64 n, .slice A3 (n * n) c3] 27) = w4 at *
   refine (rankR L1.out mm0 rfl ⟨rfl, rfl⟩ (by have := HN9.out; omega) rfl u (by rw [HR.out])).mono ?_
   rintro e w5 ⟨rfl, h⟩
   have H5 := Lib.hid h
   clear h
   obtain ⟨a1, b1, d1⟩ := H5.out.cells mm0
   go_wp2_with fail
   clear a1 b1 d1
   by_cases hun : u = n
   ·subst hun
    refine (invR H5.out mm0 rfl ⟨rfl, rfl⟩ (by have := HN9.out; omega) rfl (by rw [solves_sq, HR.out]; simp) u (u * u) ⟨rfl, rfl⟩ rfl).mono ?_
    rintro e w6 ⟨A6, c6, rfl, h⟩
    have H6 := Lib.hid h
    clear h
    have L2 := Lib.hid (H6.out.put #[.int .i64 u, .int .i64 u, .slice A6 (u * u) c6])
    go_wp2_with fail
    generalize w6.alloc (.cells #[.int .i64 u, .int .i64 u, .slice A6 (u * u) c6] 27) = w7 at *
    refine (works_any _).mono ?_
    rintro e w8 ⟨rfl, hb⟩
    have H8 := Lib.hid (L2.out.keep hb)
    clear hb
    go_wp2_with fail
    go_ret
    exact ⟨rfl, H8.out.below⟩
   ·refine (inv1R H5.out mm0 rfl ⟨rfl, rfl⟩ (by have := HN9.out; omega) rfl (by rw [solves_sq, HR.out]; simpa using hun)).mono ?_
    rintro e w6 ⟨rfl, h⟩
    have H6 := Lib.hid h
    clear h
    have hun1 : ((u : Int) == (n : Int)) = false := by simp; omega
    have L2 := Lib.hid (H6.out.put #[.int .i64 0, .int .i64 0, .slice none 0 0])
    go_wp2_with fail
    generalize w6.alloc (.cells #[.int .i64 0, .int .i64 0, .slice none 0 0] 27) = w7 at *
    refine (works_any _).mono ?_
    rintro e w8 ⟨rfl, hb⟩
    have H8 := Lib.hid (L2.out.keep hb)
    clear hb
    go_wp2_with fail
    go_ret
    exact ⟨rfl, H8.out.below⟩
theorem powers_law (w : World) (A : Option Addr) (l : List UInt8) (c : Nat) (hc : l.length ≤ c) (_ : c ≤ maxLen) (hA : Bytes w w.heap.size A l) :
    Calls Try.prog 3 #[.slice A l.length c] w fun e w' => e = .returned (.bool true) ∧ Below w.heap.size w w' := by
 by_cases h : (10 : Int) < (l.length : Int) ∨ l.length = 0
 ·exact powers_out w A l l.length c rfl h
 ·exact powers_in w A l l.length c rfl hc hA (fun h1 => h (.inl h1)) (by simp; exact fun h1 => h (.inr (by rw [h1]; rfl)))
end Go.Proofs.Ythdapoipfnnaeaa.MxW
