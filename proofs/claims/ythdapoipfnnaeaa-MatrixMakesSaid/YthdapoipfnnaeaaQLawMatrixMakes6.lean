/- Texts of a claim, one behind another. -/
import Derived.Test.YthdapoipfnnaeaaQLawMatrixMakes5
import Derived.Test.YthdapoipfnnaeaaOpenMx
import Derived.Test.YthdapoipfnnaeaaOpen
/- The law MatrixMakes: its walk. -/
namespace Go.Proofs.Ythdapoipfnnaeaa.MxW
open Go.RowKit Go.Shelf Mem Gf FdW Mx Rng
open PlW (In)
set_option linter.unusedVariables false
set_option linter.unusedSectionVars false
attribute [local go_sem] Oper.semAt_some wide_fn
set_option maxRecDepth 100000 in
set_option maxHeartbeats 4000000 in
theorem makes_small (w : World)  (Rm Cm : Int) (M : Option Addr) (lm : List UInt8) (nm cm : Nat) (hlm : lm.length = nm) (hM : Bytes w w.heap.size M lm) (hcm : lm.length ≤ cm) (K : Option Addr) (ks : List Int) (nk ck : Nat) (hlk : ks.length = nk) (hK : Cells w w.heap.size K (ks.map i64v)) (h64 : ∀ v ∈ ks, -9223372036854775808 ≤ v ∧ v ≤ 9223372036854775807) (X : Option Addr) (lx : List UInt8) (nx cx : Nat) (hlx : lx.length = nx) (hX : Bytes w w.heap.size X lx) (hcx : lx.length ≤ cx) (k : Nat) (hcap : cm ≤ maxLen) (hs : smallB 12 Rm Cm nm = true) (h1 : ¬ (20 : Int) < (nk : Int)) (h2 : ¬ (20 : Int) < (nx : Int)) (hn : k ≤ 12) :
    Calls Try.prog 6 #[.agg #[.int .i64 Rm, .int .i64 Cm, .slice M nm cm], .slice K nk ck, .slice X nx cx, .int .i64 (k : Int)] w fun e w' => e = .returned (.bool true) ∧ Below w.heap.size w w' := by
  have H0 := Lib.hid (((MS.start w).nilR.arg hM hcm).arg hX hcx)
  have HLNm := Lib.hid hlm
  have HLNx := Lib.hid hlx
  have HKS := Lib.hid (And.intro hK (And.intro h64 hlk))
  have HSm := Lib.hid hs
  have HD := Lib.hid (show nk ≤ 20 ∧ nx ≤ 20 ∧ nm ≤ 153 ∧ cm ≤ maxLen from by have h := of_decide_eq_true hs; omega)
  have hn12 : ¬ (12 : Int) < (k : Int) := by omega
  have hn65 : ¬ (65536 : Int) < (k : Int) := by omega
  have HNN := Lib.hid hn
  clear hM hcm hlm hX hcx hlx hK h64 hlk hs hcap hn
  go_enter Try.func6, Try.ntmps6
  have L1 := Lib.hid (show MS _ _ _ ((w.heap.size, #[.int .i64 Rm, .int .i64 Cm, .slice M nm cm]) :: _) (w.alloc (.cells #[.int .i64 Rm, .int .i64 Cm, .slice M nm cm] 27)) from by have h := H0.out.put #[.int .i64 Rm, .int .i64 Cm, .slice M nm cm]; (try simp only [World.size_alloc] at h); exact h)
  obtain ⟨a2, b2, d2⟩ := L1.out.cells (.head _)
  go_wp2_with fail
  clear a2 b2 d2
  have H1 := L1
  clear L1
  generalize (w.alloc (.cells #[.int .i64 Rm, .int .i64 Cm, .slice M nm cm] 27)) = w1 at *
  refine (smallR H1.out 12 (by decide) (v := true) HSm.out).mono ?_
  rintro e w2 ⟨rfl, h⟩
  have H2 := Lib.hid h
  clear h
  go_wp2_with fail
  refine (newR H2.out).mono ?_
  rintro e w3 ⟨rfl, h⟩
  have H3 := Lib.hid h
  clear h
  obtain ⟨a3, b3, d3⟩ := H3.out.cells (.head _)
  go_wp2_with fail
  clear a3 b3 d3
  cases hr : rightB Rm Cm nm with
  | false =>
    have HR := Lib.hid hr
    clear hr
    refine (pick0R H3.out HR.out).mono ?_
    rintro e w4 ⟨rfl, h⟩
    have H4 := Lib.hid h
    clear h
    have L4 := Lib.hid (show MS _ _ _ ((w4.heap.size, #[.int .i64 0, .int .i64 0, .slice none 0 0]) :: _) (w4.alloc (.cells #[.int .i64 0, .int .i64 0, .slice none 0 0] 27)) from by have h := H4.out.put #[.int .i64 0, .int .i64 0, .slice none 0 0]; (try simp only [World.size_alloc] at h); exact h)
    obtain ⟨a5, b5, d5⟩ := L4.out.cells (.tail _ (.head _))
    go_wp2_with fail
    clear a5 b5 d5
    have H5 := L4
    clear L4
    generalize (w4.alloc (.cells #[.int .i64 0, .int .i64 0, .slice none 0 0] 27)) = w5 at *
    refine (plainR H5.out ).mono ?_
    rintro e w6 ⟨rfl, h⟩
    have H6 := Lib.hid h
    clear h
    go_wp2_with fail
    refine (rpick0R H6.out HR.out).mono ?_
    rintro e w7 ⟨rfl, h⟩
    have H7 := Lib.hid h
    clear h
    have L6 := Lib.hid (show MS _ _ _ ((w7.heap.size, #[.int .i64 0, .int .i64 0, .slice none 0 0]) :: _) (w7.alloc (.cells #[.int .i64 0, .int .i64 0, .slice none 0 0] 38)) from by have h := H7.out.putT #[.int .i64 0, .int .i64 0, .slice none 0 0] 38; (try simp only [World.size_alloc] at h); exact h)
    obtain ⟨a7, b7, d7⟩ := L6.out.cells (.tail _ (.tail _ (.head _)))
    go_wp2_with fail
    clear a7 b7 d7
    have H8 := L6
    clear L6
    generalize (w7.alloc (.cells #[.int .i64 0, .int .i64 0, .slice none 0 0] 38)) = w8 at *
    by_cases h2l : 2 * nm = k * (k + 1)
    · have H2L := Lib.hid h2l
      clear h2l
      refine (symR H8.out (r := k) (.tail _ (.head _)) HD.out.2.2.2 HLNm.out rfl (by have := HNN.out; omega) H2L.out (k * k) rfl rfl).mono ?_
      rintro e w9 ⟨A9, c9, rfl, h⟩
      have H9 := Lib.hid h
      clear h
      have L8 := Lib.hid (show MS _ _ _ ((w9.heap.size, #[.int .i64 (k : Int), .int .i64 (k : Int), .slice A9 (k * k) c9]) :: _) (w9.alloc (.cells #[.int .i64 (k : Int), .int .i64 (k : Int), .slice A9 (k * k) c9] 27)) from by have h := H9.out.put #[.int .i64 (k : Int), .int .i64 (k : Int), .slice A9 (k * k) c9]; (try simp only [World.size_alloc] at h); exact h)
      obtain ⟨a9, b9, d9⟩ := L8.out.cells (.tail _ (.tail _ (.tail _ (.head _))))
      go_wp2_with fail
      clear a9 b9 d9
      have H10 := L8
      clear L8
      generalize (w9.alloc (.cells #[.int .i64 (k : Int), .int .i64 (k : Int), .slice A9 (k * k) c9] 27)) = w10 at *
      refine (rsymR H10.out (r := k) (.tail _ (.tail _ (.head _))) HLNm.out rfl (by have := HNN.out; omega) H2L.out (k * k) rfl rfl).mono ?_
      rintro e w11 ⟨A11, c11, rfl, h⟩
      have H11 := Lib.hid h
      clear h
      have L10 := Lib.hid (show MS _ _ _ ((w11.heap.size, #[.int .i64 (k : Int), .int .i64 (k : Int), .slice A11 (k * k) c11]) :: _) (w11.alloc (.cells #[.int .i64 (k : Int), .int .i64 (k : Int), .slice A11 (k * k) c11] 38)) from by have h := H11.out.putT #[.int .i64 (k : Int), .int .i64 (k : Int), .slice A11 (k * k) c11] 38; (try simp only [World.size_alloc] at h); exact h)
      obtain ⟨a11, b11, d11⟩ := L10.out.cells (.tail _ (.tail _ (.tail _ (.head _))))
      obtain ⟨a12, b12, d12⟩ := L10.out.cells (.tail _ (.tail _ (.head _)))
      go_wp2_with fail
      clear a11 b11 d11 a12 b12 d12
      have H12 := L10
      clear L10
      generalize (w11.alloc (.cells #[.int .i64 (k : Int), .int .i64 (k : Int), .slice A11 (k * k) c11] 38)) = w12 at *
      refine (lsameR H12.out (.tail _ (.tail _ (.tail _ (.tail _ (.head _))))) rfl (.tail _ (.tail _ (.tail _ (.tail _ (.head _))))) rfl (v := true) (sameB_self _ _ _)).mono ?_
      rintro e w13 ⟨rfl, h⟩
      have H13 := Lib.hid h
      clear h
      obtain ⟨a13, b13, d13⟩ := H13.out.cells (.tail _ (.head _))
      obtain ⟨a14, b14, d14⟩ := H13.out.cells (.head _)
      go_wp2_with fail
      clear a13 b13 d13 a14 b14 d14
      refine (lsameR H13.out (.tail _ (.head _)) (flat_len _ _ _) (.head _) (flat_len _ _ _) (v := true) (sameB_self _ _ _)).mono ?_
      rintro e w14 ⟨rfl, h⟩
      have H14 := Lib.hid h
      clear h
      go_wp2_with fail
      refine (oneR H14.out (r := k) rfl (by have := HNN.out; omega) (k * k) rfl rfl).mono ?_
      rintro e w15 ⟨A15, c15, rfl, h⟩
      have H15 := Lib.hid h
      clear h
      go_wp2_with fail
      refine (roneR H15.out (r := k) (by omega) (by have := HNN.out; omega) (k : Int) (k * k) ⟨rfl, rfl⟩ rfl).mono ?_
      rintro e w16 ⟨A16, c16, rfl, h⟩
      have H16 := Lib.hid h
      clear h
      go_wp2_with fail
      refine (lsameR H16.out (.tail _ (.head _)) (flat_len _ _ _) (.head _) (flat_len _ _ _) (v := true) (sameB_self _ _ _)).mono ?_
      rintro e w17 ⟨rfl, h⟩
      have H17 := Lib.hid h
      clear h
      go_wp2_with fail
      refine (powR H17.out (c := k) (.tail _ (.tail _ (.tail _ (.tail _ (.head _))))) HLNx.out rfl (by have := HNN.out; have := HD.out; omega) (nx : Int) (nx * k) ⟨rfl, rfl⟩ rfl).mono ?_
      rintro e w18 ⟨A18, c18, rfl, h⟩
      have H18 := Lib.hid h
      clear h
      go_wp2_with fail
      refine (rpowR H18.out (c := k) (.tail _ (.tail _ (.tail _ (.tail _ (.tail _ (.head _)))))) HLNx.out (by have := HD.out; omega) (by have := HNN.out; omega) (by omega) (nx : Int) (k : Int) (nx * k) ⟨rfl, rfl, rfl⟩ rfl).mono ?_
      rintro e w19 ⟨A19, c19, rfl, h⟩
      have H19 := Lib.hid h
      clear h
      go_wp2_with fail
      refine (lsameR H19.out (.tail _ (.head _)) (flat_len _ _ _) (.head _) (flat_len _ _ _) (v := true) (sameB_self _ _ _)).mono ?_
      rintro e w20 ⟨rfl, h⟩
      have H20 := Lib.hid h
      clear h
      go_wp2_with fail
      refine (works_any _).mono ?_
      rintro e w21 ⟨rfl, hb⟩
      have H21 := Lib.hid (MS.keep H20.out hb)
      clear hb
      go_wp2_with fail
      go_ret
      exact ⟨rfl, H21.out.below⟩
    · have HX := Lib.hid (show (k : Int) < 0 ∨ 65536 < (k : Int) ∨ (0 ≤ (k : Int) ∧ (k : Int) ≤ 65536 ∧ (nm : Int) ≠ (k : Int) * ((k : Int) + 1) / 2) from .inr (.inr ⟨by omega, by have := HNN.out; omega, by
        obtain ⟨q, hq⟩ : ∃ q, k * (k + 1) = q := ⟨_, rfl⟩
        have hq2 : q % 2 = 0 := by rw [← hq]; rcases Nat.mod_two_eq_zero_or_one k with e | e <;> rw [Nat.mul_mod, Nat.add_mod, e]
        rw [show (k : Int) * ((k : Int) + 1) = (q : Int) by rw [← hq]; simp]
        rw [hq] at h2l; omega⟩))
      have HB9 := Lib.hid (show -9223372036854775808 ≤ (k : Int) ∧ (k : Int) ≤ 9223372036854775807 from by have := HNN.out; omega)
      clear h2l
      refine (symXR H8.out HB9.out HX.out).mono ?_
      rintro e w9 ⟨rfl, h⟩
      have H9 := Lib.hid h
      clear h
      have L8 := Lib.hid (show MS _ _ _ ((w9.heap.size, #[.int .i64 0, .int .i64 0, .slice none 0 0]) :: _) (w9.alloc (.cells #[.int .i64 0, .int .i64 0, .slice none 0 0] 27)) from by have h := H9.out.put #[.int .i64 0, .int .i64 0, .slice none 0 0]; (try simp only [World.size_alloc] at h); exact h)
      obtain ⟨a9, b9, d9⟩ := L8.out.cells (.tail _ (.tail _ (.tail _ (.head _))))
      go_wp2_with fail
      clear a9 b9 d9
      have H10 := L8
      clear L8
      generalize (w9.alloc (.cells #[.int .i64 0, .int .i64 0, .slice none 0 0] 27)) = w10 at *
      refine (rsymXR H10.out HB9.out HX.out).mono ?_
      rintro e w11 ⟨rfl, h⟩
      have H11 := Lib.hid h
      clear h
      have L10 := Lib.hid (show MS _ _ _ ((w11.heap.size, #[.int .i64 0, .int .i64 0, .slice none 0 0]) :: _) (w11.alloc (.cells #[.int .i64 0, .int .i64 0, .slice none 0 0] 38)) from by have h := H11.out.putT #[.int .i64 0, .int .i64 0, .slice none 0 0] 38; (try simp only [World.size_alloc] at h); exact h)
      obtain ⟨a11, b11, d11⟩ := L10.out.cells (.tail _ (.tail _ (.tail _ (.head _))))
      obtain ⟨a12, b12, d12⟩ := L10.out.cells (.tail _ (.tail _ (.head _)))
      go_wp2_with fail
      clear a11 b11 d11 a12 b12 d12
      have H12 := L10
      clear L10
      generalize (w11.alloc (.cells #[.int .i64 0, .int .i64 0, .slice none 0 0] 38)) = w12 at *
      refine (lsameR H12.out (.tail _ (.tail _ (.head _))) rfl (.tail _ (.tail _ (.head _))) rfl (v := true) (sameB_self _ _ _)).mono ?_
      rintro e w13 ⟨rfl, h⟩
      have H13 := Lib.hid h
      clear h
      obtain ⟨a13, b13, d13⟩ := H13.out.cells (.tail _ (.head _))
      obtain ⟨a14, b14, d14⟩ := H13.out.cells (.head _)
      go_wp2_with fail
      clear a13 b13 d13 a14 b14 d14
      refine (lsameR H13.out (.tail _ (.tail _ (.head _))) rfl (.tail _ (.tail _ (.head _))) rfl (v := true) (sameB_self _ _ _)).mono ?_
      rintro e w14 ⟨rfl, h⟩
      have H14 := Lib.hid h
      clear h
      go_wp2_with fail
      refine (oneR H14.out (r := k) rfl (by have := HNN.out; omega) (k * k) rfl rfl).mono ?_
      rintro e w15 ⟨A15, c15, rfl, h⟩
      have H15 := Lib.hid h
      clear h
      go_wp2_with fail
      refine (roneR H15.out (r := k) (by omega) (by have := HNN.out; omega) (k : Int) (k * k) ⟨rfl, rfl⟩ rfl).mono ?_
      rintro e w16 ⟨A16, c16, rfl, h⟩
      have H16 := Lib.hid h
      clear h
      go_wp2_with fail
      refine (lsameR H16.out (.tail _ (.head _)) (flat_len _ _ _) (.head _) (flat_len _ _ _) (v := true) (sameB_self _ _ _)).mono ?_
      rintro e w17 ⟨rfl, h⟩
      have H17 := Lib.hid h
      clear h
      go_wp2_with fail
      refine (powR H17.out (c := k) (.tail _ (.tail _ (.head _))) HLNx.out rfl (by have := HNN.out; have := HD.out; omega) (nx : Int) (nx * k) ⟨rfl, rfl⟩ rfl).mono ?_
      rintro e w18 ⟨A18, c18, rfl, h⟩
      have H18 := Lib.hid h
      clear h
      go_wp2_with fail
      refine (rpowR H18.out (c := k) (.tail _ (.tail _ (.tail _ (.head _)))) HLNx.out (by have := HD.out; omega) (by have := HNN.out; omega) (by omega) (nx : Int) (k : Int) (nx * k) ⟨rfl, rfl, rfl⟩ rfl).mono ?_
      rintro e w19 ⟨A19, c19, rfl, h⟩
      have H19 := Lib.hid h
      clear h
      go_wp2_with fail
      refine (lsameR H19.out (.tail _ (.head _)) (flat_len _ _ _) (.head _) (flat_len _ _ _) (v := true) (sameB_self _ _ _)).mono ?_
      rintro e w20 ⟨rfl, h⟩
      have H20 := Lib.hid h
      clear h
      go_wp2_with fail
      refine (works_any _).mono ?_
      rintro e w21 ⟨rfl, hb⟩
      have H21 := Lib.hid (MS.keep H20.out hb)
      clear hb
      go_wp2_with fail
      go_ret
      exact ⟨rfl, H21.out.below⟩
  | true =>
    obtain ⟨r, c, rfl, rfl, hr6, hc6, hnm⟩ := right_nat hr
    have HNM := Lib.hid hnm
    have HDR := Lib.hid (show r ≤ 100 ∧ c ≤ 100 ∧ nk ≤ 100 from by have h := of_decide_eq_true HSm.out; have := HD.out; omega)
    have HMM := Lib.hid (show lm = flat r c (ent lm c) from (flat_ent (HLNm.out.trans hnm)).symm)
    clear hr hr6 hc6 hnm
    cases hin : allIn r ks with
    | false =>
      have HIN := Lib.hid hin
      clear hin
      refine (pick1R H3.out (r := r) (c := c) HKS.out.1 (.tail _ (.head _)) HKS.out.2.2 HNM.out ⟨rfl, rfl⟩ HDR.out HMM.out HIN.out).mono ?_
      rintro e w4 ⟨rfl, h⟩
      have H4 := Lib.hid h
      clear h
      have L4 := Lib.hid (show MS _ _ _ ((w4.heap.size, #[.int .i64 0, .int .i64 0, .slice none 0 0]) :: _) (w4.alloc (.cells #[.int .i64 0, .int .i64 0, .slice none 0 0] 27)) from by have h := H4.out.put #[.int .i64 0, .int .i64 0, .slice none 0 0]; (try simp only [World.size_alloc] at h); exact h)
      obtain ⟨a5, b5, d5⟩ := L4.out.cells (.tail _ (.head _))
      go_wp2_with fail
      clear a5 b5 d5
      have H5 := L4
      clear L4
      generalize (w4.alloc (.cells #[.int .i64 0, .int .i64 0, .slice none 0 0] 27)) = w5 at *
      refine (plainR H5.out ).mono ?_
      rintro e w6 ⟨rfl, h⟩
      have H6 := Lib.hid h
      clear h
      go_wp2_with fail
      refine (rpick1R H6.out (r := r) (c := c) HKS.out.1 HKS.out.2.1 (.tail _ (.head _)) HKS.out.2.2 HNM.out ⟨rfl, rfl⟩ HDR.out HMM.out HIN.out).mono ?_
      rintro e w7 ⟨rfl, h⟩
      have H7 := Lib.hid h
      clear h
      have L6 := Lib.hid (show MS _ _ _ ((w7.heap.size, #[.int .i64 0, .int .i64 0, .slice none 0 0]) :: _) (w7.alloc (.cells #[.int .i64 0, .int .i64 0, .slice none 0 0] 38)) from by have h := H7.out.putT #[.int .i64 0, .int .i64 0, .slice none 0 0] 38; (try simp only [World.size_alloc] at h); exact h)
      obtain ⟨a7, b7, d7⟩ := L6.out.cells (.tail _ (.tail _ (.head _)))
      go_wp2_with fail
      clear a7 b7 d7
      have H8 := L6
      clear L6
      generalize (w7.alloc (.cells #[.int .i64 0, .int .i64 0, .slice none 0 0] 38)) = w8 at *
      by_cases h2l : 2 * nm = k * (k + 1)
      · have H2L := Lib.hid h2l
        clear h2l
        refine (symR H8.out (r := k) (.tail _ (.head _)) HD.out.2.2.2 HLNm.out rfl (by have := HNN.out; omega) H2L.out (k * k) rfl rfl).mono ?_
        rintro e w9 ⟨A9, c9, rfl, h⟩
        have H9 := Lib.hid h
        clear h
        have L8 := Lib.hid (show MS _ _ _ ((w9.heap.size, #[.int .i64 (k : Int), .int .i64 (k : Int), .slice A9 (k * k) c9]) :: _) (w9.alloc (.cells #[.int .i64 (k : Int), .int .i64 (k : Int), .slice A9 (k * k) c9] 27)) from by have h := H9.out.put #[.int .i64 (k : Int), .int .i64 (k : Int), .slice A9 (k * k) c9]; (try simp only [World.size_alloc] at h); exact h)
        obtain ⟨a9, b9, d9⟩ := L8.out.cells (.tail _ (.tail _ (.tail _ (.head _))))
        go_wp2_with fail
        clear a9 b9 d9
        have H10 := L8
        clear L8
        generalize (w9.alloc (.cells #[.int .i64 (k : Int), .int .i64 (k : Int), .slice A9 (k * k) c9] 27)) = w10 at *
        refine (rsymR H10.out (r := k) (.tail _ (.tail _ (.head _))) HLNm.out rfl (by have := HNN.out; omega) H2L.out (k * k) rfl rfl).mono ?_
        rintro e w11 ⟨A11, c11, rfl, h⟩
        have H11 := Lib.hid h
        clear h
        have L10 := Lib.hid (show MS _ _ _ ((w11.heap.size, #[.int .i64 (k : Int), .int .i64 (k : Int), .slice A11 (k * k) c11]) :: _) (w11.alloc (.cells #[.int .i64 (k : Int), .int .i64 (k : Int), .slice A11 (k * k) c11] 38)) from by have h := H11.out.putT #[.int .i64 (k : Int), .int .i64 (k : Int), .slice A11 (k * k) c11] 38; (try simp only [World.size_alloc] at h); exact h)
        obtain ⟨a11, b11, d11⟩ := L10.out.cells (.tail _ (.tail _ (.tail _ (.head _))))
        obtain ⟨a12, b12, d12⟩ := L10.out.cells (.tail _ (.tail _ (.head _)))
        go_wp2_with fail
        clear a11 b11 d11 a12 b12 d12
        have H12 := L10
        clear L10
        generalize (w11.alloc (.cells #[.int .i64 (k : Int), .int .i64 (k : Int), .slice A11 (k * k) c11] 38)) = w12 at *
        refine (lsameR H12.out (.tail _ (.tail _ (.tail _ (.tail _ (.head _))))) rfl (.tail _ (.tail _ (.tail _ (.tail _ (.head _))))) rfl (v := true) (sameB_self _ _ _)).mono ?_
        rintro e w13 ⟨rfl, h⟩
        have H13 := Lib.hid h
        clear h
        obtain ⟨a13, b13, d13⟩ := H13.out.cells (.tail _ (.head _))
        obtain ⟨a14, b14, d14⟩ := H13.out.cells (.head _)
        go_wp2_with fail
        clear a13 b13 d13 a14 b14 d14
        refine (lsameR H13.out (.tail _ (.head _)) (flat_len _ _ _) (.head _) (flat_len _ _ _) (v := true) (sameB_self _ _ _)).mono ?_
        rintro e w14 ⟨rfl, h⟩
        have H14 := Lib.hid h
        clear h
        go_wp2_with fail
        refine (oneR H14.out (r := k) rfl (by have := HNN.out; omega) (k * k) rfl rfl).mono ?_
        rintro e w15 ⟨A15, c15, rfl, h⟩
        have H15 := Lib.hid h
        clear h
        go_wp2_with fail
        refine (roneR H15.out (r := k) (by omega) (by have := HNN.out; omega) (k : Int) (k * k) ⟨rfl, rfl⟩ rfl).mono ?_
        rintro e w16 ⟨A16, c16, rfl, h⟩
        have H16 := Lib.hid h
        clear h
        go_wp2_with fail
        refine (lsameR H16.out (.tail _ (.head _)) (flat_len _ _ _) (.head _) (flat_len _ _ _) (v := true) (sameB_self _ _ _)).mono ?_
        rintro e w17 ⟨rfl, h⟩
        have H17 := Lib.hid h
        clear h
        go_wp2_with fail
        refine (powR H17.out (c := k) (.tail _ (.tail _ (.tail _ (.tail _ (.head _))))) HLNx.out rfl (by have := HNN.out; have := HD.out; omega) (nx : Int) (nx * k) ⟨rfl, rfl⟩ rfl).mono ?_
        rintro e w18 ⟨A18, c18, rfl, h⟩
        have H18 := Lib.hid h
        clear h
        go_wp2_with fail
        refine (rpowR H18.out (c := k) (.tail _ (.tail _ (.tail _ (.tail _ (.tail _ (.head _)))))) HLNx.out (by have := HD.out; omega) (by have := HNN.out; omega) (by omega) (nx : Int) (k : Int) (nx * k) ⟨rfl, rfl, rfl⟩ rfl).mono ?_
        rintro e w19 ⟨A19, c19, rfl, h⟩
        have H19 := Lib.hid h
        clear h
        go_wp2_with fail
        refine (lsameR H19.out (.tail _ (.head _)) (flat_len _ _ _) (.head _) (flat_len _ _ _) (v := true) (sameB_self _ _ _)).mono ?_
        rintro e w20 ⟨rfl, h⟩
        have H20 := Lib.hid h
        clear h
        go_wp2_with fail
        refine (works_any _).mono ?_
        rintro e w21 ⟨rfl, hb⟩
        have H21 := Lib.hid (MS.keep H20.out hb)
        clear hb
        go_wp2_with fail
        go_ret
        exact ⟨rfl, H21.out.below⟩
      · have HX := Lib.hid (show (k : Int) < 0 ∨ 65536 < (k : Int) ∨ (0 ≤ (k : Int) ∧ (k : Int) ≤ 65536 ∧ (nm : Int) ≠ (k : Int) * ((k : Int) + 1) / 2) from .inr (.inr ⟨by omega, by have := HNN.out; omega, by
          obtain ⟨q, hq⟩ : ∃ q, k * (k + 1) = q := ⟨_, rfl⟩
          have hq2 : q % 2 = 0 := by rw [← hq]; rcases Nat.mod_two_eq_zero_or_one k with e | e <;> rw [Nat.mul_mod, Nat.add_mod, e]
          rw [show (k : Int) * ((k : Int) + 1) = (q : Int) by rw [← hq]; simp]
          rw [hq] at h2l; omega⟩))
        have HB9 := Lib.hid (show -9223372036854775808 ≤ (k : Int) ∧ (k : Int) ≤ 9223372036854775807 from by have := HNN.out; omega)
        clear h2l
        refine (symXR H8.out HB9.out HX.out).mono ?_
        rintro e w9 ⟨rfl, h⟩
        have H9 := Lib.hid h
        clear h
        have L8 := Lib.hid (show MS _ _ _ ((w9.heap.size, #[.int .i64 0, .int .i64 0, .slice none 0 0]) :: _) (w9.alloc (.cells #[.int .i64 0, .int .i64 0, .slice none 0 0] 27)) from by have h := H9.out.put #[.int .i64 0, .int .i64 0, .slice none 0 0]; (try simp only [World.size_alloc] at h); exact h)
        obtain ⟨a9, b9, d9⟩ := L8.out.cells (.tail _ (.tail _ (.tail _ (.head _))))
        go_wp2_with fail
        clear a9 b9 d9
        have H10 := L8
        clear L8
        generalize (w9.alloc (.cells #[.int .i64 0, .int .i64 0, .slice none 0 0] 27)) = w10 at *
        refine (rsymXR H10.out HB9.out HX.out).mono ?_
        rintro e w11 ⟨rfl, h⟩
        have H11 := Lib.hid h
        clear h
        have L10 := Lib.hid (show MS _ _ _ ((w11.heap.size, #[.int .i64 0, .int .i64 0, .slice none 0 0]) :: _) (w11.alloc (.cells #[.int .i64 0, .int .i64 0, .slice none 0 0] 38)) from by have h := H11.out.putT #[.int .i64 0, .int .i64 0, .slice none 0 0] 38; (try simp only [World.size_alloc] at h); exact h)
        obtain ⟨a11, b11, d11⟩ := L10.out.cells (.tail _ (.tail _ (.tail _ (.head _))))
        obtain ⟨a12, b12, d12⟩ := L10.out.cells (.tail _ (.tail _ (.head _)))
        go_wp2_with fail
        clear a11 b11 d11 a12 b12 d12
        have H12 := L10
        clear L10
        generalize (w11.alloc (.cells #[.int .i64 0, .int .i64 0, .slice none 0 0] 38)) = w12 at *
        refine (lsameR H12.out (.tail _ (.tail _ (.head _))) rfl (.tail _ (.tail _ (.head _))) rfl (v := true) (sameB_self _ _ _)).mono ?_
        rintro e w13 ⟨rfl, h⟩
        have H13 := Lib.hid h
        clear h
        obtain ⟨a13, b13, d13⟩ := H13.out.cells (.tail _ (.head _))
        obtain ⟨a14, b14, d14⟩ := H13.out.cells (.head _)
        go_wp2_with fail
        clear a13 b13 d13 a14 b14 d14
        refine (lsameR H13.out (.tail _ (.tail _ (.head _))) rfl (.tail _ (.tail _ (.head _))) rfl (v := true) (sameB_self _ _ _)).mono ?_
        rintro e w14 ⟨rfl, h⟩
        have H14 := Lib.hid h
        clear h
        go_wp2_with fail
        refine (oneR H14.out (r := k) rfl (by have := HNN.out; omega) (k * k) rfl rfl).mono ?_
        rintro e w15 ⟨A15, c15, rfl, h⟩
        have H15 := Lib.hid h
        clear h
        go_wp2_with fail
        refine (roneR H15.out (r := k) (by omega) (by have := HNN.out; omega) (k : Int) (k * k) ⟨rfl, rfl⟩ rfl).mono ?_
        rintro e w16 ⟨A16, c16, rfl, h⟩
        have H16 := Lib.hid h
        clear h
        go_wp2_with fail
        refine (lsameR H16.out (.tail _ (.head _)) (flat_len _ _ _) (.head _) (flat_len _ _ _) (v := true) (sameB_self _ _ _)).mono ?_
        rintro e w17 ⟨rfl, h⟩
        have H17 := Lib.hid h
        clear h
        go_wp2_with fail
        refine (powR H17.out (c := k) (.tail _ (.tail _ (.head _))) HLNx.out rfl (by have := HNN.out; have := HD.out; omega) (nx : Int) (nx * k) ⟨rfl, rfl⟩ rfl).mono ?_
        rintro e w18 ⟨A18, c18, rfl, h⟩
        have H18 := Lib.hid h
        clear h
        go_wp2_with fail
        refine (rpowR H18.out (c := k) (.tail _ (.tail _ (.tail _ (.head _)))) HLNx.out (by have := HD.out; omega) (by have := HNN.out; omega) (by omega) (nx : Int) (k : Int) (nx * k) ⟨rfl, rfl, rfl⟩ rfl).mono ?_
        rintro e w19 ⟨A19, c19, rfl, h⟩
        have H19 := Lib.hid h
        clear h
        go_wp2_with fail
        refine (lsameR H19.out (.tail _ (.head _)) (flat_len _ _ _) (.head _) (flat_len _ _ _) (v := true) (sameB_self _ _ _)).mono ?_
        rintro e w20 ⟨rfl, h⟩
        have H20 := Lib.hid h
        clear h
        go_wp2_with fail
        refine (works_any _).mono ?_
        rintro e w21 ⟨rfl, hb⟩
        have H21 := Lib.hid (MS.keep H20.out hb)
        clear hb
        go_wp2_with fail
        go_ret
        exact ⟨rfl, H21.out.below⟩
    | true =>
      have HIN := Lib.hid hin
      clear hin
      refine (pickR H3.out (r := r) (c := c) HKS.out.1 (.tail _ (.head _)) HKS.out.2.2 HNM.out ⟨rfl, rfl⟩ HDR.out HMM.out HIN.out nk c (nk * c) ⟨rfl, rfl, rfl⟩ rfl).mono ?_
      rintro e w4 ⟨A4, c4, rfl, h⟩
      have H4 := Lib.hid h
      clear h
      have L4 := Lib.hid (show MS _ _ _ ((w4.heap.size, #[.int .i64 (nk : Int), .int .i64 (c : Int), .slice A4 (nk * c) c4]) :: _) (w4.alloc (.cells #[.int .i64 (nk : Int), .int .i64 (c : Int), .slice A4 (nk * c) c4] 27)) from by have h := H4.out.put #[.int .i64 (nk : Int), .int .i64 (c : Int), .slice A4 (nk * c) c4]; (try simp only [World.size_alloc] at h); exact h)
      obtain ⟨a5, b5, d5⟩ := L4.out.cells (.tail _ (.head _))
      go_wp2_with fail
      clear a5 b5 d5
      have H5 := L4
      clear L4
      generalize (w4.alloc (.cells #[.int .i64 (nk : Int), .int .i64 (c : Int), .slice A4 (nk * c) c4] 27)) = w5 at *
      refine (plainR H5.out ).mono ?_
      rintro e w6 ⟨rfl, h⟩
      have H6 := Lib.hid h
      clear h
      go_wp2_with fail
      refine (rpickR H6.out (r := r) (c := c) HKS.out.1 HKS.out.2.1 (.tail _ (.tail _ (.head _))) HKS.out.2.2 HNM.out ⟨rfl, rfl⟩ HDR.out HMM.out HIN.out nk c (nk * c) ⟨rfl, rfl, rfl⟩ rfl).mono ?_
      rintro e w7 ⟨A7, c7, rfl, h⟩
      have H7 := Lib.hid h
      clear h
      have L6 := Lib.hid (show MS _ _ _ ((w7.heap.size, #[.int .i64 (nk : Int), .int .i64 (c : Int), .slice A7 (nk * c) c7]) :: _) (w7.alloc (.cells #[.int .i64 (nk : Int), .int .i64 (c : Int), .slice A7 (nk * c) c7] 38)) from by have h := H7.out.putT #[.int .i64 (nk : Int), .int .i64 (c : Int), .slice A7 (nk * c) c7] 38; (try simp only [World.size_alloc] at h); exact h)
      obtain ⟨a7, b7, d7⟩ := L6.out.cells (.tail _ (.tail _ (.head _)))
      go_wp2_with fail
      clear a7 b7 d7
      have H8 := L6
      clear L6
      generalize (w7.alloc (.cells #[.int .i64 (nk : Int), .int .i64 (c : Int), .slice A7 (nk * c) c7] 38)) = w8 at *
      by_cases h2l : 2 * nm = k * (k + 1)
      · have H2L := Lib.hid h2l
        clear h2l
        refine (symR H8.out (r := k) (.tail _ (.tail _ (.tail _ (.head _)))) HD.out.2.2.2 HLNm.out rfl (by have := HNN.out; omega) H2L.out (k * k) rfl rfl).mono ?_
        rintro e w9 ⟨A9, c9, rfl, h⟩
        have H9 := Lib.hid h
        clear h
        have L8 := Lib.hid (show MS _ _ _ ((w9.heap.size, #[.int .i64 (k : Int), .int .i64 (k : Int), .slice A9 (k * k) c9]) :: _) (w9.alloc (.cells #[.int .i64 (k : Int), .int .i64 (k : Int), .slice A9 (k * k) c9] 27)) from by have h := H9.out.put #[.int .i64 (k : Int), .int .i64 (k : Int), .slice A9 (k * k) c9]; (try simp only [World.size_alloc] at h); exact h)
        obtain ⟨a9, b9, d9⟩ := L8.out.cells (.tail _ (.tail _ (.tail _ (.head _))))
        go_wp2_with fail
        clear a9 b9 d9
        have H10 := L8
        clear L8
        generalize (w9.alloc (.cells #[.int .i64 (k : Int), .int .i64 (k : Int), .slice A9 (k * k) c9] 27)) = w10 at *
        refine (rsymR H10.out (r := k) (.tail _ (.tail _ (.tail _ (.tail _ (.head _))))) HLNm.out rfl (by have := HNN.out; omega) H2L.out (k * k) rfl rfl).mono ?_
        rintro e w11 ⟨A11, c11, rfl, h⟩
        have H11 := Lib.hid h
        clear h
        have L10 := Lib.hid (show MS _ _ _ ((w11.heap.size, #[.int .i64 (k : Int), .int .i64 (k : Int), .slice A11 (k * k) c11]) :: _) (w11.alloc (.cells #[.int .i64 (k : Int), .int .i64 (k : Int), .slice A11 (k * k) c11] 38)) from by have h := H11.out.putT #[.int .i64 (k : Int), .int .i64 (k : Int), .slice A11 (k * k) c11] 38; (try simp only [World.size_alloc] at h); exact h)
        obtain ⟨a11, b11, d11⟩ := L10.out.cells (.tail _ (.tail _ (.tail _ (.head _))))
        obtain ⟨a12, b12, d12⟩ := L10.out.cells (.tail _ (.tail _ (.head _)))
        go_wp2_with fail
        clear a11 b11 d11 a12 b12 d12
        have H12 := L10
        clear L10
        generalize (w11.alloc (.cells #[.int .i64 (k : Int), .int .i64 (k : Int), .slice A11 (k * k) c11] 38)) = w12 at *
        refine (lsameR H12.out (.tail _ (.tail _ (.tail _ (.head _)))) (flat_len _ _ _) (.tail _ (.tail _ (.head _))) (flat_len _ _ _) (v := true) (sameB_self _ _ _)).mono ?_
        rintro e w13 ⟨rfl, h⟩
        have H13 := Lib.hid h
        clear h
        obtain ⟨a13, b13, d13⟩ := H13.out.cells (.tail _ (.head _))
        obtain ⟨a14, b14, d14⟩ := H13.out.cells (.head _)
        go_wp2_with fail
        clear a13 b13 d13 a14 b14 d14
        refine (lsameR H13.out (.tail _ (.head _)) (flat_len _ _ _) (.head _) (flat_len _ _ _) (v := true) (sameB_self _ _ _)).mono ?_
        rintro e w14 ⟨rfl, h⟩
        have H14 := Lib.hid h
        clear h
        go_wp2_with fail
        refine (oneR H14.out (r := k) rfl (by have := HNN.out; omega) (k * k) rfl rfl).mono ?_
        rintro e w15 ⟨A15, c15, rfl, h⟩
        have H15 := Lib.hid h
        clear h
        go_wp2_with fail
        refine (roneR H15.out (r := k) (by omega) (by have := HNN.out; omega) (k : Int) (k * k) ⟨rfl, rfl⟩ rfl).mono ?_
        rintro e w16 ⟨A16, c16, rfl, h⟩
        have H16 := Lib.hid h
        clear h
        go_wp2_with fail
        refine (lsameR H16.out (.tail _ (.head _)) (flat_len _ _ _) (.head _) (flat_len _ _ _) (v := true) (sameB_self _ _ _)).mono ?_
        rintro e w17 ⟨rfl, h⟩
        have H17 := Lib.hid h
        clear h
        go_wp2_with fail
        refine (powR H17.out (c := k) (.tail _ (.tail _ (.tail _ (.tail _ (.tail _ (.tail _ (.head _))))))) HLNx.out rfl (by have := HNN.out; have := HD.out; omega) (nx : Int) (nx * k) ⟨rfl, rfl⟩ rfl).mono ?_
        rintro e w18 ⟨A18, c18, rfl, h⟩
        have H18 := Lib.hid h
        clear h
        go_wp2_with fail
        refine (rpowR H18.out (c := k) (.tail _ (.tail _ (.tail _ (.tail _ (.tail _ (.tail _ (.tail _ (.head _)))))))) HLNx.out (by have := HD.out; omega) (by have := HNN.out; omega) (by omega) (nx : Int) (k : Int) (nx * k) ⟨rfl, rfl, rfl⟩ rfl).mono ?_
        rintro e w19 ⟨A19, c19, rfl, h⟩
        have H19 := Lib.hid h
        clear h
        go_wp2_with fail
        refine (lsameR H19.out (.tail _ (.head _)) (flat_len _ _ _) (.head _) (flat_len _ _ _) (v := true) (sameB_self _ _ _)).mono ?_
        rintro e w20 ⟨rfl, h⟩
        have H20 := Lib.hid h
        clear h
        go_wp2_with fail
        refine (works_any _).mono ?_
        rintro e w21 ⟨rfl, hb⟩
        have H21 := Lib.hid (MS.keep H20.out hb)
        clear hb
        go_wp2_with fail
        go_ret
        exact ⟨rfl, H21.out.below⟩
      · have HX := Lib.hid (show (k : Int) < 0 ∨ 65536 < (k : Int) ∨ (0 ≤ (k : Int) ∧ (k : Int) ≤ 65536 ∧ (nm : Int) ≠ (k : Int) * ((k : Int) + 1) / 2) from .inr (.inr ⟨by omega, by have := HNN.out; omega, by
          obtain ⟨q, hq⟩ : ∃ q, k * (k + 1) = q := ⟨_, rfl⟩
          have hq2 : q % 2 = 0 := by rw [← hq]; rcases Nat.mod_two_eq_zero_or_one k with e | e <;> rw [Nat.mul_mod, Nat.add_mod, e]
          rw [show (k : Int) * ((k : Int) + 1) = (q : Int) by rw [← hq]; simp]
          rw [hq] at h2l; omega⟩))
        have HB9 := Lib.hid (show -9223372036854775808 ≤ (k : Int) ∧ (k : Int) ≤ 9223372036854775807 from by have := HNN.out; omega)
        clear h2l
        refine (symXR H8.out HB9.out HX.out).mono ?_
        rintro e w9 ⟨rfl, h⟩
        have H9 := Lib.hid h
        clear h
        have L8 := Lib.hid (show MS _ _ _ ((w9.heap.size, #[.int .i64 0, .int .i64 0, .slice none 0 0]) :: _) (w9.alloc (.cells #[.int .i64 0, .int .i64 0, .slice none 0 0] 27)) from by have h := H9.out.put #[.int .i64 0, .int .i64 0, .slice none 0 0]; (try simp only [World.size_alloc] at h); exact h)
        obtain ⟨a9, b9, d9⟩ := L8.out.cells (.tail _ (.tail _ (.tail _ (.head _))))
        go_wp2_with fail
        clear a9 b9 d9
        have H10 := L8
        clear L8
        generalize (w9.alloc (.cells #[.int .i64 0, .int .i64 0, .slice none 0 0] 27)) = w10 at *
        refine (rsymXR H10.out HB9.out HX.out).mono ?_
        rintro e w11 ⟨rfl, h⟩
        have H11 := Lib.hid h
        clear h
        have L10 := Lib.hid (show MS _ _ _ ((w11.heap.size, #[.int .i64 0, .int .i64 0, .slice none 0 0]) :: _) (w11.alloc (.cells #[.int .i64 0, .int .i64 0, .slice none 0 0] 38)) from by have h := H11.out.putT #[.int .i64 0, .int .i64 0, .slice none 0 0] 38; (try simp only [World.size_alloc] at h); exact h)
        obtain ⟨a11, b11, d11⟩ := L10.out.cells (.tail _ (.tail _ (.tail _ (.head _))))
        obtain ⟨a12, b12, d12⟩ := L10.out.cells (.tail _ (.tail _ (.head _)))
        go_wp2_with fail
        clear a11 b11 d11 a12 b12 d12
        have H12 := L10
        clear L10
        generalize (w11.alloc (.cells #[.int .i64 0, .int .i64 0, .slice none 0 0] 38)) = w12 at *
        refine (lsameR H12.out (.tail _ (.head _)) (flat_len _ _ _) (.head _) (flat_len _ _ _) (v := true) (sameB_self _ _ _)).mono ?_
        rintro e w13 ⟨rfl, h⟩
        have H13 := Lib.hid h
        clear h
        obtain ⟨a13, b13, d13⟩ := H13.out.cells (.tail _ (.head _))
        obtain ⟨a14, b14, d14⟩ := H13.out.cells (.head _)
        go_wp2_with fail
        clear a13 b13 d13 a14 b14 d14
        refine (lsameR H13.out (.tail _ (.tail _ (.tail _ (.tail _ (.head _))))) rfl (.tail _ (.tail _ (.tail _ (.tail _ (.head _))))) rfl (v := true) (sameB_self _ _ _)).mono ?_
        rintro e w14 ⟨rfl, h⟩
        have H14 := Lib.hid h
        clear h
        go_wp2_with fail
        refine (oneR H14.out (r := k) rfl (by have := HNN.out; omega) (k * k) rfl rfl).mono ?_
        rintro e w15 ⟨A15, c15, rfl, h⟩
        have H15 := Lib.hid h
        clear h
        go_wp2_with fail
        refine (roneR H15.out (r := k) (by omega) (by have := HNN.out; omega) (k : Int) (k * k) ⟨rfl, rfl⟩ rfl).mono ?_
        rintro e w16 ⟨A16, c16, rfl, h⟩
        have H16 := Lib.hid h
        clear h
        go_wp2_with fail
        refine (lsameR H16.out (.tail _ (.head _)) (flat_len _ _ _) (.head _) (flat_len _ _ _) (v := true) (sameB_self _ _ _)).mono ?_
        rintro e w17 ⟨rfl, h⟩
        have H17 := Lib.hid h
        clear h
        go_wp2_with fail
        refine (powR H17.out (c := k) (.tail _ (.tail _ (.tail _ (.tail _ (.head _))))) HLNx.out rfl (by have := HNN.out; have := HD.out; omega) (nx : Int) (nx * k) ⟨rfl, rfl⟩ rfl).mono ?_
        rintro e w18 ⟨A18, c18, rfl, h⟩
        have H18 := Lib.hid h
        clear h
        go_wp2_with fail
        refine (rpowR H18.out (c := k) (.tail _ (.tail _ (.tail _ (.tail _ (.tail _ (.head _)))))) HLNx.out (by have := HD.out; omega) (by have := HNN.out; omega) (by omega) (nx : Int) (k : Int) (nx * k) ⟨rfl, rfl, rfl⟩ rfl).mono ?_
        rintro e w19 ⟨A19, c19, rfl, h⟩
        have H19 := Lib.hid h
        clear h
        go_wp2_with fail
        refine (lsameR H19.out (.tail _ (.head _)) (flat_len _ _ _) (.head _) (flat_len _ _ _) (v := true) (sameB_self _ _ _)).mono ?_
        rintro e w20 ⟨rfl, h⟩
        have H20 := Lib.hid h
        clear h
        go_wp2_with fail
        refine (works_any _).mono ?_
        rintro e w21 ⟨rfl, hb⟩
        have H21 := Lib.hid (MS.keep H20.out hb)
        clear hb
        go_wp2_with fail
        go_ret
        exact ⟨rfl, H21.out.below⟩
end Go.Proofs.Ythdapoipfnnaeaa.MxW
/- The law MatrixMakes: its walk. -/
namespace Go.Proofs.Ythdapoipfnnaeaa.MxW
open Go.RowKit Go.Shelf Mem Gf FdW Mx Rng
open PlW (In)
set_option linter.unusedVariables false
set_option linter.unusedSectionVars false
attribute [local go_sem] Oper.semAt_some wide_fn
set_option maxRecDepth 100000 in
set_option maxHeartbeats 4000000 in
theorem makes_big (w : World)  (Rm Cm : Int) (M : Option Addr) (lm : List UInt8) (nm cm : Nat) (hlm : lm.length = nm) (hM : Bytes w w.heap.size M lm) (hcm : lm.length ≤ cm) (K : Option Addr) (ks : List Int) (nk ck : Nat) (hlk : ks.length = nk) (hK : Cells w w.heap.size K (ks.map i64v)) (h64 : ∀ v ∈ ks, -9223372036854775808 ≤ v ∧ v ≤ 9223372036854775807) (X : Option Addr) (lx : List UInt8) (nx cx : Nat) (hlx : lx.length = nx) (hX : Bytes w w.heap.size X lx) (hcx : lx.length ≤ cx) (n : Int) (hcap : cm ≤ maxLen) (hs : smallB 12 Rm Cm nm = true) (h1 : ¬ (20 : Int) < (nk : Int)) (h2 : ¬ (20 : Int) < (nx : Int)) (hn : 4097 ≤ n ∧ n ≤ 65536) :
    Calls Try.prog 6 #[.agg #[.int .i64 Rm, .int .i64 Cm, .slice M nm cm], .slice K nk ck, .slice X nx cx, .int .i64 n] w fun e w' => e = .returned (.bool true) ∧ Below w.heap.size w w' := by
  have H0 := Lib.hid (((MS.start w).nilR.arg hM hcm).arg hX hcx)
  have HLNm := Lib.hid hlm
  have HLNx := Lib.hid hlx
  have HKS := Lib.hid (And.intro hK (And.intro h64 hlk))
  have HSm := Lib.hid hs
  have HD := Lib.hid (show nk ≤ 20 ∧ nx ≤ 20 ∧ nm ≤ 153 ∧ cm ≤ maxLen from by have h := of_decide_eq_true hs; omega)
  have hn12 : (12 : Int) < n := by omega
  have hn4 : ¬ n < 4097 := by omega
  have hn65 : ¬ (65536 : Int) < n := by omega
  have HNN := Lib.hid hn
  clear hM hcm hlm hX hcx hlx hK h64 hlk hs hcap hn
  go_enter Try.func6, Try.ntmps6
  have L1 := Lib.hid (show MS _ _ _ ((w.heap.size, #[.int .i64 Rm, .int .i64 Cm, .slice M nm cm]) :: _) (w.alloc (.cells #[.int .i64 Rm, .int .i64 Cm, .slice M nm cm] 27)) from by have h := H0.out.put #[.int .i64 Rm, .int .i64 Cm, .slice M nm cm]; (try simp only [World.size_alloc] at h); exact h)
  obtain ⟨a2, b2, d2⟩ := L1.out.cells (.head _)
  go_wp2_with fail
  clear a2 b2 d2
  have H1 := L1
  clear L1
  generalize (w.alloc (.cells #[.int .i64 Rm, .int .i64 Cm, .slice M nm cm] 27)) = w1 at *
  refine (smallR H1.out 12 (by decide) (v := true) HSm.out).mono ?_
  rintro e w2 ⟨rfl, h⟩
  have H2 := Lib.hid h
  clear h
  go_wp2_with fail
  refine (newR H2.out).mono ?_
  rintro e w3 ⟨rfl, h⟩
  have H3 := Lib.hid h
  clear h
  obtain ⟨a3, b3, d3⟩ := H3.out.cells (.head _)
  go_wp2_with fail
  clear a3 b3 d3
  cases hr : rightB Rm Cm nm with
  | false =>
    have HR := Lib.hid hr
    clear hr
    refine (pick0R H3.out HR.out).mono ?_
    rintro e w4 ⟨rfl, h⟩
    have H4 := Lib.hid h
    clear h
    have L4 := Lib.hid (show MS _ _ _ ((w4.heap.size, #[.int .i64 0, .int .i64 0, .slice none 0 0]) :: _) (w4.alloc (.cells #[.int .i64 0, .int .i64 0, .slice none 0 0] 27)) from by have h := H4.out.put #[.int .i64 0, .int .i64 0, .slice none 0 0]; (try simp only [World.size_alloc] at h); exact h)
    obtain ⟨a5, b5, d5⟩ := L4.out.cells (.tail _ (.head _))
    go_wp2_with fail
    clear a5 b5 d5
    have H5 := L4
    clear L4
    generalize (w4.alloc (.cells #[.int .i64 0, .int .i64 0, .slice none 0 0] 27)) = w5 at *
    refine (plainR H5.out ).mono ?_
    rintro e w6 ⟨rfl, h⟩
    have H6 := Lib.hid h
    clear h
    go_wp2_with fail
    refine (rpick0R H6.out HR.out).mono ?_
    rintro e w7 ⟨rfl, h⟩
    have H7 := Lib.hid h
    clear h
    have L6 := Lib.hid (show MS _ _ _ ((w7.heap.size, #[.int .i64 0, .int .i64 0, .slice none 0 0]) :: _) (w7.alloc (.cells #[.int .i64 0, .int .i64 0, .slice none 0 0] 38)) from by have h := H7.out.putT #[.int .i64 0, .int .i64 0, .slice none 0 0] 38; (try simp only [World.size_alloc] at h); exact h)
    obtain ⟨a7, b7, d7⟩ := L6.out.cells (.tail _ (.tail _ (.head _)))
    go_wp2_with fail
    clear a7 b7 d7
    have H8 := L6
    clear L6
    generalize (w7.alloc (.cells #[.int .i64 0, .int .i64 0, .slice none 0 0] 38)) = w8 at *
    have HX := Lib.hid (show n < 0 ∨ 65536 < n ∨ (0 ≤ n ∧ n ≤ 65536 ∧ (nm : Int) ≠ n * (n + 1) / 2) from .inr (.inr ⟨by have := HNN.out; omega, HNN.out.2, by
      obtain ⟨k, hk⟩ : ∃ k : Nat, n = (k : Int) := ⟨n.toNat, by have := HNN.out; omega⟩
      have h1 := HNN.out; have h2 := HD.out
      have h3 : 4097 * 4098 ≤ k * (k + 1) := Nat.mul_le_mul (by omega) (by omega)
      rw [hk, show (k : Int) * ((k : Int) + 1) = ((k * (k + 1) : Nat) : Int) by simp]; omega⟩))
    have HB9 := Lib.hid (show -9223372036854775808 ≤ n ∧ n ≤ 9223372036854775807 from by have := HNN.out; omega)
    refine (symXR H8.out HB9.out HX.out).mono ?_
    rintro e w9 ⟨rfl, h⟩
    have H9 := Lib.hid h
    clear h
    have L8 := Lib.hid (show MS _ _ _ ((w9.heap.size, #[.int .i64 0, .int .i64 0, .slice none 0 0]) :: _) (w9.alloc (.cells #[.int .i64 0, .int .i64 0, .slice none 0 0] 27)) from by have h := H9.out.put #[.int .i64 0, .int .i64 0, .slice none 0 0]; (try simp only [World.size_alloc] at h); exact h)
    obtain ⟨a9, b9, d9⟩ := L8.out.cells (.tail _ (.tail _ (.tail _ (.head _))))
    go_wp2_with fail
    clear a9 b9 d9
    have H10 := L8
    clear L8
    generalize (w9.alloc (.cells #[.int .i64 0, .int .i64 0, .slice none 0 0] 27)) = w10 at *
    refine (rsymXR H10.out HB9.out HX.out).mono ?_
    rintro e w11 ⟨rfl, h⟩
    have H11 := Lib.hid h
    clear h
    have L10 := Lib.hid (show MS _ _ _ ((w11.heap.size, #[.int .i64 0, .int .i64 0, .slice none 0 0]) :: _) (w11.alloc (.cells #[.int .i64 0, .int .i64 0, .slice none 0 0] 38)) from by have h := H11.out.putT #[.int .i64 0, .int .i64 0, .slice none 0 0] 38; (try simp only [World.size_alloc] at h); exact h)
    obtain ⟨a11, b11, d11⟩ := L10.out.cells (.tail _ (.tail _ (.tail _ (.head _))))
    obtain ⟨a12, b12, d12⟩ := L10.out.cells (.tail _ (.tail _ (.head _)))
    go_wp2_with fail
    clear a11 b11 d11 a12 b12 d12
    have H12 := L10
    clear L10
    generalize (w11.alloc (.cells #[.int .i64 0, .int .i64 0, .slice none 0 0] 38)) = w12 at *
    refine (lsameR H12.out (.tail _ (.tail _ (.head _))) rfl (.tail _ (.tail _ (.head _))) rfl (v := true) (sameB_self _ _ _)).mono ?_
    rintro e w13 ⟨rfl, h⟩
    have H13 := Lib.hid h
    clear h
    obtain ⟨a13, b13, d13⟩ := H13.out.cells (.tail _ (.head _))
    obtain ⟨a14, b14, d14⟩ := H13.out.cells (.head _)
    go_wp2_with fail
    clear a13 b13 d13 a14 b14 d14
    refine (lsameR H13.out (.tail _ (.tail _ (.head _))) rfl (.tail _ (.tail _ (.head _))) rfl (v := true) (sameB_self _ _ _)).mono ?_
    rintro e w14 ⟨rfl, h⟩
    have H14 := Lib.hid h
    clear h
    go_wp2_with fail
    refine (one0R H14.out (.inr (by have := HNN.out; omega))).mono ?_
    rintro e w15 ⟨A15, c15, rfl, h⟩
    have H15 := Lib.hid h
    clear h
    have hfd := fun W => Mx_field0 W 0 0 A15 0 c15
    go_wp2_with fail
    refine (works_any _).mono ?_
    rintro e w16 ⟨rfl, hb⟩
    have H16 := Lib.hid (MS.keep H15.out hb)
    clear hb
    go_wp2_with fail
    go_ret
    exact ⟨rfl, H16.out.below⟩
  | true =>
    obtain ⟨r, c, rfl, rfl, hr6, hc6, hnm⟩ := right_nat hr
    have HNM := Lib.hid hnm
    have HDR := Lib.hid (show r ≤ 100 ∧ c ≤ 100 ∧ nk ≤ 100 from by have h := of_decide_eq_true HSm.out; have := HD.out; omega)
    have HMM := Lib.hid (show lm = flat r c (ent lm c) from (flat_ent (HLNm.out.trans hnm)).symm)
    clear hr hr6 hc6 hnm
    cases hin : allIn r ks with
    | false =>
      have HIN := Lib.hid hin
      clear hin
      refine (pick1R H3.out (r := r) (c := c) HKS.out.1 (.tail _ (.head _)) HKS.out.2.2 HNM.out ⟨rfl, rfl⟩ HDR.out HMM.out HIN.out).mono ?_
      rintro e w4 ⟨rfl, h⟩
      have H4 := Lib.hid h
      clear h
      have L4 := Lib.hid (show MS _ _ _ ((w4.heap.size, #[.int .i64 0, .int .i64 0, .slice none 0 0]) :: _) (w4.alloc (.cells #[.int .i64 0, .int .i64 0, .slice none 0 0] 27)) from by have h := H4.out.put #[.int .i64 0, .int .i64 0, .slice none 0 0]; (try simp only [World.size_alloc] at h); exact h)
      obtain ⟨a5, b5, d5⟩ := L4.out.cells (.tail _ (.head _))
      go_wp2_with fail
      clear a5 b5 d5
      have H5 := L4
      clear L4
      generalize (w4.alloc (.cells #[.int .i64 0, .int .i64 0, .slice none 0 0] 27)) = w5 at *
      refine (plainR H5.out ).mono ?_
      rintro e w6 ⟨rfl, h⟩
      have H6 := Lib.hid h
      clear h
      go_wp2_with fail
      refine (rpick1R H6.out (r := r) (c := c) HKS.out.1 HKS.out.2.1 (.tail _ (.head _)) HKS.out.2.2 HNM.out ⟨rfl, rfl⟩ HDR.out HMM.out HIN.out).mono ?_
      rintro e w7 ⟨rfl, h⟩
      have H7 := Lib.hid h
      clear h
      have L6 := Lib.hid (show MS _ _ _ ((w7.heap.size, #[.int .i64 0, .int .i64 0, .slice none 0 0]) :: _) (w7.alloc (.cells #[.int .i64 0, .int .i64 0, .slice none 0 0] 38)) from by have h := H7.out.putT #[.int .i64 0, .int .i64 0, .slice none 0 0] 38; (try simp only [World.size_alloc] at h); exact h)
      obtain ⟨a7, b7, d7⟩ := L6.out.cells (.tail _ (.tail _ (.head _)))
      go_wp2_with fail
      clear a7 b7 d7
      have H8 := L6
      clear L6
      generalize (w7.alloc (.cells #[.int .i64 0, .int .i64 0, .slice none 0 0] 38)) = w8 at *
      have HX := Lib.hid (show n < 0 ∨ 65536 < n ∨ (0 ≤ n ∧ n ≤ 65536 ∧ (nm : Int) ≠ n * (n + 1) / 2) from .inr (.inr ⟨by have := HNN.out; omega, HNN.out.2, by
        obtain ⟨k, hk⟩ : ∃ k : Nat, n = (k : Int) := ⟨n.toNat, by have := HNN.out; omega⟩
        have h1 := HNN.out; have h2 := HD.out
        have h3 : 4097 * 4098 ≤ k * (k + 1) := Nat.mul_le_mul (by omega) (by omega)
        rw [hk, show (k : Int) * ((k : Int) + 1) = ((k * (k + 1) : Nat) : Int) by simp]; omega⟩))
      have HB9 := Lib.hid (show -9223372036854775808 ≤ n ∧ n ≤ 9223372036854775807 from by have := HNN.out; omega)
      refine (symXR H8.out HB9.out HX.out).mono ?_
      rintro e w9 ⟨rfl, h⟩
      have H9 := Lib.hid h
      clear h
      have L8 := Lib.hid (show MS _ _ _ ((w9.heap.size, #[.int .i64 0, .int .i64 0, .slice none 0 0]) :: _) (w9.alloc (.cells #[.int .i64 0, .int .i64 0, .slice none 0 0] 27)) from by have h := H9.out.put #[.int .i64 0, .int .i64 0, .slice none 0 0]; (try simp only [World.size_alloc] at h); exact h)
      obtain ⟨a9, b9, d9⟩ := L8.out.cells (.tail _ (.tail _ (.tail _ (.head _))))
      go_wp2_with fail
      clear a9 b9 d9
      have H10 := L8
      clear L8
      generalize (w9.alloc (.cells #[.int .i64 0, .int .i64 0, .slice none 0 0] 27)) = w10 at *
      refine (rsymXR H10.out HB9.out HX.out).mono ?_
      rintro e w11 ⟨rfl, h⟩
      have H11 := Lib.hid h
      clear h
      have L10 := Lib.hid (show MS _ _ _ ((w11.heap.size, #[.int .i64 0, .int .i64 0, .slice none 0 0]) :: _) (w11.alloc (.cells #[.int .i64 0, .int .i64 0, .slice none 0 0] 38)) from by have h := H11.out.putT #[.int .i64 0, .int .i64 0, .slice none 0 0] 38; (try simp only [World.size_alloc] at h); exact h)
      obtain ⟨a11, b11, d11⟩ := L10.out.cells (.tail _ (.tail _ (.tail _ (.head _))))
      obtain ⟨a12, b12, d12⟩ := L10.out.cells (.tail _ (.tail _ (.head _)))
      go_wp2_with fail
      clear a11 b11 d11 a12 b12 d12
      have H12 := L10
      clear L10
      generalize (w11.alloc (.cells #[.int .i64 0, .int .i64 0, .slice none 0 0] 38)) = w12 at *
      refine (lsameR H12.out (.tail _ (.tail _ (.head _))) rfl (.tail _ (.tail _ (.head _))) rfl (v := true) (sameB_self _ _ _)).mono ?_
      rintro e w13 ⟨rfl, h⟩
      have H13 := Lib.hid h
      clear h
      obtain ⟨a13, b13, d13⟩ := H13.out.cells (.tail _ (.head _))
      obtain ⟨a14, b14, d14⟩ := H13.out.cells (.head _)
      go_wp2_with fail
      clear a13 b13 d13 a14 b14 d14
      refine (lsameR H13.out (.tail _ (.tail _ (.head _))) rfl (.tail _ (.tail _ (.head _))) rfl (v := true) (sameB_self _ _ _)).mono ?_
      rintro e w14 ⟨rfl, h⟩
      have H14 := Lib.hid h
      clear h
      go_wp2_with fail
      refine (one0R H14.out (.inr (by have := HNN.out; omega))).mono ?_
      rintro e w15 ⟨A15, c15, rfl, h⟩
      have H15 := Lib.hid h
      clear h
      have hfd := fun W => Mx_field0 W 0 0 A15 0 c15
      go_wp2_with fail
      refine (works_any _).mono ?_
      rintro e w16 ⟨rfl, hb⟩
      have H16 := Lib.hid (MS.keep H15.out hb)
      clear hb
      go_wp2_with fail
      go_ret
      exact ⟨rfl, H16.out.below⟩
    | true =>
      have HIN := Lib.hid hin
      clear hin
      refine (pickR H3.out (r := r) (c := c) HKS.out.1 (.tail _ (.head _)) HKS.out.2.2 HNM.out ⟨rfl, rfl⟩ HDR.out HMM.out HIN.out nk c (nk * c) ⟨rfl, rfl, rfl⟩ rfl).mono ?_
      rintro e w4 ⟨A4, c4, rfl, h⟩
      have H4 := Lib.hid h
      clear h
      have L4 := Lib.hid (show MS _ _ _ ((w4.heap.size, #[.int .i64 (nk : Int), .int .i64 (c : Int), .slice A4 (nk * c) c4]) :: _) (w4.alloc (.cells #[.int .i64 (nk : Int), .int .i64 (c : Int), .slice A4 (nk * c) c4] 27)) from by have h := H4.out.put #[.int .i64 (nk : Int), .int .i64 (c : Int), .slice A4 (nk * c) c4]; (try simp only [World.size_alloc] at h); exact h)
      obtain ⟨a5, b5, d5⟩ := L4.out.cells (.tail _ (.head _))
      go_wp2_with fail
      clear a5 b5 d5
      have H5 := L4
      clear L4
      generalize (w4.alloc (.cells #[.int .i64 (nk : Int), .int .i64 (c : Int), .slice A4 (nk * c) c4] 27)) = w5 at *
      refine (plainR H5.out ).mono ?_
      rintro e w6 ⟨rfl, h⟩
      have H6 := Lib.hid h
      clear h
      go_wp2_with fail
      refine (rpickR H6.out (r := r) (c := c) HKS.out.1 HKS.out.2.1 (.tail _ (.tail _ (.head _))) HKS.out.2.2 HNM.out ⟨rfl, rfl⟩ HDR.out HMM.out HIN.out nk c (nk * c) ⟨rfl, rfl, rfl⟩ rfl).mono ?_
      rintro e w7 ⟨A7, c7, rfl, h⟩
      have H7 := Lib.hid h
      clear h
      have L6 := Lib.hid (show MS _ _ _ ((w7.heap.size, #[.int .i64 (nk : Int), .int .i64 (c : Int), .slice A7 (nk * c) c7]) :: _) (w7.alloc (.cells #[.int .i64 (nk : Int), .int .i64 (c : Int), .slice A7 (nk * c) c7] 38)) from by have h := H7.out.putT #[.int .i64 (nk : Int), .int .i64 (c : Int), .slice A7 (nk * c) c7] 38; (try simp only [World.size_alloc] at h); exact h)
      obtain ⟨a7, b7, d7⟩ := L6.out.cells (.tail _ (.tail _ (.head _)))
      go_wp2_with fail
      clear a7 b7 d7
      have H8 := L6
      clear L6
      generalize (w7.alloc (.cells #[.int .i64 (nk : Int), .int .i64 (c : Int), .slice A7 (nk * c) c7] 38)) = w8 at *
      have HX := Lib.hid (show n < 0 ∨ 65536 < n ∨ (0 ≤ n ∧ n ≤ 65536 ∧ (nm : Int) ≠ n * (n + 1) / 2) from .inr (.inr ⟨by have := HNN.out; omega, HNN.out.2, by
        obtain ⟨k, hk⟩ : ∃ k : Nat, n = (k : Int) := ⟨n.toNat, by have := HNN.out; omega⟩
        have h1 := HNN.out; have h2 := HD.out
        have h3 : 4097 * 4098 ≤ k * (k + 1) := Nat.mul_le_mul (by omega) (by omega)
        rw [hk, show (k : Int) * ((k : Int) + 1) = ((k * (k + 1) : Nat) : Int) by simp]; omega⟩))
      have HB9 := Lib.hid (show -9223372036854775808 ≤ n ∧ n ≤ 9223372036854775807 from by have := HNN.out; omega)
      refine (symXR H8.out HB9.out HX.out).mono ?_
      rintro e w9 ⟨rfl, h⟩
      have H9 := Lib.hid h
      clear h
      have L8 := Lib.hid (show MS _ _ _ ((w9.heap.size, #[.int .i64 0, .int .i64 0, .slice none 0 0]) :: _) (w9.alloc (.cells #[.int .i64 0, .int .i64 0, .slice none 0 0] 27)) from by have h := H9.out.put #[.int .i64 0, .int .i64 0, .slice none 0 0]; (try simp only [World.size_alloc] at h); exact h)
      obtain ⟨a9, b9, d9⟩ := L8.out.cells (.tail _ (.tail _ (.tail _ (.head _))))
      go_wp2_with fail
      clear a9 b9 d9
      have H10 := L8
      clear L8
      generalize (w9.alloc (.cells #[.int .i64 0, .int .i64 0, .slice none 0 0] 27)) = w10 at *
      refine (rsymXR H10.out HB9.out HX.out).mono ?_
      rintro e w11 ⟨rfl, h⟩
      have H11 := Lib.hid h
      clear h
      have L10 := Lib.hid (show MS _ _ _ ((w11.heap.size, #[.int .i64 0, .int .i64 0, .slice none 0 0]) :: _) (w11.alloc (.cells #[.int .i64 0, .int .i64 0, .slice none 0 0] 38)) from by have h := H11.out.putT #[.int .i64 0, .int .i64 0, .slice none 0 0] 38; (try simp only [World.size_alloc] at h); exact h)
      obtain ⟨a11, b11, d11⟩ := L10.out.cells (.tail _ (.tail _ (.tail _ (.head _))))
      obtain ⟨a12, b12, d12⟩ := L10.out.cells (.tail _ (.tail _ (.head _)))
      go_wp2_with fail
      clear a11 b11 d11 a12 b12 d12
      have H12 := L10
      clear L10
      generalize (w11.alloc (.cells #[.int .i64 0, .int .i64 0, .slice none 0 0] 38)) = w12 at *
      refine (lsameR H12.out (.tail _ (.head _)) (flat_len _ _ _) (.head _) (flat_len _ _ _) (v := true) (sameB_self _ _ _)).mono ?_
      rintro e w13 ⟨rfl, h⟩
      have H13 := Lib.hid h
      clear h
      obtain ⟨a13, b13, d13⟩ := H13.out.cells (.tail _ (.head _))
      obtain ⟨a14, b14, d14⟩ := H13.out.cells (.head _)
      go_wp2_with fail
      clear a13 b13 d13 a14 b14 d14
      refine (lsameR H13.out (.tail _ (.tail _ (.tail _ (.tail _ (.head _))))) rfl (.tail _ (.tail _ (.tail _ (.tail _ (.head _))))) rfl (v := true) (sameB_self _ _ _)).mono ?_
      rintro e w14 ⟨rfl, h⟩
      have H14 := Lib.hid h
      clear h
      go_wp2_with fail
      refine (one0R H14.out (.inr (by have := HNN.out; omega))).mono ?_
      rintro e w15 ⟨A15, c15, rfl, h⟩
      have H15 := Lib.hid h
      clear h
      have hfd := fun W => Mx_field0 W 0 0 A15 0 c15
      go_wp2_with fail
      refine (works_any _).mono ?_
      rintro e w16 ⟨rfl, hb⟩
      have H16 := Lib.hid (MS.keep H15.out hb)
      clear hb
      go_wp2_with fail
      go_ret
      exact ⟨rfl, H16.out.below⟩
end Go.Proofs.Ythdapoipfnnaeaa.MxW
/- The arguments of a law, opened: a slice of int. -/
namespace Go.Proofs.Ythdapoipfnnaeaa.Open
open Go.ChangeShapes Go.WideShapes Go.ChangeAt Go.RowKit Mem

open MxW (i64v)
theorem open_i64s {H : Type} {enc : TypeId × Value → H} {P : Program} {W : World} {T E : TypeId} {r : Reach} {b0 base : Nat} {sp : Nat → Bool} {held : Bool} {v : Value} {d : DataW H} {p : List MemPlace}
    (hT : P.underlying T = some (.slice E)) (hE : P.underlying E = some (.int .i64)) (hC : P.cellsOf E = 1) (hv : Value.okWide P W r b0 T v) (h : DataW.Trod enc P W base sp held T v d p) :
    ∃ (A : Option Addr) (l : List Int) (c : Nat), v = .slice A l.length c ∧ l.length ≤ c ∧ c ≤ maxLen ∧ Cells W W.heap.size A (l.map i64v) ∧ ∀ n ∈ l, -9223372036854775808 ≤ n ∧ n ≤ 9223372036854775807 := by
  obtain ⟨a, len, cap, rfl⟩ := okWide_slice hT hv
  obtain ⟨fuel, hf⟩ := h
  rcases open_ints hT hE hC hf with ⟨hcs, _⟩ | ⟨x, l, c, zs, hcs, _, hl, hm, hz, _, hcell, hwz⟩
  · simp [Value.cells] at hcs
    obtain ⟨rfl, rfl, rfl⟩ := hcs
    exact ⟨none, [], 0, rfl, Nat.le_refl _, Nat.zero_le _, Cells.nil, by simp⟩
  · simp [Value.cells] at hcs
    obtain ⟨rfl, rfl, rfl⟩ := hcs
    have hzl : len ≤ zs.length := by rw [hz]; split <;> omega
    have hin : ∀ i, i < len → zs.getD i 0 ∈ zs := by
      intro i hi
      have hz' : i < zs.length := by omega
      simp [List.getD, hz']
    refine ⟨some x, (List.range len).map fun i => zs.getD i 0, cap, by simp, by simpa using hl, hm, fun hlen => ?_, fun n hn => ?_⟩
    · simp at hlen
      obtain ⟨b, off, spot⟩ := x
      have hspot : spot = none := by
        have hc0 := hcell 0 (by omega)
        exact by simpa [Addr.add] using World.cell?_spot hc0
      subst hspot
      refine ⟨b, off, rfl, ?_, fun j v hv => ?_⟩
      · have hc0 := hcell 0 (by omega)
        rw [Addr.add_lit] at hc0
        exact World.block_lt_of_cell? _ _ hc0
      · simp only [List.getElem?_map] at hv
        by_cases hj : j < len
        · have hc0 := hcell j (by omega)
          rw [Addr.add_lit] at hc0
          rw [hc0]
          simp [hj] at hv
          rw [← hv]
          simp only [i64v, List.getD]
          try rfl
        · simp [hj] at hv
    · obtain ⟨i, hi, rfl⟩ := List.mem_map.1 hn
      have := i64_of_wf (hwz _ (hin i (List.mem_range.1 hi)))
      omega
end Go.Proofs.Ythdapoipfnnaeaa.Open
/- The law MatrixMakes: its walk. -/
namespace Go.Proofs.Ythdapoipfnnaeaa.MxW
open Go.RowKit Go.Shelf Mem Gf FdW Mx Rng
open PlW (In)
set_option linter.unusedVariables false
set_option linter.unusedSectionVars false
attribute [local go_sem] Oper.semAt_some wide_fn
set_option maxRecDepth 100000 in
set_option maxHeartbeats 4000000 in
theorem makes_out0 (w : World)  (Rm Cm : Int) (M : Option Addr) (lm : List UInt8) (nm cm : Nat) (hlm : lm.length = nm) (hM : Bytes w w.heap.size M lm) (hcm : lm.length ≤ cm) (K : Option Addr) (ks : List Int) (nk ck : Nat) (hlk : ks.length = nk) (hK : Cells w w.heap.size K (ks.map i64v)) (h64 : ∀ v ∈ ks, -9223372036854775808 ≤ v ∧ v ≤ 9223372036854775807) (X : Option Addr) (lx : List UInt8) (nx cx : Nat) (hlx : lx.length = nx) (hX : Bytes w w.heap.size X lx) (hcx : lx.length ≤ cx) (n : Int) (hs : smallB 12 Rm Cm nm = false)  :
    Calls Try.prog 6 #[.agg #[.int .i64 Rm, .int .i64 Cm, .slice M nm cm], .slice K nk ck, .slice X nx cx, .int .i64 n] w fun e w' => e = .returned (.bool true) ∧ Below w.heap.size w w' := by
  have H0 := Lib.hid (((MS.start w).nilR.arg hM hcm).arg hX hcx)
  have HLNm := Lib.hid hlm
  have HLNx := Lib.hid hlx
  have HKS := Lib.hid (And.intro hK (And.intro h64 hlk))
  have HSm := Lib.hid hs
  clear hM hcm hlm hX hcx hlx hK h64 hlk hs
  go_enter Try.func6, Try.ntmps6
  have L1 := Lib.hid (show MS _ _ _ ((w.heap.size, #[.int .i64 Rm, .int .i64 Cm, .slice M nm cm]) :: _) (w.alloc (.cells #[.int .i64 Rm, .int .i64 Cm, .slice M nm cm] 27)) from by have h := H0.out.put #[.int .i64 Rm, .int .i64 Cm, .slice M nm cm]; (try simp only [World.size_alloc] at h); exact h)
  obtain ⟨a2, b2, d2⟩ := L1.out.cells (.head _)
  go_wp2_with fail
  clear a2 b2 d2
  have H1 := L1
  clear L1
  generalize (w.alloc (.cells #[.int .i64 Rm, .int .i64 Cm, .slice M nm cm] 27)) = w1 at *
  refine (smallR H1.out 12 (by decide) (v := false) HSm.out).mono ?_
  rintro e w2 ⟨rfl, h⟩
  have H2 := Lib.hid h
  clear h
  go_wp2_with fail
  refine (works_any _).mono ?_
  rintro e w3 ⟨rfl, hb⟩
  have H3 := Lib.hid (MS.keep H2.out hb)
  clear hb
  go_wp2_with fail
  go_ret
  exact ⟨rfl, H3.out.below⟩
set_option maxRecDepth 100000 in
set_option maxHeartbeats 4000000 in
theorem makes_out1 (w : World)  (Rm Cm : Int) (M : Option Addr) (lm : List UInt8) (nm cm : Nat) (hlm : lm.length = nm) (hM : Bytes w w.heap.size M lm) (hcm : lm.length ≤ cm) (K : Option Addr) (ks : List Int) (nk ck : Nat) (hlk : ks.length = nk) (hK : Cells w w.heap.size K (ks.map i64v)) (h64 : ∀ v ∈ ks, -9223372036854775808 ≤ v ∧ v ≤ 9223372036854775807) (X : Option Addr) (lx : List UInt8) (nx cx : Nat) (hlx : lx.length = nx) (hX : Bytes w w.heap.size X lx) (hcx : lx.length ≤ cx) (n : Int) (hs : smallB 12 Rm Cm nm = true) (h1 : (20 : Int) < (nk : Int)) :
    Calls Try.prog 6 #[.agg #[.int .i64 Rm, .int .i64 Cm, .slice M nm cm], .slice K nk ck, .slice X nx cx, .int .i64 n] w fun e w' => e = .returned (.bool true) ∧ Below w.heap.size w w' := by
  have H0 := Lib.hid (((MS.start w).nilR.arg hM hcm).arg hX hcx)
  have HLNm := Lib.hid hlm
  have HLNx := Lib.hid hlx
  have HKS := Lib.hid (And.intro hK (And.intro h64 hlk))
  have HSm := Lib.hid hs
  clear hM hcm hlm hX hcx hlx hK h64 hlk hs
  go_enter Try.func6, Try.ntmps6
  have L1 := Lib.hid (show MS _ _ _ ((w.heap.size, #[.int .i64 Rm, .int .i64 Cm, .slice M nm cm]) :: _) (w.alloc (.cells #[.int .i64 Rm, .int .i64 Cm, .slice M nm cm] 27)) from by have h := H0.out.put #[.int .i64 Rm, .int .i64 Cm, .slice M nm cm]; (try simp only [World.size_alloc] at h); exact h)
  obtain ⟨a2, b2, d2⟩ := L1.out.cells (.head _)
  go_wp2_with fail
  clear a2 b2 d2
  have H1 := L1
  clear L1
  generalize (w.alloc (.cells #[.int .i64 Rm, .int .i64 Cm, .slice M nm cm] 27)) = w1 at *
  refine (smallR H1.out 12 (by decide) (v := true) HSm.out).mono ?_
  rintro e w2 ⟨rfl, h⟩
  have H2 := Lib.hid h
  clear h
  go_wp2_with fail
  refine (works_any _).mono ?_
  rintro e w3 ⟨rfl, hb⟩
  have H3 := Lib.hid (MS.keep H2.out hb)
  clear hb
  go_wp2_with fail
  go_ret
  exact ⟨rfl, H3.out.below⟩
set_option maxRecDepth 100000 in
set_option maxHeartbeats 4000000 in
theorem makes_out2 (w : World)  (Rm Cm : Int) (M : Option Addr) (lm : List UInt8) (nm cm : Nat) (hlm : lm.length = nm) (hM : Bytes w w.heap.size M lm) (hcm : lm.length ≤ cm) (K : Option Addr) (ks : List Int) (nk ck : Nat) (hlk : ks.length = nk) (hK : Cells w w.heap.size K (ks.map i64v)) (h64 : ∀ v ∈ ks, -9223372036854775808 ≤ v ∧ v ≤ 9223372036854775807) (X : Option Addr) (lx : List UInt8) (nx cx : Nat) (hlx : lx.length = nx) (hX : Bytes w w.heap.size X lx) (hcx : lx.length ≤ cx) (n : Int) (hs : smallB 12 Rm Cm nm = true) (h1 : ¬ (20 : Int) < (nk : Int)) (h2 : (20 : Int) < (nx : Int)) :
    Calls Try.prog 6 #[.agg #[.int .i64 Rm, .int .i64 Cm, .slice M nm cm], .slice K nk ck, .slice X nx cx, .int .i64 n] w fun e w' => e = .returned (.bool true) ∧ Below w.heap.size w w' := by
  have H0 := Lib.hid (((MS.start w).nilR.arg hM hcm).arg hX hcx)
  have HLNm := Lib.hid hlm
  have HLNx := Lib.hid hlx
  have HKS := Lib.hid (And.intro hK (And.intro h64 hlk))
  have HSm := Lib.hid hs
  clear hM hcm hlm hX hcx hlx hK h64 hlk hs
  go_enter Try.func6, Try.ntmps6
  have L1 := Lib.hid (show MS _ _ _ ((w.heap.size, #[.int .i64 Rm, .int .i64 Cm, .slice M nm cm]) :: _) (w.alloc (.cells #[.int .i64 Rm, .int .i64 Cm, .slice M nm cm] 27)) from by have h := H0.out.put #[.int .i64 Rm, .int .i64 Cm, .slice M nm cm]; (try simp only [World.size_alloc] at h); exact h)
  obtain ⟨a2, b2, d2⟩ := L1.out.cells (.head _)
  go_wp2_with fail
  clear a2 b2 d2
  have H1 := L1
  clear L1
  generalize (w.alloc (.cells #[.int .i64 Rm, .int .i64 Cm, .slice M nm cm] 27)) = w1 at *
  refine (smallR H1.out 12 (by decide) (v := true) HSm.out).mono ?_
  rintro e w2 ⟨rfl, h⟩
  have H2 := Lib.hid h
  clear h
  go_wp2_with fail
  refine (works_any _).mono ?_
  rintro e w3 ⟨rfl, hb⟩
  have H3 := Lib.hid (MS.keep H2.out hb)
  clear hb
  go_wp2_with fail
  go_ret
  exact ⟨rfl, H3.out.below⟩
set_option maxRecDepth 100000 in
set_option maxHeartbeats 4000000 in
theorem makes_out3 (w : World)  (Rm Cm : Int) (M : Option Addr) (lm : List UInt8) (nm cm : Nat) (hlm : lm.length = nm) (hM : Bytes w w.heap.size M lm) (hcm : lm.length ≤ cm) (K : Option Addr) (ks : List Int) (nk ck : Nat) (hlk : ks.length = nk) (hK : Cells w w.heap.size K (ks.map i64v)) (h64 : ∀ v ∈ ks, -9223372036854775808 ≤ v ∧ v ≤ 9223372036854775807) (X : Option Addr) (lx : List UInt8) (nx cx : Nat) (hlx : lx.length = nx) (hX : Bytes w w.heap.size X lx) (hcx : lx.length ≤ cx) (n : Int) (hs : smallB 12 Rm Cm nm = true) (h1 : ¬ (20 : Int) < (nk : Int)) (h2 : ¬ (20 : Int) < (nx : Int)) (h3 : (12 : Int) < n) (h4 : n < 4097) :
    Calls Try.prog 6 #[.agg #[.int .i64 Rm, .int .i64 Cm, .slice M nm cm], .slice K nk ck, .slice X nx cx, .int .i64 n] w fun e w' => e = .returned (.bool true) ∧ Below w.heap.size w w' := by
  have H0 := Lib.hid (((MS.start w).nilR.arg hM hcm).arg hX hcx)
  have HLNm := Lib.hid hlm
  have HLNx := Lib.hid hlx
  have HKS := Lib.hid (And.intro hK (And.intro h64 hlk))
  have HSm := Lib.hid hs
  clear hM hcm hlm hX hcx hlx hK h64 hlk hs
  go_enter Try.func6, Try.ntmps6
  have L1 := Lib.hid (show MS _ _ _ ((w.heap.size, #[.int .i64 Rm, .int .i64 Cm, .slice M nm cm]) :: _) (w.alloc (.cells #[.int .i64 Rm, .int .i64 Cm, .slice M nm cm] 27)) from by have h := H0.out.put #[.int .i64 Rm, .int .i64 Cm, .slice M nm cm]; (try simp only [World.size_alloc] at h); exact h)
  obtain ⟨a2, b2, d2⟩ := L1.out.cells (.head _)
  go_wp2_with fail
  clear a2 b2 d2
  have H1 := L1
  clear L1
  generalize (w.alloc (.cells #[.int .i64 Rm, .int .i64 Cm, .slice M nm cm] 27)) = w1 at *
  refine (smallR H1.out 12 (by decide) (v := true) HSm.out).mono ?_
  rintro e w2 ⟨rfl, h⟩
  have H2 := Lib.hid h
  clear h
  go_wp2_with fail
  refine (works_any _).mono ?_
  rintro e w3 ⟨rfl, hb⟩
  have H3 := Lib.hid (MS.keep H2.out hb)
  clear hb
  go_wp2_with fail
  go_ret
  exact ⟨rfl, H3.out.below⟩
set_option maxRecDepth 100000 in
set_option maxHeartbeats 4000000 in
theorem makes_out4 (w : World)  (Rm Cm : Int) (M : Option Addr) (lm : List UInt8) (nm cm : Nat) (hlm : lm.length = nm) (hM : Bytes w w.heap.size M lm) (hcm : lm.length ≤ cm) (K : Option Addr) (ks : List Int) (nk ck : Nat) (hlk : ks.length = nk) (hK : Cells w w.heap.size K (ks.map i64v)) (h64 : ∀ v ∈ ks, -9223372036854775808 ≤ v ∧ v ≤ 9223372036854775807) (X : Option Addr) (lx : List UInt8) (nx cx : Nat) (hlx : lx.length = nx) (hX : Bytes w w.heap.size X lx) (hcx : lx.length ≤ cx) (n : Int) (hs : smallB 12 Rm Cm nm = true) (h1 : ¬ (20 : Int) < (nk : Int)) (h2 : ¬ (20 : Int) < (nx : Int)) (h3 : (12 : Int) < n) (h4 : ¬ n < 4097) (h5 : (65536 : Int) < n) :
    Calls Try.prog 6 #[.agg #[.int .i64 Rm, .int .i64 Cm, .slice M nm cm], .slice K nk ck, .slice X nx cx, .int .i64 n] w fun e w' => e = .returned (.bool true) ∧ Below w.heap.size w w' := by
  have H0 := Lib.hid (((MS.start w).nilR.arg hM hcm).arg hX hcx)
  have HLNm := Lib.hid hlm
  have HLNx := Lib.hid hlx
  have HKS := Lib.hid (And.intro hK (And.intro h64 hlk))
  have HSm := Lib.hid hs
  clear hM hcm hlm hX hcx hlx hK h64 hlk hs
  go_enter Try.func6, Try.ntmps6
  have L1 := Lib.hid (show MS _ _ _ ((w.heap.size, #[.int .i64 Rm, .int .i64 Cm, .slice M nm cm]) :: _) (w.alloc (.cells #[.int .i64 Rm, .int .i64 Cm, .slice M nm cm] 27)) from by have h := H0.out.put #[.int .i64 Rm, .int .i64 Cm, .slice M nm cm]; (try simp only [World.size_alloc] at h); exact h)
  obtain ⟨a2, b2, d2⟩ := L1.out.cells (.head _)
  go_wp2_with fail
  clear a2 b2 d2
  have H1 := L1
  clear L1
  generalize (w.alloc (.cells #[.int .i64 Rm, .int .i64 Cm, .slice M nm cm] 27)) = w1 at *
  refine (smallR H1.out 12 (by decide) (v := true) HSm.out).mono ?_
  rintro e w2 ⟨rfl, h⟩
  have H2 := Lib.hid h
  clear h
  go_wp2_with fail
  refine (works_any _).mono ?_
  rintro e w3 ⟨rfl, hb⟩
  have H3 := Lib.hid (MS.keep H2.out hb)
  clear hb
  go_wp2_with fail
  go_ret
  exact ⟨rfl, H3.out.below⟩
theorem makes_law (w : World) (Rm Cm : Int) (M : Option Addr) (lm : List UInt8) (cm : Nat) (gm : Open.MtOk w Rm Cm M lm cm) (K : Option Addr) (ks : List Int) (ck : Nat) (_ : ks.length ≤ ck) (_ : ck ≤ maxLen) (hK : Cells w w.heap.size K (ks.map i64v)) (h64 : ∀ v ∈ ks, -9223372036854775808 ≤ v ∧ v ≤ 9223372036854775807) (X : Option Addr) (lx : List UInt8) (cx : Nat) (hlx : lx.length ≤ cx) (_ : cx ≤ maxLen) (hX : Bytes w w.heap.size X lx) (n : Int) (hn : -9223372036854775808 ≤ n ∧ n ≤ 9223372036854775807) :
    Calls Try.prog 6 #[.agg #[.int .i64 Rm, .int .i64 Cm, .slice M lm.length cm], .slice K ks.length ck, .slice X lx.length cx, .int .i64 n] w fun e w' => e = .returned (.bool true) ∧ Below w.heap.size w w' := by
  cases hs : smallB 12 Rm Cm lm.length with
  | false => exact makes_out0 w Rm Cm M lm _ cm rfl gm.row gm.le K ks _ ck rfl hK h64 X lx _ cx rfl hX hlx n hs
  | true =>
  by_cases h1 : (20 : Int) < (ks.length : Int)
  · exact makes_out1 w Rm Cm M lm _ cm rfl gm.row gm.le K ks _ ck rfl hK h64 X lx _ cx rfl hX hlx n hs h1
  by_cases h2 : (20 : Int) < (lx.length : Int)
  · exact makes_out2 w Rm Cm M lm _ cm rfl gm.row gm.le K ks _ ck rfl hK h64 X lx _ cx rfl hX hlx n hs h1 h2
  by_cases h3 : (12 : Int) < n
  · by_cases h4 : n < 4097
    · exact makes_out3 w Rm Cm M lm _ cm rfl gm.row gm.le K ks _ ck rfl hK h64 X lx _ cx rfl hX hlx n hs h1 h2 h3 h4
    · by_cases h5 : (65536 : Int) < n
      · exact makes_out4 w Rm Cm M lm _ cm rfl gm.row gm.le K ks _ ck rfl hK h64 X lx _ cx rfl hX hlx n hs h1 h2 h3 h4 h5
      · exact makes_big w Rm Cm M lm _ cm rfl gm.row gm.le K ks _ ck rfl hK h64 X lx _ cx rfl hX hlx n gm.max hs h1 h2 ⟨by omega, by omega⟩
  · by_cases h4 : n < 0
    · exact makes_neg w Rm Cm M lm _ cm rfl gm.row gm.le K ks _ ck rfl hK h64 X lx _ cx rfl hX hlx n gm.max hs h1 h2 ⟨hn.1, h4⟩
    · obtain ⟨k, rfl⟩ : ∃ k : Nat, n = (k : Int) := ⟨n.toNat, by omega⟩
      exact makes_small w Rm Cm M lm _ cm rfl gm.row gm.le K ks _ ck rfl hK h64 X lx _ cx rfl hX hlx k gm.max hs h1 h2 (by omega)
end Go.Proofs.Ythdapoipfnnaeaa.MxW
/- The law MatrixMakes of chapter 05 holds for every input. It has no conditions. -/
namespace Go.Proofs.Ythdapoipfnnaeaa.lawMatrixMakes
open Go.ChangeShapes Go.WideShapes Go.ChangeAt Go.RowKit
open Go.ChangeMaps (open_string shut_string)

theorem own : ownKnob Try.prog.godebug = none := by kernel_rfl
theorem laidOut : laidOutB Try.prog = true := by kernel_rfl

set_option maxRecDepth 100000 in
theorem lifted (os : Os) (started : os.Started) (H : Type) (enc : TypeId × Value → H) :
    ReturnsInHanded {} Try.checked os 6 .any (Rows.matrixMakesSpec.pre6 enc Try.prog Try.f6 Rows.matrixMakesRow.domain false) (Rows.matrixMakesSpec.post enc Try.prog Try.f6 false true false false) := by
  refine returnsInHanded_of_change (C := Try.checked) own started (by kernel_rfl) Try.func6
    (ChangeSpec.witness6 (enc := enc) (C := Try.checked) false ⟨#[], #[.agg #[.int .i64 0, .int .i64 0, .slice none 0 0], .slice none 0 0, .slice none 0 0, .int .i64 0], []⟩ 8 (by kernel_rfl) (by kernel_rfl) (by kernel_rfl) (by kernel_rfl)) ?_
  intro W base args ds gs before hval0 hW hcnd _
  have hval : ∀ (j : Nat) t v, Try.f6.params[j]? = some t → args[j]? = some v → Value.okWide Try.prog W .any base t v := hval0
  have hW' := hW
  obtain ⟨p, q, hA0, hV, rfl, hfz, hnd⟩ := hW
  have hA : DataW.TrodAll enc Try.prog W 0 (fun _ => true) true Try.f6.params.toList args.toList ds p := hA0
  rw [Try.params6] at hA hval
  obtain ⟨v0, vs0, d0, ds0, p0, q0, hargs, rfl, rfl, h0, r0⟩ := trodAll_cons hA
  obtain ⟨v1, vs1, d1, ds1, p1, q1, rfl, rfl, rfl, h1, r1⟩ := trodAll_cons r0
  obtain ⟨v2, vs2, d2, ds2, p2, q2, rfl, rfl, rfl, h2, r2⟩ := trodAll_cons r1
  obtain ⟨v3, vs3, d3, ds3, p3, q3, rfl, rfl, rfl, h3, r3⟩ := trodAll_cons r2
  obtain ⟨rfl, rfl, rfl⟩ := trodAll_nil r3
  obtain rfl : args = #[v0, v1, v2, v3] := by cases args; simp_all
  obtain ⟨rfl, rfl⟩ := trodVars_none hV
  have k0 := h0
  have lt0 : ∀ x ∈ p0, x.block < W.heap.size := by obtain ⟨m, hm⟩ := k0; exact DataW.trod_lt m _ _ _ hm
  have k1 := h1
  have lt1 : ∀ x ∈ p1, x.block < W.heap.size := by obtain ⟨m, hm⟩ := k1; exact DataW.trod_lt m _ _ _ hm
  have k2 := h2
  have lt2 : ∀ x ∈ p2, x.block < W.heap.size := by obtain ⟨m, hm⟩ := k2; exact DataW.trod_lt m _ _ _ hm
  have k3 := h3
  have lt3 : ∀ x ∈ p3, x.block < W.heap.size := by obtain ⟨m, hm⟩ := k3; exact DataW.trod_lt m _ _ _ hm
  obtain ⟨R0, C0, A0, l0, c0, rfl, hg0⟩ := Open.open_matrix Try.underlying27 (by kernel_rfl) (by kernel_rfl) Try.underlying3 Try.underlying3 Try.underlying22 Try.underlying5 (by kernel_rfl) (hval 0 27 v0 rfl rfl) h0
  obtain ⟨A1, l1, c1, rfl, hle1, hmx1, hb1, hw1⟩ := Open.open_i64s Try.underlying48 Try.underlying3 (by kernel_rfl) (hval 1 48 v1 rfl rfl) h1
  obtain ⟨A2, l2, c2, rfl, hle2, hmx2, hb2⟩ := Open.open_bytes Try.underlying22 Try.underlying5 (by kernel_rfl) (hval 2 22 v2 rfl rfl) h2
  obtain ⟨a3, rfl, _, _, w3⟩ := open_int Try.underlying3 (hval 3 3 v3 rfl rfl) h3
  clear hA0 hval0
  refine (MxW.makes_law W R0 C0 A0 l0 c0 hg0 A1 l1 c1 hle1 hmx1 hb1 hw1 A2 l2 c2 hle2 hmx2 hb2 a3 (Open.i64_of_wf w3)).mono fun e W' ⟨he, bel⟩ => ?_
  subst he
  exact ⟨_, rfl, _, _, _, [], _, [], hW', trodAll_mk1 (shut_bool Try.underlying4 _), (trodAll_cons_mk (Below.trod laidOut (by kernel_rfl) (of_decide_eq_true (by kernel_rfl)) k0 bel lt0) (trodAll_cons_mk (Below.trod laidOut (by kernel_rfl) (of_decide_eq_true (by kernel_rfl)) k1 bel lt1) (trodAll_cons_mk (Below.trod laidOut (by kernel_rfl) (of_decide_eq_true (by kernel_rfl)) k2 bel lt2) (trodAll_cons_mk (Below.trod laidOut (by kernel_rfl) (of_decide_eq_true (by kernel_rfl)) k3 bel lt3) trodAll_mk0)))), rfl, bel.frame _, fun h => by cases h⟩

theorem over : Rows.matrixMakesRow.holds Try.pinned (OpenSpec.ofChange Rows.matrixMakesSpec) :=
  OpenClaim.holds_of_wide 6 Try.f6 rfl rfl rfl rfl rfl rfl rfl ⟨rfl, rfl, rfl, rfl, rfl⟩ rfl rfl rfl rfl rfl (by kernel_rfl) Try.func6 (by kernel_rfl)
    (of_decide_eq_true (by kernel_rfl)) (by unfold Func.isWrapper; rw [if_neg (by decide +kernel)]; exact ⟨rfl, rfl⟩)
    (fun os started H enc _ => lifted os started H enc)

theorem proved : Rows.MatrixMakesSaid := over
#print axioms proved
end Go.Proofs.Ythdapoipfnnaeaa.lawMatrixMakes
