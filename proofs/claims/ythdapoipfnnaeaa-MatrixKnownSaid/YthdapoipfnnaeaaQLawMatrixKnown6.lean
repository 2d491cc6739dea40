/- Texts of a claim, one behind another. -/
import Derived.Test.YthdapoipfnnaeaaSq
import Derived.Test.YthdapoipfnnaeaaSq3
import Derived.Test.YthdapoipfnnaeaaQLawMatrixKnown5
import Derived.Test.YthdapoipfnnaeaaTwo
import Derived.Test.YthdapoipfnnaeaaOpenMx
import Derived.Deep.DeepCutAuto
import Derived.Test.YthdapoipfnnaeaaOpen
set_option linter.unusedSimpArgs false
set_option linter.unusedVariables false
/- The law MatrixProducts: its walk. -/
namespace Go.Proofs.Ythdapoipfnnaeaa.MxW
open Go.RowKit Go.Shelf Mem Gf FdW Mx Rng
open PlW (In)
set_option linter.unusedVariables false
set_option linter.unusedSectionVars false
attribute [local go_sem] Oper.semAt_some wide_fn
open Mx (mulM_assoc id_mulM mulM_turn)
theorem small8 {r s : Nat} (hr : r ≤ 8) (hs : s ≤ 8) : smallB 8 r s (r * s) = true := by
 have h : r * s ≤ 8 * 8 := Nat.mul_le_mul hr hs
 unfold smallB
 rw [decide_eq_true_iff]
 exact ⟨by omega, by omega, by omega⟩
set_option maxRecDepth 100000 in
set_option maxHeartbeats 40000000 in
theorem products_out0 (w : World)  (Ra Ca : Int) (A : Option Addr) (la : List UInt8) (na ca : Nat) (hla : la.length = na) (hA : Bytes w w.heap.size A la) (hca : la.length ≤ ca) (Rb Cb : Int) (B : Option Addr) (lb : List UInt8) (nb cb : Nat) (hlb : lb.length = nb) (hB : Bytes w w.heap.size B lb) (hcb : lb.length ≤ cb) (Rc Cc : Int) (C : Option Addr) (lc : List UInt8) (nc cc : Nat) (hlc : lc.length = nc) (hC : Bytes w w.heap.size C lc) (hcc : lc.length ≤ cc) (hsa : smallB 8 Ra Ca na = false) :
    Calls Try.prog 7 #[.agg #[.int .i64 Ra, .int .i64 Ca, .slice A na ca], .agg #[.int .i64 Rb, .int .i64 Cb, .slice B nb cb], .agg #[.int .i64 Rc, .int .i64 Cc, .slice C nc cc]] w fun e w' => e = .returned (.bool true) ∧ Below w.heap.size w w' := by
 have H0 := Lib.hid ((((MS.start w).arg hA hca).arg hB hcb).arg hC hcc)
 have HLNa := Lib.hid hla
 have HLNb := Lib.hid hlb
 have HLNc := Lib.hid hlc
 have HSa := Lib.hid hsa
 clear hA hca hla hB hcb hlb hC hcc hlc hsa
 go_enter Try.func7, Try.ntmps7
 have L1 := Lib.hid (H0.out.put #[.int .i64 Ra, .int .i64 Ca, .slice A na ca])
 have L2 := Lib.hid (show MS _ _ _ ((w.heap.size + 1, #[.int .i64 Rb, .int .i64 Cb, .slice B nb cb]) :: _) ((w.alloc (.cells #[.int .i64 Ra, .int .i64 Ca, .slice A na ca] 27)).alloc (.cells #[.int .i64 Rb, .int .i64 Cb, .slice B nb cb] 27)) from by have h := L1.out.put #[.int .i64 Rb, .int .i64 Cb, .slice B nb cb]; (try simp only [World.size_alloc] at h); exact h)
 have L3 := Lib.hid (show MS _ _ _ ((w.heap.size + 1 + 1, #[.int .i64 Rc, .int .i64 Cc, .slice C nc cc]) :: _) (((w.alloc (.cells #[.int .i64 Ra, .int .i64 Ca, .slice A na ca] 27)).alloc (.cells #[.int .i64 Rb, .int .i64 Cb, .slice B nb cb] 27)).alloc (.cells #[.int .i64 Rc, .int .i64 Cc, .slice C nc cc] 27)) from by have h := L2.out.put #[.int .i64 Rc, .int .i64 Cc, .slice C nc cc]; (try simp only [World.size_alloc] at h); exact h)
 obtain ⟨a4, b4, d4⟩ := L3.out.cells mm2
 go_wp2_with fail
 clear a4 b4 d4
 have H1 := L3
 clear L1 L2 L3
 generalize (((w.alloc (.cells #[.int .i64 Ra, .int .i64 Ca, .slice A na ca] 27)).alloc (.cells #[.int .i64 Rb, .int .i64 Cb, .slice B nb cb] 27)).alloc (.cells #[.int .i64 Rc, .int .i64 Cc, .slice C nc cc] 27)) = w1 at *
 refine (smallR H1.out 8 (by decide) (v := false) HSa.out).mono ?_
 rintro e w2 ⟨rfl, h⟩
 have H2 := Lib.hid h
 clear h
 go_wp2_with fail
 refine (works_any _).mono ?_
 rintro e w3 ⟨rfl, hb⟩
 have H3 := Lib.hid (MS.keep H2.out hb)
 clear hb
 go_wp2_with fail
 go_ret
 exact ⟨rfl, H3.out.below⟩
set_option maxRecDepth 100000 in
set_option maxHeartbeats 40000000 in
theorem products_out1 (w : World)  (Ra Ca : Int) (A : Option Addr) (la : List UInt8) (na ca : Nat) (hla : la.length = na) (hA : Bytes w w.heap.size A la) (hca : la.length ≤ ca) (Rb Cb : Int) (B : Option Addr) (lb : List UInt8) (nb cb : Nat) (hlb : lb.length = nb) (hB : Bytes w w.heap.size B lb) (hcb : lb.length ≤ cb) (Rc Cc : Int) (C : Option Addr) (lc : List UInt8) (nc cc : Nat) (hlc : lc.length = nc) (hC : Bytes w w.heap.size C lc) (hcc : lc.length ≤ cc) (hsa : smallB 8 Ra Ca na = true) (hsb : smallB 8 Rb Cb nb = false) :
    Calls Try.prog 7 #[.agg #[.int .i64 Ra, .int .i64 Ca, .slice A na ca], .agg #[.int .i64 Rb, .int .i64 Cb, .slice B nb cb], .agg #[.int .i64 Rc, .int .i64 Cc, .slice C nc cc]] w fun e w' => e = .returned (.bool true) ∧ Below w.heap.size w w' := by
 have H0 := Lib.hid ((((MS.start w).arg hA hca).arg hB hcb).arg hC hcc)
 have HLNa := Lib.hid hla
 have HLNb := Lib.hid hlb
 have HLNc := Lib.hid hlc
 have HSa := Lib.hid hsa
 have HSb := Lib.hid hsb
 clear hA hca hla hB hcb hlb hC hcc hlc hsa hsb
 go_enter Try.func7, Try.ntmps7
 have L1 := Lib.hid (H0.out.put #[.int .i64 Ra, .int .i64 Ca, .slice A na ca])
 have L2 := Lib.hid (show MS _ _ _ ((w.heap.size + 1, #[.int .i64 Rb, .int .i64 Cb, .slice B nb cb]) :: _) ((w.alloc (.cells #[.int .i64 Ra, .int .i64 Ca, .slice A na ca] 27)).alloc (.cells #[.int .i64 Rb, .int .i64 Cb, .slice B nb cb] 27)) from by have h := L1.out.put #[.int .i64 Rb, .int .i64 Cb, .slice B nb cb]; (try simp only [World.size_alloc] at h); exact h)
 have L3 := Lib.hid (show MS _ _ _ ((w.heap.size + 1 + 1, #[.int .i64 Rc, .int .i64 Cc, .slice C nc cc]) :: _) (((w.alloc (.cells #[.int .i64 Ra, .int .i64 Ca, .slice A na ca] 27)).alloc (.cells #[.int .i64 Rb, .int .i64 Cb, .slice B nb cb] 27)).alloc (.cells #[.int .i64 Rc, .int .i64 Cc, .slice C nc cc] 27)) from by have h := L2.out.put #[.int .i64 Rc, .int .i64 Cc, .slice C nc cc]; (try simp only [World.size_alloc] at h); exact h)
 obtain ⟨a4, b4, d4⟩ := L3.out.cells mm2
 go_wp2_with fail
 clear a4 b4 d4
 have H1 := L3
 clear L1 L2 L3
 generalize (((w.alloc (.cells #[.int .i64 Ra, .int .i64 Ca, .slice A na ca] 27)).alloc (.cells #[.int .i64 Rb, .int .i64 Cb, .slice B nb cb] 27)).alloc (.cells #[.int .i64 Rc, .int .i64 Cc, .slice C nc cc] 27)) = w1 at *
 refine (smallR H1.out 8 (by decide) (v := true) HSa.out).mono ?_
 rintro e w2 ⟨rfl, h⟩
 have H2 := Lib.hid h
 clear h
 obtain ⟨a5, b5, d5⟩ := H2.out.cells mm1
 go_wp2_with fail
 clear a5 b5 d5
 refine (smallR H2.out 8 (by decide) (v := false) HSb.out).mono ?_
 rintro e w3 ⟨rfl, h⟩
 have H3 := Lib.hid h
 clear h
 go_wp2_with fail
 refine (works_any _).mono ?_
 rintro e w4 ⟨rfl, hb⟩
 have H4 := Lib.hid (MS.keep H3.out hb)
 clear hb
 go_wp2_with fail
 go_ret
 exact ⟨rfl, H4.out.below⟩
set_option maxRecDepth 100000 in
set_option maxHeartbeats 40000000 in
theorem products_out2 (w : World)  (Ra Ca : Int) (A : Option Addr) (la : List UInt8) (na ca : Nat) (hla : la.length = na) (hA : Bytes w w.heap.size A la) (hca : la.length ≤ ca) (Rb Cb : Int) (B : Option Addr) (lb : List UInt8) (nb cb : Nat) (hlb : lb.length = nb) (hB : Bytes w w.heap.size B lb) (hcb : lb.length ≤ cb) (Rc Cc : Int) (C : Option Addr) (lc : List UInt8) (nc cc : Nat) (hlc : lc.length = nc) (hC : Bytes w w.heap.size C lc) (hcc : lc.length ≤ cc) (hsa : smallB 8 Ra Ca na = true) (hsb : smallB 8 Rb Cb nb = true) (hsc : smallB 8 Rc Cc nc = false) :
    Calls Try.prog 7 #[.agg #[.int .i64 Ra, .int .i64 Ca, .slice A na ca], .agg #[.int .i64 Rb, .int .i64 Cb, .slice B nb cb], .agg #[.int .i64 Rc, .int .i64 Cc, .slice C nc cc]] w fun e w' => e = .returned (.bool true) ∧ Below w.heap.size w w' := by
 have H0 := Lib.hid ((((MS.start w).arg hA hca).arg hB hcb).arg hC hcc)
 have HLNa := Lib.hid hla
 have HLNb := Lib.hid hlb
 have HLNc := Lib.hid hlc
 have HSa := Lib.hid hsa
 have HSb := Lib.hid hsb
 have HSc := Lib.hid hsc
 clear hA hca hla hB hcb hlb hC hcc hlc hsa hsb hsc
 go_enter Try.func7, Try.ntmps7
 have L1 := Lib.hid (H0.out.put #[.int .i64 Ra, .int .i64 Ca, .slice A na ca])
 have L2 := Lib.hid (show MS _ _ _ ((w.heap.size + 1, #[.int .i64 Rb, .int .i64 Cb, .slice B nb cb]) :: _) ((w.alloc (.cells #[.int .i64 Ra, .int .i64 Ca, .slice A na ca] 27)).alloc (.cells #[.int .i64 Rb, .int .i64 Cb, .slice B nb cb] 27)) from by have h := L1.out.put #[.int .i64 Rb, .int .i64 Cb, .slice B nb cb]; (try simp only [World.size_alloc] at h); exact h)
 have L3 := Lib.hid (show MS _ _ _ ((w.heap.size + 1 + 1, #[.int .i64 Rc, .int .i64 Cc, .slice C nc cc]) :: _) (((w.alloc (.cells #[.int .i64 Ra, .int .i64 Ca, .slice A na ca] 27)).alloc (.cells #[.int .i64 Rb, .int .i64 Cb, .slice B nb cb] 27)).alloc (.cells #[.int .i64 Rc, .int .i64 Cc, .slice C nc cc] 27)) from by have h := L2.out.put #[.int .i64 Rc, .int .i64 Cc, .slice C nc cc]; (try simp only [World.size_alloc] at h); exact h)
 obtain ⟨a4, b4, d4⟩ := L3.out.cells mm2
 go_wp2_with fail
 clear a4 b4 d4
 have H1 := L3
 clear L1 L2 L3
 generalize (((w.alloc (.cells #[.int .i64 Ra, .int .i64 Ca, .slice A na ca] 27)).alloc (.cells #[.int .i64 Rb, .int .i64 Cb, .slice B nb cb] 27)).alloc (.cells #[.int .i64 Rc, .int .i64 Cc, .slice C nc cc] 27)) = w1 at *
 refine (smallR H1.out 8 (by decide) (v := true) HSa.out).mono ?_
 rintro e w2 ⟨rfl, h⟩
 have H2 := Lib.hid h
 clear h
 obtain ⟨a5, b5, d5⟩ := H2.out.cells mm1
 go_wp2_with fail
 clear a5 b5 d5
 refine (smallR H2.out 8 (by decide) (v := true) HSb.out).mono ?_
 rintro e w3 ⟨rfl, h⟩
 have H3 := Lib.hid h
 clear h
 obtain ⟨a6, b6, d6⟩ := H3.out.cells mm0
 go_wp2_with fail
 clear a6 b6 d6
 refine (smallR H3.out 8 (by decide) (v := false) HSc.out).mono ?_
 rintro e w4 ⟨rfl, h⟩
 have H4 := Lib.hid h
 clear h
 go_wp2_with fail
 refine (works_any _).mono ?_
 rintro e w5 ⟨rfl, hb⟩
 have H5 := Lib.hid (MS.keep H4.out hb)
 clear hb
 go_wp2_with fail
 go_ret
 exact ⟨rfl, H5.out.below⟩
set_option maxRecDepth 100000 in
set_option maxHeartbeats 40000000 in
theorem products_bad0 (w : World)  (Ra Ca : Int) (A : Option Addr) (la : List UInt8) (na ca : Nat) (hla : la.length = na) (hA : Bytes w w.heap.size A la) (hca : la.length ≤ ca) (Rb Cb : Int) (B : Option Addr) (lb : List UInt8) (nb cb : Nat) (hlb : lb.length = nb) (hB : Bytes w w.heap.size B lb) (hcb : lb.length ≤ cb) (Rc Cc : Int) (C : Option Addr) (lc : List UInt8) (nc cc : Nat) (hlc : lc.length = nc) (hC : Bytes w w.heap.size C lc) (hcc : lc.length ≤ cc) (hsa : smallB 8 Ra Ca na = true) (hsb : smallB 8 Rb Cb nb = true) (hsc : smallB 8 Rc Cc nc = true) (hm0 : mulB Ra Ca na Rb Cb nb = false) (hm1 : mulB Rb Cb nb Rc Cc nc = false)  :
    Calls Try.prog 7 #[.agg #[.int .i64 Ra, .int .i64 Ca, .slice A na ca], .agg #[.int .i64 Rb, .int .i64 Cb, .slice B nb cb], .agg #[.int .i64 Rc, .int .i64 Cc, .slice C nc cc]] w fun e w' => e = .returned (.bool true) ∧ Below w.heap.size w w' := by
 have H0 := Lib.hid ((((MS.start w).arg hA hca).arg hB hcb).arg hC hcc)
 have HLNa := Lib.hid hla
 have HLNb := Lib.hid hlb
 have HLNc := Lib.hid hlc
 have HSa := Lib.hid hsa
 have HSb := Lib.hid hsb
 have HSc := Lib.hid hsc
 have HM0 := Lib.hid hm0
 have HM1 := Lib.hid hm1
 clear hA hca hla hB hcb hlb hC hcc hlc hsa hsb hsc hm0 hm1
 go_enter Try.func7, Try.ntmps7
 have L1 := Lib.hid (H0.out.put #[.int .i64 Ra, .int .i64 Ca, .slice A na ca])
 have L2 := Lib.hid (show MS _ _ _ ((w.heap.size + 1, #[.int .i64 Rb, .int .i64 Cb, .slice B nb cb]) :: _) ((w.alloc (.cells #[.int .i64 Ra, .int .i64 Ca, .slice A na ca] 27)).alloc (.cells #[.int .i64 Rb, .int .i64 Cb, .slice B nb cb] 27)) from by have h := L1.out.put #[.int .i64 Rb, .int .i64 Cb, .slice B nb cb]; (try simp only [World.size_alloc] at h); exact h)
 have L3 := Lib.hid (show MS _ _ _ ((w.heap.size + 1 + 1, #[.int .i64 Rc, .int .i64 Cc, .slice C nc cc]) :: _) (((w.alloc (.cells #[.int .i64 Ra, .int .i64 Ca, .slice A na ca] 27)).alloc (.cells #[.int .i64 Rb, .int .i64 Cb, .slice B nb cb] 27)).alloc (.cells #[.int .i64 Rc, .int .i64 Cc, .slice C nc cc] 27)) from by have h := L2.out.put #[.int .i64 Rc, .int .i64 Cc, .slice C nc cc]; (try simp only [World.size_alloc] at h); exact h)
 obtain ⟨a4, b4, d4⟩ := L3.out.cells mm2
 go_wp2_with fail
 clear a4 b4 d4
 have H1 := L3
 clear L1 L2 L3
 generalize (((w.alloc (.cells #[.int .i64 Ra, .int .i64 Ca, .slice A na ca] 27)).alloc (.cells #[.int .i64 Rb, .int .i64 Cb, .slice B nb cb] 27)).alloc (.cells #[.int .i64 Rc, .int .i64 Cc, .slice C nc cc] 27)) = w1 at *
 refine (smallR H1.out 8 (by decide) (v := true) HSa.out).mono ?_
 rintro e w2 ⟨rfl, h⟩
 have H2 := Lib.hid h
 clear h
 obtain ⟨a5, b5, d5⟩ := H2.out.cells mm1
 go_wp2_with fail
 clear a5 b5 d5
 refine (smallR H2.out 8 (by decide) (v := true) HSb.out).mono ?_
 rintro e w3 ⟨rfl, h⟩
 have H3 := Lib.hid h
 clear h
 obtain ⟨a6, b6, d6⟩ := H3.out.cells mm0
 go_wp2_with fail
 clear a6 b6 d6
 refine (smallR H3.out 8 (by decide) (v := true) HSc.out).mono ?_
 rintro e w4 ⟨rfl, h⟩
 have H4 := Lib.hid h
 clear h
 go_wp2_with fail
 refine (newR H4.out).mono ?_
 rintro e w5 ⟨rfl, h⟩
 have H5 := Lib.hid h
 clear h
 obtain ⟨a7, b7, d7⟩ := H5.out.cells mm2
 obtain ⟨a8, b8, d8⟩ := H5.out.cells mm1
 go_wp2_with fail
 clear a7 b7 d7 a8 b8 d8
 refine (mul0R H5.out HM0.out).mono ?_
 rintro e w6 ⟨rfl, h⟩
 have H6 := Lib.hid h
 clear h
 have L9 := Lib.hid (H6.out.put #[.int .i64 0, .int .i64 0, .slice none 0 0])
 obtain ⟨a10, b10, d10⟩ := L9.out.cells mm2
 obtain ⟨a11, b11, d11⟩ := L9.out.cells mm1
 go_wp2_with fail
 clear a10 b10 d10 a11 b11 d11
 have H7 := L9
 clear L9
 generalize (w6.alloc (.cells #[.int .i64 0, .int .i64 0, .slice none 0 0] 27)) = w7 at *
 refine (mul0R H7.out HM1.out).mono ?_
 rintro e w8 ⟨rfl, h⟩
 have H8 := Lib.hid h
 clear h
 have L12 := Lib.hid (H8.out.put #[.int .i64 0, .int .i64 0, .slice none 0 0])
 go_wp2_with fail
 have H9 := L12
 clear L12
 generalize (w8.alloc (.cells #[.int .i64 0, .int .i64 0, .slice none 0 0] 27)) = w9 at *
 refine (works_any _).mono ?_
 rintro e w10 ⟨rfl, hb⟩
 have H10 := Lib.hid (MS.keep H9.out hb)
 clear hb
 go_wp2_with fail
 go_ret
 exact ⟨rfl, H10.out.below⟩
set_option maxRecDepth 100000 in
set_option maxHeartbeats 40000000 in
theorem products_bad1 (w : World) (s t u : Nat) (hd : s ≤ 8 ∧ t ≤ 8 ∧ u ≤ 8) (Ra Ca : Int) (A : Option Addr) (la : List UInt8) (na ca : Nat) (hla : la.length = na) (hA : Bytes w w.heap.size A la) (hca : la.length ≤ ca) (B : Option Addr) (cb : Nat) (mb : M) (hB : Bytes w w.heap.size B (flat s t mb)) (hcb : (flat s t mb).length ≤ cb) (C : Option Addr) (cc : Nat) (mc : M) (hC : Bytes w w.heap.size C (flat t u mc)) (hcc : (flat t u mc).length ≤ cc) (hsa : smallB 8 Ra Ca na = true) (hm0 : mulB Ra Ca na (s : Int) (t : Int) (s * t) = false)  :
    Calls Try.prog 7 #[.agg #[.int .i64 Ra, .int .i64 Ca, .slice A na ca], .agg #[.int .i64 (s : Int), .int .i64 (t : Int), .slice B (s * t) cb], .agg #[.int .i64 (t : Int), .int .i64 (u : Int), .slice C (t * u) cc]] w fun e w' => e = .returned (.bool true) ∧ Below w.heap.size w w' := by
 have H0 := Lib.hid ((((MS.start w).arg hA hca).arg hB hcb).arg hC hcc)
 have HLNa := Lib.hid hla
 have HM0 := Lib.hid hm0
 have HSc := Lib.hid (small8 (r := t) (s := u) (by omega) (by omega))
 have HSb := Lib.hid (small8 (r := s) (s := t) (by omega) (by omega))
 have HSa := Lib.hid hsa
 have HD := Lib.hid hd
 clear hA hca hla hB hcb hC hcc hd hsa hm0
 go_enter Try.func7, Try.ntmps7
 have L1 := Lib.hid (H0.out.put #[.int .i64 Ra, .int .i64 Ca, .slice A na ca])
 have L2 := Lib.hid (show MS _ _ _ ((w.heap.size + 1, #[.int .i64 (s : Int), .int .i64 (t : Int), .slice B (s * t) cb]) :: _) ((w.alloc (.cells #[.int .i64 Ra, .int .i64 Ca, .slice A na ca] 27)).alloc (.cells #[.int .i64 (s : Int), .int .i64 (t : Int), .slice B (s * t) cb] 27)) from by have h := L1.out.put #[.int .i64 (s : Int), .int .i64 (t : Int), .slice B (s * t) cb]; (try simp only [World.size_alloc] at h); exact h)
 have L3 := Lib.hid (show MS _ _ _ ((w.heap.size + 1 + 1, #[.int .i64 (t : Int), .int .i64 (u : Int), .slice C (t * u) cc]) :: _) (((w.alloc (.cells #[.int .i64 Ra, .int .i64 Ca, .slice A na ca] 27)).alloc (.cells #[.int .i64 (s : Int), .int .i64 (t : Int), .slice B (s * t) cb] 27)).alloc (.cells #[.int .i64 (t : Int), .int .i64 (u : Int), .slice C (t * u) cc] 27)) from by have h := L2.out.put #[.int .i64 (t : Int), .int .i64 (u : Int), .slice C (t * u) cc]; (try simp only [World.size_alloc] at h); exact h)
 obtain ⟨a4, b4, d4⟩ := L3.out.cells mm2
 go_wp2_with fail
 clear a4 b4 d4
 have H1 := L3
 clear L1 L2 L3
 generalize (((w.alloc (.cells #[.int .i64 Ra, .int .i64 Ca, .slice A na ca] 27)).alloc (.cells #[.int .i64 (s : Int), .int .i64 (t : Int), .slice B (s * t) cb] 27)).alloc (.cells #[.int .i64 (t : Int), .int .i64 (u : Int), .slice C (t * u) cc] 27)) = w1 at *
 refine (smallR H1.out 8 (by decide) (v := true) HSa.out).mono ?_
 rintro e w2 ⟨rfl, h⟩
 have H2 := Lib.hid h
 clear h
 obtain ⟨a5, b5, d5⟩ := H2.out.cells mm1
 go_wp2_with fail
 clear a5 b5 d5
 refine (smallR H2.out 8 (by decide) (v := true) HSb.out).mono ?_
 rintro e w3 ⟨rfl, h⟩
 have H3 := Lib.hid h
 clear h
 obtain ⟨a6, b6, d6⟩ := H3.out.cells mm0
 go_wp2_with fail
 clear a6 b6 d6
 refine (smallR H3.out 8 (by decide) (v := true) HSc.out).mono ?_
 rintro e w4 ⟨rfl, h⟩
 have H4 := Lib.hid h
 clear h
 go_wp2_with fail
 refine (newR H4.out).mono ?_
 rintro e w5 ⟨rfl, h⟩
 have H5 := Lib.hid h
 clear h
 obtain ⟨a7, b7, d7⟩ := H5.out.cells mm2
 obtain ⟨a8, b8, d8⟩ := H5.out.cells mm1
 go_wp2_with fail
 clear a7 b7 d7 a8 b8 d8
 refine (mul0R H5.out HM0.out).mono ?_
 rintro e w6 ⟨rfl, h⟩
 have H6 := Lib.hid h
 clear h
 have L9 := Lib.hid (H6.out.put #[.int .i64 0, .int .i64 0, .slice none 0 0])
 obtain ⟨a10, b10, d10⟩ := L9.out.cells mm2
 obtain ⟨a11, b11, d11⟩ := L9.out.cells mm1
 go_wp2_with fail
 clear a10 b10 d10 a11 b11 d11
 have H7 := L9
 clear L9
 generalize (w6.alloc (.cells #[.int .i64 0, .int .i64 0, .slice none 0 0] 27)) = w7 at *
 refine (mulR H7.out (r := s) (c := t) (d := u) mm1 mm0 rfl rfl ⟨rfl, rfl, rfl, rfl⟩ (by have := HD.out; omega) rfl rfl s u (s * u) ⟨rfl, rfl, rfl⟩ rfl).mono ?_
 rintro e w8 ⟨A8, c8, rfl, h⟩
 have H8 := Lib.hid h
 clear h
 have L12 := Lib.hid (H8.out.put #[.int .i64 (s : Int), .int .i64 (u : Int), .slice A8 (s * u) c8])
 go_wp2_with fail
 have H9 := L12
 clear L12
 generalize (w8.alloc (.cells #[.int .i64 (s : Int), .int .i64 (u : Int), .slice A8 (s * u) c8] 27)) = w9 at *
 refine (works_any _).mono ?_
 rintro e w10 ⟨rfl, hb⟩
 have H10 := Lib.hid (MS.keep H9.out hb)
 clear hb
 go_wp2_with fail
 go_ret
 exact ⟨rfl, H10.out.below⟩
set_option maxRecDepth 100000 in
set_option maxHeartbeats 40000000 in
theorem products_bad2 (w : World) (r s t : Nat) (hd : r ≤ 8 ∧ s ≤ 8 ∧ t ≤ 8) (A : Option Addr) (ca : Nat) (ma : M) (hA : Bytes w w.heap.size A (flat r s ma)) (hca : (flat r s ma).length ≤ ca) (B : Option Addr) (cb : Nat) (mb : M) (hB : Bytes w w.heap.size B (flat s t mb)) (hcb : (flat s t mb).length ≤ cb) (Rc Cc : Int) (C : Option Addr) (lc : List UInt8) (nc cc : Nat) (hlc : lc.length = nc) (hC : Bytes w w.heap.size C lc) (hcc : lc.length ≤ cc) (hsc : smallB 8 Rc Cc nc = true) (hm1 : mulB (s : Int) (t : Int) (s * t) Rc Cc nc = false)  :
    Calls Try.prog 7 #[.agg #[.int .i64 (r : Int), .int .i64 (s : Int), .slice A (r * s) ca], .agg #[.int .i64 (s : Int), .int .i64 (t : Int), .slice B (s * t) cb], .agg #[.int .i64 Rc, .int .i64 Cc, .slice C nc cc]] w fun e w' => e = .returned (.bool true) ∧ Below w.heap.size w w' := by
 have H0 := Lib.hid ((((MS.start w).arg hA hca).arg hB hcb).arg hC hcc)
 have HLNc := Lib.hid hlc
 have HM1 := Lib.hid hm1
 have HSc := Lib.hid hsc
 have HSb := Lib.hid (small8 (r := s) (s := t) (by omega) (by omega))
 have HSa := Lib.hid (small8 (r := r) (s := s) (by omega) (by omega))
 have HD := Lib.hid hd
 clear hA hca hB hcb hC hcc hlc hd hsc hm1
 go_enter Try.func7, Try.ntmps7
 have L1 := Lib.hid (H0.out.put #[.int .i64 (r : Int), .int .i64 (s : Int), .slice A (r * s) ca])
 have L2 := Lib.hid (show MS _ _ _ ((w.heap.size + 1, #[.int .i64 (s : Int), .int .i64 (t : Int), .slice B (s * t) cb]) :: _) ((w.alloc (.cells #[.int .i64 (r : Int), .int .i64 (s : Int), .slice A (r * s) ca] 27)).alloc (.cells #[.int .i64 (s : Int), .int .i64 (t : Int), .slice B (s * t) cb] 27)) from by have h := L1.out.put #[.int .i64 (s : Int), .int .i64 (t : Int), .slice B (s * t) cb]; (try simp only [World.size_alloc] at h); exact h)
 have L3 := Lib.hid (show MS _ _ _ ((w.heap.size + 1 + 1, #[.int .i64 Rc, .int .i64 Cc, .slice C nc cc]) :: _) (((w.alloc (.cells #[.int .i64 (r : Int), .int .i64 (s : Int), .slice A (r * s) ca] 27)).alloc (.cells #[.int .i64 (s : Int), .int .i64 (t : Int), .slice B (s * t) cb] 27)).alloc (.cells #[.int .i64 Rc, .int .i64 Cc, .slice C nc cc] 27)) from by have h := L2.out.put #[.int .i64 Rc, .int .i64 Cc, .slice C nc cc]; (try simp only [World.size_alloc] at h); exact h)
 obtain ⟨a4, b4, d4⟩ := L3.out.cells mm2
 go_wp2_with fail
 clear a4 b4 d4
 have H1 := L3
 clear L1 L2 L3
 generalize (((w.alloc (.cells #[.int .i64 (r : Int), .int .i64 (s : Int), .slice A (r * s) ca] 27)).alloc (.cells #[.int .i64 (s : Int), .int .i64 (t : Int), .slice B (s * t) cb] 27)).alloc (.cells #[.int .i64 Rc, .int .i64 Cc, .slice C nc cc] 27)) = w1 at *
 refine (smallR H1.out 8 (by decide) (v := true) HSa.out).mono ?_
 rintro e w2 ⟨rfl, h⟩
 have H2 := Lib.hid h
 clear h
 obtain ⟨a5, b5, d5⟩ := H2.out.cells mm1
 go_wp2_with fail
 clear a5 b5 d5
 refine (smallR H2.out 8 (by decide) (v := true) HSb.out).mono ?_
 rintro e w3 ⟨rfl, h⟩
 have H3 := Lib.hid h
 clear h
 obtain ⟨a6, b6, d6⟩ := H3.out.cells mm0
 go_wp2_with fail
 clear a6 b6 d6
 refine (smallR H3.out 8 (by decide) (v := true) HSc.out).mono ?_
 rintro e w4 ⟨rfl, h⟩
 have H4 := Lib.hid h
 clear h
 go_wp2_with fail
 refine (newR H4.out).mono ?_
 rintro e w5 ⟨rfl, h⟩
 have H5 := Lib.hid h
 clear h
 obtain ⟨a7, b7, d7⟩ := H5.out.cells mm2
 obtain ⟨a8, b8, d8⟩ := H5.out.cells mm1
 go_wp2_with fail
 clear a7 b7 d7 a8 b8 d8
 refine (mulR H5.out (r := r) (c := s) (d := t) mm2 mm1 rfl rfl ⟨rfl, rfl, rfl, rfl⟩ (by have := HD.out; omega) rfl rfl r t (r * t) ⟨rfl, rfl, rfl⟩ rfl).mono ?_
 rintro e w6 ⟨A6, c6, rfl, h⟩
 have H6 := Lib.hid h
 clear h
 have L9 := Lib.hid (H6.out.put #[.int .i64 (r : Int), .int .i64 (t : Int), .slice A6 (r * t) c6])
 obtain ⟨a10, b10, d10⟩ := L9.out.cells mm2
 obtain ⟨a11, b11, d11⟩ := L9.out.cells mm1
 go_wp2_with fail
 clear a10 b10 d10 a11 b11 d11
 have H7 := L9
 clear L9
 generalize (w6.alloc (.cells #[.int .i64 (r : Int), .int .i64 (t : Int), .slice A6 (r * t) c6] 27)) = w7 at *
 refine (mul0R H7.out HM1.out).mono ?_
 rintro e w8 ⟨rfl, h⟩
 have H8 := Lib.hid h
 clear h
 have L12 := Lib.hid (H8.out.put #[.int .i64 0, .int .i64 0, .slice none 0 0])
 go_wp2_with fail
 have H9 := L12
 clear L12
 generalize (w8.alloc (.cells #[.int .i64 0, .int .i64 0, .slice none 0 0] 27)) = w9 at *
 refine (works_any _).mono ?_
 rintro e w10 ⟨rfl, hb⟩
 have H10 := Lib.hid (MS.keep H9.out hb)
 clear hb
 go_wp2_with fail
 go_ret
 exact ⟨rfl, H10.out.below⟩
set_option maxRecDepth 100000 in
set_option maxHeartbeats 40000000 in
theorem products_ok (w : World) (r s t u : Nat) (hd : r ≤ 8 ∧ s ≤ 8 ∧ t ≤ 8 ∧ u ≤ 8) (A : Option Addr) (ca : Nat) (ma : M) (hA : Bytes w w.heap.size A (flat r s ma)) (hca : (flat r s ma).length ≤ ca) (B : Option Addr) (cb : Nat) (mb : M) (hB : Bytes w w.heap.size B (flat s t mb)) (hcb : (flat s t mb).length ≤ cb) (C : Option Addr) (cc : Nat) (mc : M) (hC : Bytes w w.heap.size C (flat t u mc)) (hcc : (flat t u mc).length ≤ cc)  :
    Calls Try.prog 7 #[.agg #[.int .i64 (r : Int), .int .i64 (s : Int), .slice A (r * s) ca], .agg #[.int .i64 (s : Int), .int .i64 (t : Int), .slice B (s * t) cb], .agg #[.int .i64 (t : Int), .int .i64 (u : Int), .slice C (t * u) cc]] w fun e w' => e = .returned (.bool true) ∧ Below w.heap.size w w' := by
 have H0 := Lib.hid ((((MS.start w).arg hA hca).arg hB hcb).arg hC hcc)
 have HSa := Lib.hid (small8 (r := r) (s := s) (by omega) (by omega))
 have HSb := Lib.hid (small8 (r := s) (s := t) (by omega) (by omega))
 have HSc := Lib.hid (small8 (r := t) (s := u) (by omega) (by omega))
 have HD := Lib.hid hd
 clear hA hca hB hcb hC hcc hd
 go_enter Try.func7, Try.ntmps7
 have L1 := Lib.hid (H0.out.put #[.int .i64 (r : Int), .int .i64 (s : Int), .slice A (r * s) ca])
 have L2 := Lib.hid (show MS _ _ _ ((w.heap.size + 1, #[.int .i64 (s : Int), .int .i64 (t : Int), .slice B (s * t) cb]) :: _) ((w.alloc (.cells #[.int .i64 (r : Int), .int .i64 (s : Int), .slice A (r * s) ca] 27)).alloc (.cells #[.int .i64 (s : Int), .int .i64 (t : Int), .slice B (s * t) cb] 27)) from by have h := L1.out.put #[.int .i64 (s : Int), .int .i64 (t : Int), .slice B (s * t) cb]; (try simp only [World.size_alloc] at h); exact h)
 have L3 := Lib.hid (show MS _ _ _ ((w.heap.size + 1 + 1, #[.int .i64 (t : Int), .int .i64 (u : Int), .slice C (t * u) cc]) :: _) (((w.alloc (.cells #[.int .i64 (r : Int), .int .i64 (s : Int), .slice A (r * s) ca] 27)).alloc (.cells #[.int .i64 (s : Int), .int .i64 (t : Int), .slice B (s * t) cb] 27)).alloc (.cells #[.int .i64 (t : Int), .int .i64 (u : Int), .slice C (t * u) cc] 27)) from by have h := L2.out.put #[.int .i64 (t : Int), .int .i64 (u : Int), .slice C (t * u) cc]; (try simp only [World.size_alloc] at h); exact h)
 obtain ⟨a4, b4, d4⟩ := L3.out.cells mm2
 go_wp2_with fail
 clear a4 b4 d4
 have H1 := L3
 clear L1 L2 L3
 generalize (((w.alloc (.cells #[.int .i64 (r : Int), .int .i64 (s : Int), .slice A (r * s) ca] 27)).alloc (.cells #[.int .i64 (s : Int), .int .i64 (t : Int), .slice B (s * t) cb] 27)).alloc (.cells #[.int .i64 (t : Int), .int .i64 (u : Int), .slice C (t * u) cc] 27)) = w1 at *
 refine (smallR H1.out 8 (by decide) (v := true) HSa.out).mono ?_
 rintro e w2 ⟨rfl, h⟩
 have H2 := Lib.hid h
 clear h
 obtain ⟨a5, b5, d5⟩ := H2.out.cells mm1
 go_wp2_with fail
 clear a5 b5 d5
 refine (smallR H2.out 8 (by decide) (v := true) HSb.out).mono ?_
 rintro e w3 ⟨rfl, h⟩
 have H3 := Lib.hid h
 clear h
 obtain ⟨a6, b6, d6⟩ := H3.out.cells mm0
 go_wp2_with fail
 clear a6 b6 d6
 refine (smallR H3.out 8 (by decide) (v := true) HSc.out).mono ?_
 rintro e w4 ⟨rfl, h⟩
 have H4 := Lib.hid h
 clear h
 go_wp2_with fail
 refine (newR H4.out).mono ?_
 rintro e w5 ⟨rfl, h⟩
 have H5 := Lib.hid h
 clear h
 obtain ⟨a7, b7, d7⟩ := H5.out.cells mm2
 obtain ⟨a8, b8, d8⟩ := H5.out.cells mm1
 go_wp2_with fail
 clear a7 b7 d7 a8 b8 d8
 refine (mulR H5.out (r := r) (c := s) (d := t) mm2 mm1 rfl rfl ⟨rfl, rfl, rfl, rfl⟩ (by have := HD.out; omega) rfl rfl r t (r * t) ⟨rfl, rfl, rfl⟩ (l := _) (rfl)).mono ?_
 rintro e w6 ⟨A6, c6, rfl, h⟩
 have H6 := Lib.hid h
 clear h
 have L9 := Lib.hid (H6.out.put #[.int .i64 (r : Int), .int .i64 (t : Int), .slice A6 (r * t) c6])
 obtain ⟨a10, b10, d10⟩ := L9.out.cells mm2
 obtain ⟨a11, b11, d11⟩ := L9.out.cells mm1
 go_wp2_with fail
 clear a10 b10 d10 a11 b11 d11
 have H7 := L9
 clear L9
 generalize (w6.alloc (.cells #[.int .i64 (r : Int), .int .i64 (t : Int), .slice A6 (r * t) c6] 27)) = w7 at *
 refine (mulR H7.out (r := s) (c := t) (d := u) mm2 mm1 rfl rfl ⟨rfl, rfl, rfl, rfl⟩ (by have := HD.out; omega) rfl rfl s u (s * u) ⟨rfl, rfl, rfl⟩ (l := _) (rfl)).mono ?_
 rintro e w8 ⟨A8, c8, rfl, h⟩
 have H8 := Lib.hid h
 clear h
 have L12 := Lib.hid (H8.out.put #[.int .i64 (s : Int), .int .i64 (u : Int), .slice A8 (s * u) c8])
 obtain ⟨a13, b13, d13⟩ := L12.out.cells mm1
 obtain ⟨a14, b14, d14⟩ := L12.out.cells mm2
 go_wp2_with fail
 clear a13 b13 d13 a14 b14 d14
 have H9 := L12
 clear L12
 generalize (w8.alloc (.cells #[.int .i64 (s : Int), .int .i64 (u : Int), .slice A8 (s * u) c8] 27)) = w9 at *
 refine (mulR H9.out (r := r) (c := t) (d := u) mm1 mm2 rfl rfl ⟨rfl, rfl, rfl, rfl⟩ (by have := HD.out; omega) rfl rfl r u (r * u) ⟨rfl, rfl, rfl⟩ (l := flat r u (mulM s ma (mulM t mb mc))) (flat_congr fun i _ k _ => mulM_assoc s t ma mb mc i k)).mono ?_
 rintro e w10 ⟨A10, c10, rfl, h⟩
 have H10 := Lib.hid h
 clear h
 have L15 := Lib.hid (H10.out.put #[.int .i64 (r : Int), .int .i64 (u : Int), .slice A10 (r * u) c10])
 obtain ⟨a16, b16, d16⟩ := L15.out.cells mm5
 obtain ⟨a17, b17, d17⟩ := L15.out.cells mm1
 go_wp2_with fail
 clear a16 b16 d16 a17 b17 d17
 have H11 := L15
 clear L15
 generalize (w10.alloc (.cells #[.int .i64 (r : Int), .int .i64 (u : Int), .slice A10 (r * u) c10] 27)) = w11 at *
 refine (mulR H11.out (r := r) (c := s) (d := u) mm5 mm1 rfl rfl ⟨rfl, rfl, rfl, rfl⟩ (by have := HD.out; omega) rfl rfl r u (r * u) ⟨rfl, rfl, rfl⟩ (l := _) (rfl)).mono ?_
 rintro e w12 ⟨A12, c12, rfl, h⟩
 have H12 := Lib.hid h
 clear h
 have L18 := Lib.hid (H12.out.put #[.int .i64 (r : Int), .int .i64 (u : Int), .slice A12 (r * u) c12])
 go_wp2_with fail
 have H13 := L18
 clear L18
 generalize (w12.alloc (.cells #[.int .i64 (r : Int), .int .i64 (u : Int), .slice A12 (r * u) c12] 27)) = w13 at *
 refine wp_region_noPanic ?_
 refine wp_heldG (fun w' => w'.cell? ⟨w.heap.size, 0, none⟩ = some (.int .i64 (r : Int)) ∧ w'.cell? ⟨w.heap.size, 1, none⟩ = some (.int .i64 (s : Int)) ∧ w'.cell? ⟨w.heap.size, 2, none⟩ = some (.slice A (r * s) ca)) [10] (by kernel_rfl) ?hs0 ?rg0
 case hs0 =>
  have h := H13.out.keep (nextN (Mem.start w13) 1)
  exact h.cells mm6
 case rg0 =>
 intro hHeld
 have HD13 := Lib.hid (show MS _ _ _ _ w13.drew from H13.out.keep (nextN (Mem.start w13) 1))
 generalize w13.drew = wd13 at *
 refine pu 0 ?_
 refine pu 1 ?_
 refine tk 2 rfl (by intro w hSw; obtain ⟨k0, k1, k2⟩ := hSw; go_simp; try with_reducible rfl) ?_
 refine tk 4 rfl (by intro w hSw; obtain ⟨k0, k1, k2⟩ := hSw; go_simp; try with_reducible rfl) ?_
 refine tw 3 9 rfl rfl (fun K hK => ?_) fun K hK => ?_
 ·skip
  go_simp
  refine (oneR HD13.out (r := r) rfl (by have := HD.out; omega) (r * r) rfl rfl).mono ?_
  rintro e w14 ⟨A14, c14, rfl, h⟩
  have H14 := Lib.hid h
  clear h
  try dsimp only
  refine hK.out _ _ (fun _ => have h := H14.out; h.cells mm6) fun hHeld => ?_
  clear hK K
  try simp only [pU, pU0, pA, pB, pC]
  have hHeld := hHeld (by kernel_rfl)
  refine tw 5 9 rfl rfl (fun K hK => ?_) fun K hK => ?_
  ·skip
   go_simp
   refine (mulR H14.out (r := r) (c := r) (d := s) mm0 mm7 rfl rfl ⟨rfl, rfl, rfl, rfl⟩ (by have := HD.out; omega) rfl rfl r s (r * s) ⟨rfl, rfl, rfl⟩ (l := flat r s ma) (flat_congr fun i hi k _ => id_mulM ma hi k)).mono ?_
   rintro e w15 ⟨A15, c15, rfl, h⟩
   have H15 := Lib.hid h
   clear h
   try dsimp only
   refine hK.out _ _ (fun _ => have h := H15.out; h.cells mm6) fun hHeld => ?_
   clear hK K
   try simp only [pU, pU0, pA, pB, pC]
   have hHeld := hHeld (by kernel_rfl)
   refine pu 6 ?_
   refine pu 7 ?_
   refine pu 8 ?_
   refine on 9 rfl fun K hK => ?_
   refine step_new (P := Try.prog) _ ⟨rfl, rfl, rfl⟩ newMx ?_
   have H16 := Lib.hid (H15.out.put #[.int .i64 0, .int .i64 0, .slice none 0 0])
   have HB16 := Lib.hid (And.intro H15.out.below.size H15.out.far)
   obtain ⟨g16, hg16⟩ : ∃ x, w15.heap.size = x := ⟨_, rfl⟩
   rw [hg16] at H16 HB16 ⊢
   clear hg16
   generalize w15.alloc (.cells #[.int .i64 0, .int .i64 0, .slice none 0 0] 27) = w16 at *
   try dsimp only
   refine hK.out _ _ (fun _ => have h := H16.out; h.cells mm7) fun hHeld => ?_
   clear hK K
   try simp only [pU, pU0, pA, pB, pC]
   have hHeld := hHeld (by kernel_rfl)
   refine on 10 rfl fun K hK => ?_
   obtain ⟨⟨z0, z1, z2⟩, f0, f1, f2⟩ := H16.out.blk mm0
   go_simp
   have H17 := Lib.hid (H16.out.set HB16.out.1 HB16.out.2 (.int .i64 (r : Int)) (.int .i64 (s : Int)) (.slice A15 (r * s) c15))
   clear z0 z1 z2 f0 f1 f2 HB16
   generalize ((w16.setCell ⟨g16, 0, none⟩ (.int .i64 (r : Int))).setCell ⟨g16, 1, none⟩ (.int .i64 (s : Int))).setCell ⟨g16, 2, none⟩ (.slice A15 (r * s) c15) = w17 at *
   try dsimp only
   refine hK.out _ _ ?_ (fun hHeld => ?_)
   ·exact fun h => (st_no (by kernel_rfl) h).elim
   clear hK K
   try simp only [pU, pU0, pA, pB, pC]
   clear hHeld
   refine puG 11 ⟨_, _, _, _, _, _⟩ (v := ?_) ?_ (fun h => (st_no (by kernel_rfl) h).elim) ?_
   rotate_left
   ·intro w hSw
    try dsimp only at hSw
    go_simp
    try with_reducible rfl
   try simp only [pU, pU0, pA, pB, pC]
   refine wpAnyG_done (by kernel_rfl) ?_ _
   refine NoPanic.normal ?_
   obtain ⟨a19, b19, d19⟩ := H17.out.cells mm7
   go_wp2_with fail
   clear a19 b19 d19
   refine (turnR H17.out (r := r) (c := s) mm8 rfl ⟨rfl, rfl⟩ (by have := HD.out; omega) rfl s r (s * r) ⟨rfl, rfl, rfl⟩ (l := _) (rfl)).mono ?_
   rintro e w18 ⟨A18, c18, rfl, h⟩
   have H18 := Lib.hid h
   clear h
   have L20 := Lib.hid (H18.out.put #[.int .i64 (s : Int), .int .i64 (r : Int), .slice A18 (s * r) c18])
   obtain ⟨a21, b21, d21⟩ := L20.out.cells mm7
   go_wp2_with fail
   clear a21 b21 d21
   have H19 := L20
   clear L20
   generalize (w18.alloc (.cells #[.int .i64 (s : Int), .int .i64 (r : Int), .slice A18 (s * r) c18] 27)) = w19 at *
   refine (turnR H19.out (r := s) (c := t) mm8 rfl ⟨rfl, rfl⟩ (by have := HD.out; omega) rfl t s (t * s) ⟨rfl, rfl, rfl⟩ (l := _) (rfl)).mono ?_
   rintro e w20 ⟨A20, c20, rfl, h⟩
   have H20 := Lib.hid h
   clear h
   have L22 := Lib.hid (H20.out.put #[.int .i64 (t : Int), .int .i64 (s : Int), .slice A20 (t * s) c20])
   obtain ⟨a23, b23, d23⟩ := L22.out.cells mm6
   go_wp2_with fail
   clear a23 b23 d23
   have H21 := L22
   clear L22
   generalize (w20.alloc (.cells #[.int .i64 (t : Int), .int .i64 (s : Int), .slice A20 (t * s) c20] 27)) = w21 at *
   refine (turnR H21.out (r := r) (c := t) mm7 rfl ⟨rfl, rfl⟩ (by have := HD.out; omega) rfl t r (t * r) ⟨rfl, rfl, rfl⟩ (l := _) (rfl)).mono ?_
   rintro e w22 ⟨A22, c22, rfl, h⟩
   have H22 := Lib.hid h
   clear h
   have L24 := Lib.hid (H22.out.put #[.int .i64 (t : Int), .int .i64 (r : Int), .slice A22 (t * r) c22])
   obtain ⟨a25, b25, d25⟩ := L24.out.cells mm1
   obtain ⟨a26, b26, d26⟩ := L24.out.cells mm2
   go_wp2_with fail
   clear a25 b25 d25 a26 b26 d26
   have H23 := L24
   clear L24
   generalize (w22.alloc (.cells #[.int .i64 (t : Int), .int .i64 (r : Int), .slice A22 (t * r) c22] 27)) = w23 at *
   refine (mulR H23.out (r := t) (c := s) (d := r) mm1 mm2 rfl rfl ⟨rfl, rfl, rfl, rfl⟩ (by have := HD.out; omega) rfl rfl t r (t * r) ⟨rfl, rfl, rfl⟩ (l := flat t r (fun x y => mulM s ma mb y x)) (flat_congr fun i _ k _ => (mulM_turn s ma mb i k).symm)).mono ?_
   rintro e w24 ⟨A24, c24, rfl, h⟩
   have H24 := Lib.hid h
   clear h
   have L27 := Lib.hid (H24.out.put #[.int .i64 (t : Int), .int .i64 (r : Int), .slice A24 (t * r) c24])
   obtain ⟨a28, b28, d28⟩ := L27.out.cells mm3
   go_wp2_with fail
   clear a28 b28 d28
   have H25 := L27
   clear L27
   generalize (w24.alloc (.cells #[.int .i64 (t : Int), .int .i64 (r : Int), .slice A24 (t * r) c24] 27)) = w25 at *
   refine (turnR H25.out (r := s) (c := r) mm3 rfl ⟨rfl, rfl⟩ (by have := HD.out; omega) rfl r s (r * s) ⟨rfl, rfl, rfl⟩ (l := flat r s ma) (rfl)).mono ?_
   rintro e w26 ⟨A26, c26, rfl, h⟩
   have H26 := Lib.hid h
   clear h
   have L29 := Lib.hid (H26.out.put #[.int .i64 (r : Int), .int .i64 (s : Int), .slice A26 (r * s) c26])
   obtain ⟨a30, b30, d30⟩ := L29.out.cells mm7
   obtain ⟨a31, b31, d31⟩ := L29.out.cells mm6
   go_wp2_with fail
   clear a30 b30 d30 a31 b31 d31
   have H27 := L29
   clear L29
   generalize (w26.alloc (.cells #[.int .i64 (r : Int), .int .i64 (s : Int), .slice A26 (r * s) c26] 27)) = w27 at *
   refine (sameR H27.out mm8 (flat_len _ _ _) mm7 (flat_len _ _ _) (v := true) (sameB_self _ _ _)).mono ?_
   rintro e w28 ⟨rfl, h⟩
   have H28 := Lib.hid h
   clear h
   obtain ⟨a32, b32, d32⟩ := H28.out.cells mm5
   obtain ⟨a33, b33, d33⟩ := H28.out.cells mm12
   go_wp2_with fail
   clear a32 b32 d32 a33 b33 d33
   refine (sameR H28.out mm5 (flat_len _ _ _) (.tail _ mm12) (flat_len _ _ _) (v := true) (sameB_self _ _ _)).mono ?_
   rintro e w29 ⟨rfl, h⟩
   have H29 := Lib.hid h
   clear h
   obtain ⟨a34, b34, d34⟩ := H29.out.cells mm1
   obtain ⟨a35, b35, d35⟩ := H29.out.cells mm2
   go_wp2_with fail
   clear a34 b34 d34 a35 b35 d35
   refine (sameR H29.out mm1 (flat_len _ _ _) mm2 (flat_len _ _ _) (v := true) (sameB_self _ _ _)).mono ?_
   rintro e w30 ⟨rfl, h⟩
   have H30 := Lib.hid h
   clear h
   obtain ⟨a36, b36, d36⟩ := H30.out.cells mm0
   obtain ⟨a37, b37, d37⟩ := H30.out.cells mm12
   go_wp2_with fail
   clear a36 b36 d36 a37 b37 d37
   refine (sameR H30.out mm0 (flat_len _ _ _) (.tail _ mm12) (flat_len _ _ _) (v := true) (sameB_self _ _ _)).mono ?_
   rintro e w31 ⟨rfl, h⟩
   have H31 := Lib.hid h
   clear h
   go_wp2_with fail
   refine (works_any _).mono ?_
   rintro e w32 ⟨rfl, hb⟩
   have H32 := Lib.hid (MS.keep H31.out hb)
   clear hb
   go_wp2_with fail
   go_ret
   exact ⟨rfl, H32.out.below⟩
  ·skip
   refine step_new (P := Try.prog) _ ⟨rfl, rfl, rfl⟩ newMx ?_
   have H15 := Lib.hid (H14.out.put #[.int .i64 0, .int .i64 0, .slice none 0 0])
   have HB15 := Lib.hid (And.intro H14.out.below.size H14.out.far)
   obtain ⟨g15, hg15⟩ : ∃ x, w14.heap.size = x := ⟨_, rfl⟩
   rw [hg15] at H15 HB15 ⊢
   clear hg15
   generalize w14.alloc (.cells #[.int .i64 0, .int .i64 0, .slice none 0 0] 27) = w15 at *
   try dsimp only
   refine hK.out _ _ (fun _ => have h := H15.out; h.cells mm7) fun hHeld => ?_
   clear hK K
   try simp only [pU, pU0, pA, pB, pC]
   have hHeld := hHeld (by kernel_rfl)
   refine on 5 rfl fun K hK => ?_
   go_simp
   refine (mulR H15.out (r := r) (c := r) (d := s) mm0 mm7 rfl rfl ⟨rfl, rfl, rfl, rfl⟩ (by have := HD.out; omega) rfl rfl r s (r * s) ⟨rfl, rfl, rfl⟩ (l := flat r s ma) (flat_congr fun i hi k _ => id_mulM ma hi k)).mono ?_
   rintro e w16 ⟨A16, c16, rfl, h⟩
   have H16 := Lib.hid h
   clear h
   try dsimp only
   refine hK.out _ _ (fun _ => have h := H16.out; h.cells mm7) fun hHeld => ?_
   clear hK K
   try simp only [pU, pU0, pA, pB, pC]
   have hHeld := hHeld (by kernel_rfl)
   refine pu 6 ?_
   refine pu 7 ?_
   refine pu 8 ?_
   refine on 10 rfl fun K hK => ?_
   obtain ⟨⟨z0, z1, z2⟩, f0, f1, f2⟩ := H16.out.blk mm0
   go_simp
   have H17 := Lib.hid (H16.out.set HB15.out.1 HB15.out.2 (.int .i64 (r : Int)) (.int .i64 (s : Int)) (.slice A16 (r * s) c16))
   clear z0 z1 z2 f0 f1 f2 HB15
   generalize ((w16.setCell ⟨g15, 0, none⟩ (.int .i64 (r : Int))).setCell ⟨g15, 1, none⟩ (.int .i64 (s : Int))).setCell ⟨g15, 2, none⟩ (.slice A16 (r * s) c16) = w17 at *
   try dsimp only
   refine hK.out _ _ ?_ (fun hHeld => ?_)
   ·exact fun h => (st_no (by kernel_rfl) h).elim
   clear hK K
   try simp only [pU, pU0, pA, pB, pC]
   clear hHeld
   refine puG 11 ⟨_, _, _, _, _, _⟩ (v := ?_) ?_ (fun h => (st_no (by kernel_rfl) h).elim) ?_
   rotate_left
   ·intro w hSw
    try dsimp only at hSw
    go_simp
    try with_reducible rfl
   try simp only [pU, pU0, pA, pB, pC]
   refine wpAnyG_done (by kernel_rfl) ?_ _
   refine NoPanic.normal ?_
   obtain ⟨a19, b19, d19⟩ := H17.out.cells mm7
   go_wp2_with fail
   clear a19 b19 d19
   refine (turnR H17.out (r := r) (c := s) mm8 rfl ⟨rfl, rfl⟩ (by have := HD.out; omega) rfl s r (s * r) ⟨rfl, rfl, rfl⟩ (l := _) (rfl)).mono ?_
   rintro e w18 ⟨A18, c18, rfl, h⟩
   have H18 := Lib.hid h
   clear h
   have L20 := Lib.hid (H18.out.put #[.int .i64 (s : Int), .int .i64 (r : Int), .slice A18 (s * r) c18])
   obtain ⟨a21, b21, d21⟩ := L20.out.cells mm7
   go_wp2_with fail
   clear a21 b21 d21
   have H19 := L20
   clear L20
   generalize (w18.alloc (.cells #[.int .i64 (s : Int), .int .i64 (r : Int), .slice A18 (s * r) c18] 27)) = w19 at *
   refine (turnR H19.out (r := s) (c := t) mm8 rfl ⟨rfl, rfl⟩ (by have := HD.out; omega) rfl t s (t * s) ⟨rfl, rfl, rfl⟩ (l := _) (rfl)).mono ?_
   rintro e w20 ⟨A20, c20, rfl, h⟩
   have H20 := Lib.hid h
   clear h
   have L22 := Lib.hid (H20.out.put #[.int .i64 (t : Int), .int .i64 (s : Int), .slice A20 (t * s) c20])
   obtain ⟨a23, b23, d23⟩ := L22.out.cells mm6
   go_wp2_with fail
   clear a23 b23 d23
   have H21 := L22
   clear L22
   generalize (w20.alloc (.cells #[.int .i64 (t : Int), .int .i64 (s : Int), .slice A20 (t * s) c20] 27)) = w21 at *
   refine (turnR H21.out (r := r) (c := t) mm7 rfl ⟨rfl, rfl⟩ (by have := HD.out; omega) rfl t r (t * r) ⟨rfl, rfl, rfl⟩ (l := _) (rfl)).mono ?_
   rintro e w22 ⟨A22, c22, rfl, h⟩
   have H22 := Lib.hid h
   clear h
   have L24 := Lib.hid (H22.out.put #[.int .i64 (t : Int), .int .i64 (r : Int), .slice A22 (t * r) c22])
   obtain ⟨a25, b25, d25⟩ := L24.out.cells mm1
   obtain ⟨a26, b26, d26⟩ := L24.out.cells mm2
   go_wp2_with fail
   clear a25 b25 d25 a26 b26 d26
   have H23 := L24
   clear L24
   generalize (w22.alloc (.cells #[.int .i64 (t : Int), .int .i64 (r : Int), .slice A22 (t * r) c22] 27)) = w23 at *
   refine (mulR H23.out (r := t) (c := s) (d := r) mm1 mm2 rfl rfl ⟨rfl, rfl, rfl, rfl⟩ (by have := HD.out; omega) rfl rfl t r (t * r) ⟨rfl, rfl, rfl⟩ (l := flat t r (fun x y => mulM s ma mb y x)) (flat_congr fun i _ k _ => (mulM_turn s ma mb i k).symm)).mono ?_
   rintro e w24 ⟨A24, c24, rfl, h⟩
   have H24 := Lib.hid h
   clear h
   have L27 := Lib.hid (H24.out.put #[.int .i64 (t : Int), .int .i64 (r : Int), .slice A24 (t * r) c24])
   obtain ⟨a28, b28, d28⟩ := L27.out.cells mm3
   go_wp2_with fail
   clear a28 b28 d28
   have H25 := L27
   clear L27
   generalize (w24.alloc (.cells #[.int .i64 (t : Int), .int .i64 (r : Int), .slice A24 (t * r) c24] 27)) = w25 at *
   refine (turnR H25.out (r := s) (c := r) mm3 rfl ⟨rfl, rfl⟩ (by have := HD.out; omega) rfl r s (r * s) ⟨rfl, rfl, rfl⟩ (l := flat r s ma) (rfl)).mono ?_
   rintro e w26 ⟨A26, c26, rfl, h⟩
   have H26 := Lib.hid h
   clear h
   have L29 := Lib.hid (H26.out.put #[.int .i64 (r : Int), .int .i64 (s : Int), .slice A26 (r * s) c26])
   obtain ⟨a30, b30, d30⟩ := L29.out.cells mm7
   obtain ⟨a31, b31, d31⟩ := L29.out.cells mm6
   go_wp2_with fail
   clear a30 b30 d30 a31 b31 d31
   have H27 := L29
   clear L29
   generalize (w26.alloc (.cells #[.int .i64 (r : Int), .int .i64 (s : Int), .slice A26 (r * s) c26] 27)) = w27 at *
   refine (sameR H27.out mm8 (flat_len _ _ _) mm7 (flat_len _ _ _) (v := true) (sameB_self _ _ _)).mono ?_
   rintro e w28 ⟨rfl, h⟩
   have H28 := Lib.hid h
   clear h
   obtain ⟨a32, b32, d32⟩ := H28.out.cells mm5
   obtain ⟨a33, b33, d33⟩ := H28.out.cells mm12
   go_wp2_with fail
   clear a32 b32 d32 a33 b33 d33
   refine (sameR H28.out mm5 (flat_len _ _ _) (.tail _ mm12) (flat_len _ _ _) (v := true) (sameB_self _ _ _)).mono ?_
   rintro e w29 ⟨rfl, h⟩
   have H29 := Lib.hid h
   clear h
   obtain ⟨a34, b34, d34⟩ := H29.out.cells mm1
   obtain ⟨a35, b35, d35⟩ := H29.out.cells mm2
   go_wp2_with fail
   clear a34 b34 d34 a35 b35 d35
   refine (sameR H29.out mm1 (flat_len _ _ _) mm2 (flat_len _ _ _) (v := true) (sameB_self _ _ _)).mono ?_
   rintro e w30 ⟨rfl, h⟩
   have H30 := Lib.hid h
   clear h
   obtain ⟨a36, b36, d36⟩ := H30.out.cells mm0
   obtain ⟨a37, b37, d37⟩ := H30.out.cells mm12
   go_wp2_with fail
   clear a36 b36 d36 a37 b37 d37
   refine (sameR H30.out mm0 (flat_len _ _ _) (.tail _ mm12) (flat_len _ _ _) (v := true) (sameB_self _ _ _)).mono ?_
   rintro e w31 ⟨rfl, h⟩
   have H31 := Lib.hid h
   clear h
   go_wp2_with fail
   refine (works_any _).mono ?_
   rintro e w32 ⟨rfl, hb⟩
   have H32 := Lib.hid (MS.keep H31.out hb)
   clear hb
   go_wp2_with fail
   go_ret
   exact ⟨rfl, H32.out.below⟩
 ·skip
  refine step_new (P := Try.prog) _ ⟨rfl, rfl, rfl⟩ newMx ?_
  have H14 := Lib.hid (HD13.out.put #[.int .i64 0, .int .i64 0, .slice none 0 0])
  have HB14 := Lib.hid (And.intro HD13.out.below.size HD13.out.far)
  obtain ⟨g14, hg14⟩ : ∃ x, wd13.heap.size = x := ⟨_, rfl⟩
  rw [hg14] at H14 HB14 ⊢
  clear hg14
  generalize wd13.alloc (.cells #[.int .i64 0, .int .i64 0, .slice none 0 0] 27) = w14 at *
  try dsimp only
  refine hK.out _ _ (fun _ => have h := H14.out; h.cells mm7) fun hHeld => ?_
  clear hK K
  try simp only [pU, pU0, pA, pB, pC]
  have hHeld := hHeld (by kernel_rfl)
  refine on 3 rfl fun K hK => ?_
  go_simp
  refine (oneR H14.out (r := r) rfl (by have := HD.out; omega) (r * r) rfl rfl).mono ?_
  rintro e w15 ⟨A15, c15, rfl, h⟩
  have H15 := Lib.hid h
  clear h
  try dsimp only
  refine hK.out _ _ (fun _ => have h := H15.out; h.cells mm7) fun hHeld => ?_
  clear hK K
  try simp only [pU, pU0, pA, pB, pC]
  have hHeld := hHeld (by kernel_rfl)
  refine on 5 rfl fun K hK => ?_
  go_simp
  refine (mulR H15.out (r := r) (c := r) (d := s) mm0 mm7 rfl rfl ⟨rfl, rfl, rfl, rfl⟩ (by have := HD.out; omega) rfl rfl r s (r * s) ⟨rfl, rfl, rfl⟩ (l := flat r s ma) (flat_congr fun i hi k _ => id_mulM ma hi k)).mono ?_
  rintro e w16 ⟨A16, c16, rfl, h⟩
  have H16 := Lib.hid h
  clear h
  try dsimp only
  refine hK.out _ _ (fun _ => have h := H16.out; h.cells mm7) fun hHeld => ?_
  clear hK K
  try simp only [pU, pU0, pA, pB, pC]
  have hHeld := hHeld (by kernel_rfl)
  refine pu 6 ?_
  refine pu 7 ?_
  refine pu 8 ?_
  refine on 10 rfl fun K hK => ?_
  obtain ⟨⟨z0, z1, z2⟩, f0, f1, f2⟩ := H16.out.blk mm0
  go_simp
  have H17 := Lib.hid (H16.out.set HB14.out.1 HB14.out.2 (.int .i64 (r : Int)) (.int .i64 (s : Int)) (.slice A16 (r * s) c16))
  clear z0 z1 z2 f0 f1 f2 HB14
  generalize ((w16.setCell ⟨g14, 0, none⟩ (.int .i64 (r : Int))).setCell ⟨g14, 1, none⟩ (.int .i64 (s : Int))).setCell ⟨g14, 2, none⟩ (.slice A16 (r * s) c16) = w17 at *
  try dsimp only
  refine hK.out _ _ ?_ (fun hHeld => ?_)
  ·exact fun h => (st_no (by kernel_rfl) h).elim
  clear hK K
  try simp only [pU, pU0, pA, pB, pC]
  clear hHeld
  refine puG 11 ⟨_, _, _, _, _, _⟩ (v := ?_) ?_ (fun h => (st_no (by kernel_rfl) h).elim) ?_
  rotate_left
  ·intro w hSw
   try dsimp only at hSw
   go_simp
   try with_reducible rfl
  try simp only [pU, pU0, pA, pB, pC]
  refine wpAnyG_done (by kernel_rfl) ?_ _
  refine NoPanic.normal ?_
  obtain ⟨a19, b19, d19⟩ := H17.out.cells mm7
  go_wp2_with fail
  clear a19 b19 d19
  refine (turnR H17.out (r := r) (c := s) mm8 rfl ⟨rfl, rfl⟩ (by have := HD.out; omega) rfl s r (s * r) ⟨rfl, rfl, rfl⟩ (l := _) (rfl)).mono ?_
  rintro e w18 ⟨A18, c18, rfl, h⟩
  have H18 := Lib.hid h
  clear h
  have L20 := Lib.hid (H18.out.put #[.int .i64 (s : Int), .int .i64 (r : Int), .slice A18 (s * r) c18])
  obtain ⟨a21, b21, d21⟩ := L20.out.cells mm7
  go_wp2_with fail
  clear a21 b21 d21
  have H19 := L20
  clear L20
  generalize (w18.alloc (.cells #[.int .i64 (s : Int), .int .i64 (r : Int), .slice A18 (s * r) c18] 27)) = w19 at *
  refine (turnR H19.out (r := s) (c := t) mm8 rfl ⟨rfl, rfl⟩ (by have := HD.out; omega) rfl t s (t * s) ⟨rfl, rfl, rfl⟩ (l := _) (rfl)).mono ?_
  rintro e w20 ⟨A20, c20, rfl, h⟩
  have H20 := Lib.hid h
  clear h
  have L22 := Lib.hid (H20.out.put #[.int .i64 (t : Int), .int .i64 (s : Int), .slice A20 (t * s) c20])
  obtain ⟨a23, b23, d23⟩ := L22.out.cells mm6
  go_wp2_with fail
  clear a23 b23 d23
  have H21 := L22
  clear L22
  generalize (w20.alloc (.cells #[.int .i64 (t : Int), .int .i64 (s : Int), .slice A20 (t * s) c20] 27)) = w21 at *
  refine (turnR H21.out (r := r) (c := t) mm7 rfl ⟨rfl, rfl⟩ (by have := HD.out; omega) rfl t r (t * r) ⟨rfl, rfl, rfl⟩ (l := _) (rfl)).mono ?_
  rintro e w22 ⟨A22, c22, rfl, h⟩
  have H22 := Lib.hid h
  clear h
  have L24 := Lib.hid (H22.out.put #[.int .i64 (t : Int), .int .i64 (r : Int), .slice A22 (t * r) c22])
  obtain ⟨a25, b25, d25⟩ := L24.out.cells mm1
  obtain ⟨a26, b26, d26⟩ := L24.out.cells mm2
  go_wp2_with fail
  clear a25 b25 d25 a26 b26 d26
  have H23 := L24
  clear L24
  generalize (w22.alloc (.cells #[.int .i64 (t : Int), .int .i64 (r : Int), .slice A22 (t * r) c22] 27)) = w23 at *
  refine (mulR H23.out (r := t) (c := s) (d := r) mm1 mm2 rfl rfl ⟨rfl, rfl, rfl, rfl⟩ (by have := HD.out; omega) rfl rfl t r (t * r) ⟨rfl, rfl, rfl⟩ (l := flat t r (fun x y => mulM s ma mb y x)) (flat_congr fun i _ k _ => (mulM_turn s ma mb i k).symm)).mono ?_
  rintro e w24 ⟨A24, c24, rfl, h⟩
  have H24 := Lib.hid h
  clear h
  have L27 := Lib.hid (H24.out.put #[.int .i64 (t : Int), .int .i64 (r : Int), .slice A24 (t * r) c24])
  obtain ⟨a28, b28, d28⟩ := L27.out.cells mm3
  go_wp2_with fail
  clear a28 b28 d28
  have H25 := L27
  clear L27
  generalize (w24.alloc (.cells #[.int .i64 (t : Int), .int .i64 (r : Int), .slice A24 (t * r) c24] 27)) = w25 at *
  refine (turnR H25.out (r := s) (c := r) mm3 rfl ⟨rfl, rfl⟩ (by have := HD.out; omega) rfl r s (r * s) ⟨rfl, rfl, rfl⟩ (l := flat r s ma) (rfl)).mono ?_
  rintro e w26 ⟨A26, c26, rfl, h⟩
  have H26 := Lib.hid h
  clear h
  have L29 := Lib.hid (H26.out.put #[.int .i64 (r : Int), .int .i64 (s : Int), .slice A26 (r * s) c26])
  obtain ⟨a30, b30, d30⟩ := L29.out.cells mm7
  obtain ⟨a31, b31, d31⟩ := L29.out.cells mm6
  go_wp2_with fail
  clear a30 b30 d30 a31 b31 d31
  have H27 := L29
  clear L29
  generalize (w26.alloc (.cells #[.int .i64 (r : Int), .int .i64 (s : Int), .slice A26 (r * s) c26] 27)) = w27 at *
  refine (sameR H27.out mm8 (flat_len _ _ _) mm7 (flat_len _ _ _) (v := true) (sameB_self _ _ _)).mono ?_
  rintro e w28 ⟨rfl, h⟩
  have H28 := Lib.hid h
  clear h
  obtain ⟨a32, b32, d32⟩ := H28.out.cells mm5
  obtain ⟨a33, b33, d33⟩ := H28.out.cells mm12
  go_wp2_with fail
  clear a32 b32 d32 a33 b33 d33
  refine (sameR H28.out mm5 (flat_len _ _ _) (.tail _ mm12) (flat_len _ _ _) (v := true) (sameB_self _ _ _)).mono ?_
  rintro e w29 ⟨rfl, h⟩
  have H29 := Lib.hid h
  clear h
  obtain ⟨a34, b34, d34⟩ := H29.out.cells mm1
  obtain ⟨a35, b35, d35⟩ := H29.out.cells mm2
  go_wp2_with fail
  clear a34 b34 d34 a35 b35 d35
  refine (sameR H29.out mm1 (flat_len _ _ _) mm2 (flat_len _ _ _) (v := true) (sameB_self _ _ _)).mono ?_
  rintro e w30 ⟨rfl, h⟩
  have H30 := Lib.hid h
  clear h
  obtain ⟨a36, b36, d36⟩ := H30.out.cells mm0
  obtain ⟨a37, b37, d37⟩ := H30.out.cells mm12
  go_wp2_with fail
  clear a36 b36 d36 a37 b37 d37
  refine (sameR H30.out mm0 (flat_len _ _ _) (.tail _ mm12) (flat_len _ _ _) (v := true) (sameB_self _ _ _)).mono ?_
  rintro e w31 ⟨rfl, h⟩
  have H31 := Lib.hid h
  clear h
  go_wp2_with fail
  refine (works_any _).mono ?_
  rintro e w32 ⟨rfl, hb⟩
  have H32 := Lib.hid (MS.keep H31.out hb)
  clear hb
  go_wp2_with fail
  go_ret
  exact ⟨rfl, H32.out.below⟩
theorem small_nat {r s : Nat} {n : Nat} (h : smallB 8 r s n = true) : r ≤ 8 ∧ s ≤ 8 := by have := of_decide_eq_true h; omega
theorem products_law (w : World) (Ra Ca : Int) (A : Option Addr) (la : List UInt8) (ca : Nat) (ga : Open.MtOk w Ra Ca A la ca) (Rb Cb : Int) (B : Option Addr) (lb : List UInt8) (cb : Nat) (gb : Open.MtOk w Rb Cb B lb cb) (Rc Cc : Int) (C : Option Addr) (lc : List UInt8) (cc : Nat) (gc : Open.MtOk w Rc Cc C lc cc) :
    Calls Try.prog 7 #[.agg #[.int .i64 Ra, .int .i64 Ca, .slice A la.length ca], .agg #[.int .i64 Rb, .int .i64 Cb, .slice B lb.length cb], .agg #[.int .i64 Rc, .int .i64 Cc, .slice C lc.length cc]] w fun e w' => e = .returned (.bool true) ∧ Below w.heap.size w w' := by
 cases hsa : smallB 8 Ra Ca la.length with
 | false => exact products_out0 w Ra Ca A la _ ca rfl ga.row ga.le Rb Cb B lb _ cb rfl gb.row gb.le Rc Cc C lc _ cc rfl gc.row gc.le hsa
 | true =>
 cases hsb : smallB 8 Rb Cb lb.length with
 | false => exact products_out1 w Ra Ca A la _ ca rfl ga.row ga.le Rb Cb B lb _ cb rfl gb.row gb.le Rc Cc C lc _ cc rfl gc.row gc.le hsa hsb
 | true =>
 cases hsc : smallB 8 Rc Cc lc.length with
 | false => exact products_out2 w Ra Ca A la _ ca rfl ga.row ga.le Rb Cb B lb _ cb rfl gb.row gb.le Rc Cc C lc _ cc rfl gc.row gc.le hsa hsb hsc
 | true =>
 cases hm0 : mulB Ra Ca la.length Rb Cb lb.length with
 | false =>
  cases hm1 : mulB Rb Cb lb.length Rc Cc lc.length with
  | false => exact products_bad0 w Ra Ca A la _ ca rfl ga.row ga.le Rb Cb B lb _ cb rfl gb.row gb.le Rc Cc C lc _ cc rfl gc.row gc.le hsa hsb hsc hm0 hm1
  | true =>
   obtain ⟨s, t, u, rfl, rfl, rfl, rfl, e1, e2⟩ := mul_nat hm1
   have d1 := small_nat hsb; have d2 := small_nat hsc
   rw [e1] at hm0
   rw [e1, e2]
   exact products_bad1 w s t u ⟨d1.1, d1.2, d2.2⟩ Ra Ca A la _ ca rfl ga.row ga.le B cb (ent lb t) (by rw [flat_ent e1]; exact gb.row) (by rw [flat_ent e1]; exact gb.le) C cc (ent lc u) (by rw [flat_ent e2]; exact gc.row) (by rw [flat_ent e2]; exact gc.le) hsa hm0
 | true =>
  cases hm1 : mulB Rb Cb lb.length Rc Cc lc.length with
  | false =>
   obtain ⟨r, s, t, rfl, rfl, rfl, rfl, e1, e2⟩ := mul_nat hm0
   have d1 := small_nat hsa; have d2 := small_nat hsb
   rw [e2] at hm1
   rw [e1, e2]
   exact products_bad2 w r s t ⟨d1.1, d1.2, d2.2⟩ A ca (ent la s) (by rw [flat_ent e1]; exact ga.row) (by rw [flat_ent e1]; exact ga.le) B cb (ent lb t) (by rw [flat_ent e2]; exact gb.row) (by rw [flat_ent e2]; exact gb.le) Rc Cc C lc _ cc rfl gc.row gc.le hsc hm1
  | true =>
   obtain ⟨r, s, t, rfl, rfl, rfl, rfl, e1, e2⟩ := mul_nat hm0
   obtain ⟨s', t', u, k1, k2, k3, rfl, e3, e4⟩ := mul_nat hm1
   obtain rfl : s = s' := Int.ofNat.inj k1
   obtain rfl : t = t' := Int.ofNat.inj k2
   subst k3
   have d1 := small_nat hsa; have d2 := small_nat hsb; have d3 := small_nat hsc
   rw [e1, e2, e4]
   exact products_ok w r s t u ⟨d1.1, d1.2, d2.2, d3.2⟩ A ca (ent la s) (by rw [flat_ent e1]; exact ga.row) (by rw [flat_ent e1]; exact ga.le) B cb (ent lb t) (by rw [flat_ent e2]; exact gb.row) (by rw [flat_ent e2]; exact gb.le) C cc (ent lc u) (by rw [flat_ent e4]; exact gc.row) (by rw [flat_ent e4]; exact gc.le)
end Go.Proofs.Ythdapoipfnnaeaa.MxW
/- The law MatrixSolves: its walk, in one. -/
namespace Go.Proofs.Ythdapoipfnnaeaa.MxW
open Go.RowKit Go.Shelf Mem Gf FdW Mx Rng
open PlW (In)
set_option linter.unusedVariables false
set_option linter.unusedSectionVars false
attribute [local go_sem] Oper.semAt_some wide_fn
theorem sol_nat {r c n n' : Nat} {R' C' : Int} (h : solB (r : Int) (c : Int) n R' C' n' = true) : ∃ d : Nat, R' = r ∧ C' = d ∧ n' = r * d := by
 unfold solB at h
 rw [Bool.and_eq_true, Bool.and_eq_true] at h
 obtain ⟨r', d, rfl, rfl, _, _, e⟩ := right_nat h.1.2
 have e3 : r = r' := by have := h.2; simp at this; omega
 subst e3
 exact ⟨d, rfl, rfl, e⟩
theorem mulx_nat {r c n nx : Nat} {Rx Cx : Int} (hs : smallB 8 Rx Cx nx = true) (h : mulB (r : Int) (c : Int) n Rx Cx nx = true) : ∃ d : Nat, Rx = (c : Int) ∧ Cx = (d : Int) ∧ nx = c * d ∧ d ≤ 8 := by
 obtain ⟨r', s, t, k1, k2, k3, k4, _, k6⟩ := mul_nat h
 have hd := of_decide_eq_true hs
 obtain rfl : c = s := Int.ofNat.inj k2
 exact ⟨t, k3, k4, k6, by omega⟩
set_option maxRecDepth 100000 in
set_option maxHeartbeats 40000000 in
theorem solves_in (w : World) (r c : Nat) (hd : r ≤ 8 ∧ c ≤ 8) (A : Option Addr) (ca : Nat) (ma : M) (hA : Bytes w w.heap.size A (flat r c ma)) (hca : (flat r c ma).length ≤ ca) (Rx Cx : Int) (X : Option Addr) (lx : List UInt8) (nx cx : Nat) (hlx : lx.length = nx) (hX : Bytes w w.heap.size X lx) (hcx : lx.length ≤ cx) (Rb Cb : Int) (B : Option Addr) (lb : List UInt8) (nb cb : Nat) (hlb : lb.length = nb) (hB : Bytes w w.heap.size B lb) (hcb : lb.length ≤ cb) (hsx : smallB 8 Rx Cx nx = true) (hsb : smallB 8 Rb Cb nb = true)  :
    Calls Try.prog 5 #[.agg #[.int .i64 (r : Int), .int .i64 (c : Int), .slice A (r * c) ca], .agg #[.int .i64 Rx, .int .i64 Cx, .slice X nx cx], .agg #[.int .i64 Rb, .int .i64 Cb, .slice B nb cb]] w fun e w' => e = .returned (.bool true) ∧ Below w.heap.size w w' := by
 have H0 := Lib.hid ((((MS.start w).arg hA hca).arg hX hcx).arg hB hcb)
 have HLNx := Lib.hid hlx
 have HLNb := Lib.hid hlb
 have HSa := Lib.hid (small8 (r := r) (s := c) (by omega) (by omega))
 have HSx := Lib.hid hsx
 have HSb := Lib.hid hsb
 have HD := Lib.hid hd
 obtain ⟨k, hk⟩ : ∃ k, rankM r c ma = k := ⟨_, rfl⟩
 have HK := Lib.hid hk
 have HKM := Lib.hid (show k ≤ r ∧ k ≤ c from by have := rank_min r c ma; omega)
 obtain ⟨mn, hmn⟩ : ∃ mn, min (r : Int) (c : Int) = mn := ⟨_, rfl⟩
 have m1 := fun W => run_min2 (r : Int) (c : Int) mn hmn W
 have hkm : ¬ mn < (k : Int) := by have := HKM.out; omega
 clear hA hca hX hcx hlx hB hcb hlb hsx hsb hd hmn hk
 go_enter Try.func5, Try.ntmps5
 have L1 := Lib.hid (H0.out.put #[.int .i64 (r : Int), .int .i64 (c : Int), .slice A (r * c) ca])
 have L2 := Lib.hid (show MS _ _ _ ((w.heap.size + 1, #[.int .i64 Rx, .int .i64 Cx, .slice X nx cx]) :: _) ((w.alloc (.cells #[.int .i64 (r : Int), .int .i64 (c : Int), .slice A (r * c) ca] 27)).alloc (.cells #[.int .i64 Rx, .int .i64 Cx, .slice X nx cx] 27)) from by have h := L1.out.put #[.int .i64 Rx, .int .i64 Cx, .slice X nx cx]; (try simp only [World.size_alloc] at h); exact h)
 have L3 := Lib.hid (show MS _ _ _ ((w.heap.size + 1 + 1, #[.int .i64 Rb, .int .i64 Cb, .slice B nb cb]) :: _) (((w.alloc (.cells #[.int .i64 (r : Int), .int .i64 (c : Int), .slice A (r * c) ca] 27)).alloc (.cells #[.int .i64 Rx, .int .i64 Cx, .slice X nx cx] 27)).alloc (.cells #[.int .i64 Rb, .int .i64 Cb, .slice B nb cb] 27)) from by have h := L2.out.put #[.int .i64 Rb, .int .i64 Cb, .slice B nb cb]; (try simp only [World.size_alloc] at h); exact h)
 obtain ⟨a4, b4, d4⟩ := L3.out.cells mm2
 go_wp2_with fail
 clear a4 b4 d4
 have H1 := L3
 clear L1 L2 L3
 generalize (((w.alloc (.cells #[.int .i64 (r : Int), .int .i64 (c : Int), .slice A (r * c) ca] 27)).alloc (.cells #[.int .i64 Rx, .int .i64 Cx, .slice X nx cx] 27)).alloc (.cells #[.int .i64 Rb, .int .i64 Cb, .slice B nb cb] 27)) = w1 at *
 refine (smallR H1.out 8 (by decide) (v := true) HSa.out).mono ?_
 rintro e w2 ⟨rfl, h⟩
 have H2 := Lib.hid h
 clear h
 obtain ⟨a5, b5, d5⟩ := H2.out.cells mm1
 go_wp2_with fail
 clear a5 b5 d5
 refine (smallR H2.out 8 (by decide) (v := true) HSx.out).mono ?_
 rintro e w3 ⟨rfl, h⟩
 have H3 := Lib.hid h
 clear h
 obtain ⟨a6, b6, d6⟩ := H3.out.cells mm0
 go_wp2_with fail
 clear a6 b6 d6
 refine (smallR H3.out 8 (by decide) (v := true) HSb.out).mono ?_
 rintro e w4 ⟨rfl, h⟩
 have H4 := Lib.hid h
 clear h
 obtain ⟨a7, b7, d7⟩ := H4.out.cells mm2
 go_wp2_with fail
 clear a7 b7 d7
 refine (rightR H4.out (v := true) (right_dim (by have := HD.out; omega) rfl)).mono ?_
 rintro e w5 ⟨rfl, h⟩
 have H5 := Lib.hid h
 clear h
 go_wp2_with fail
 refine (newR H5.out).mono ?_
 rintro e w6 ⟨rfl, h⟩
 have H6 := Lib.hid h
 clear h
 obtain ⟨a8, b8, d8⟩ := H6.out.cells mm2
 go_wp2_with fail
 clear a8 b8 d8
 refine (rankR H6.out (r := r) (c := c) mm2 rfl ⟨rfl, rfl⟩ (by have := HD.out; omega) rfl (k : Int) (by rw [HK.out])).mono ?_
 rintro e w7 ⟨rfl, h⟩
 have H7 := Lib.hid h
 clear h
 obtain ⟨a9, b9, d9⟩ := H7.out.cells mm2
 go_upto_region 7 with fail
 clear a9 b9 d9
 go_cut [10, 11] (fun s10 s11 wx => (∃ z, s10 = .pointer (some ⟨z, 0, none⟩) ∧ s11 = .int .i64 50 ∧ MS w (some w5.heap.size) ([⟨B, lb, cb⟩, ⟨X, lx, cx⟩, ⟨A, flat r c ma, ca⟩]) ((z, #[.int .i64 0, .int .i64 0, .slice none 0 0]) :: [(w.heap.size + 1 + 1, #[.int .i64 Rb, .int .i64 Cb, .slice B nb cb]), (w.heap.size + 1, #[.int .i64 Rx, .int .i64 Cx, .slice X nx cx]), (w.heap.size, #[.int .i64 (r : Int), .int .i64 (c : Int), .slice A (r * c) ca])]) wx) ∨ (∃ (d z : Nat) (A1 : Option Addr) (c1 : Nat), (Rx = (c : Int) ∧ Cx = (d : Int) ∧ nx = c * d ∧ d ≤ 8) ∧ s10 = .pointer (some ⟨z, 0, none⟩) ∧ s11 = .int .i64 0 ∧ MS w (some w5.heap.size) (⟨A1, flat r d (mulM c ma (ent lx d)), c1⟩ :: [⟨B, lb, cb⟩, ⟨X, lx, cx⟩, ⟨A, flat r c ma, ca⟩]) ((z, #[.int .i64 (r : Int), .int .i64 Cx, .slice A1 (r * d) c1]) :: [(w.heap.size + 1 + 1, #[.int .i64 Rb, .int .i64 Cb, .slice B nb cb]), (w.heap.size + 1, #[.int .i64 Rx, .int .i64 Cx, .slice X nx cx]), (w.heap.size, #[.int .i64 (r : Int), .int .i64 (c : Int), .slice A (r * c) ca])]) wx))
 case first =>
  cases hm : mulB (r : Int) (c : Int) (r * c) Rx Cx nx with
  | false =>
   have HM := Lib.hid hm
   clear hm
   obtain ⟨a10, b10, d10⟩ := H7.out.cells mm2
   obtain ⟨a11, b11, d11⟩ := H7.out.cells mm1
   go_wp2_with fail
   clear a10 b10 d10 a11 b11 d11
   refine (mul0R H7.out HM.out).mono ?_
   rintro e w8 ⟨rfl, h⟩
   have H8 := Lib.hid h
   clear h
   have L12 := Lib.hid (H8.out.put #[.int .i64 0, .int .i64 0, .slice none 0 0])
   go_wp2_with fail
   have H9 := L12
   clear L12
   generalize (w8.alloc (.cells #[.int .i64 0, .int .i64 0, .slice none 0 0] 27)) = w9 at *
   go_meet
   exact .inl ⟨_, rfl, rfl, H9.out⟩
  | true =>
   obtain ⟨d, hm⟩ := mulx_nat HSx.out hm
   have HM := Lib.hid hm
   have HMX := Lib.hid (show lx = flat c d (ent lx d) from (flat_ent (by rw [HLNx.out]; exact hm.2.2.1)).symm)
   clear hm
   obtain ⟨a10, b10, d10⟩ := H7.out.cells mm2
   obtain ⟨a11, b11, d11⟩ := H7.out.cells mm1
   go_wp2_with fail
   clear a10 b10 d10 a11 b11 d11
   refine (mulR H7.out (r := r) (c := c) (d := d) mm2 mm1 rfl HM.out.2.2.1 ⟨rfl, rfl, HM.out.1, HM.out.2.1⟩ (by have := HD.out; have := HM.out.2.2.2; omega) rfl HMX.out r Cx (r * d) ⟨rfl, HM.out.2.1, rfl⟩ rfl).mono ?_
   rintro e w8 ⟨A8, c8, rfl, h⟩
   have H8 := Lib.hid h
   clear h
   have L12 := Lib.hid (H8.out.put #[.int .i64 (r : Int), .int .i64 Cx, .slice A8 (r * d) c8])
   go_wp2_with fail
   have H9 := L12
   clear L12
   generalize (w8.alloc (.cells #[.int .i64 (r : Int), .int .i64 Cx, .slice A8 (r * d) c8] 27)) = w9 at *
   go_meet
   exact .inr ⟨d, _, _, _, HM.out, rfl, rfl, H9.out⟩
 case rest =>
 go_upto_region 8 with fail
 obtain ⟨wq, hwq⟩ : ∃ x, wc = x := ⟨_, rfl⟩
 rw [hwq] at hcut ⊢
 clear hwq
 go_cut [10, 69] (fun s10 s69 wx => (∃ z, s10 = .pointer (some ⟨z, 0, none⟩) ∧ s69 = .bool false ∧ MS w (some w5.heap.size) ([⟨B, lb, cb⟩, ⟨X, lx, cx⟩, ⟨A, flat r c ma, ca⟩]) ((z, #[.int .i64 0, .int .i64 0, .slice none 0 0]) :: [(w.heap.size + 1 + 1, #[.int .i64 Rb, .int .i64 Cb, .slice B nb cb]), (w.heap.size + 1, #[.int .i64 Rx, .int .i64 Cx, .slice X nx cx]), (w.heap.size, #[.int .i64 (r : Int), .int .i64 (c : Int), .slice A (r * c) ca])]) wx) ∨ (∃ (d z : Nat) (A1 : Option Addr) (c1 : Nat), (Rx = (c : Int) ∧ Cx = (d : Int) ∧ nx = c * d ∧ d ≤ 8) ∧ s10 = .pointer (some ⟨z, 0, none⟩) ∧ s69 = .bool true ∧ MS w (some w5.heap.size) (⟨A1, flat r d (mulM c ma (ent lx d)), c1⟩ :: [⟨B, lb, cb⟩, ⟨X, lx, cx⟩, ⟨A, flat r c ma, ca⟩]) ((z, #[.int .i64 (r : Int), .int .i64 Cx, .slice A1 (r * d) c1]) :: [(w.heap.size + 1 + 1, #[.int .i64 Rb, .int .i64 Cb, .slice B nb cb]), (w.heap.size + 1, #[.int .i64 Rx, .int .i64 Cx, .slice X nx cx]), (w.heap.size, #[.int .i64 (r : Int), .int .i64 (c : Int), .slice A (r * c) ca])]) wx))
 case first =>
  rcases hcut with ⟨z, rfl, rfl, h⟩ | ⟨d, z, A1, c1, hm, rfl, rfl, h⟩
  ·go_wp2_with fail
   go_meet
   exact .inl ⟨_, rfl, rfl, h⟩
  ·go_wp2_with fail
   go_meet
   exact .inr ⟨d, _, _, _, hm, rfl, rfl, h⟩
 case rest =>
 go_upto_if 69 with fail
 obtain ⟨wr, hwr⟩ : ∃ x, wc = x := ⟨_, rfl⟩
 rw [hwr] at hcut ⊢
 clear hwr
 go_cut [] (fun wx => MS w (some w5.heap.size) ([⟨B, lb, cb⟩, ⟨X, lx, cx⟩, ⟨A, flat r c ma, ca⟩]) ([(w.heap.size + 1 + 1, #[.int .i64 Rb, .int .i64 Cb, .slice B nb cb]), (w.heap.size + 1, #[.int .i64 Rx, .int .i64 Cx, .slice X nx cx]), (w.heap.size, #[.int .i64 (r : Int), .int .i64 (c : Int), .slice A (r * c) ca])]) wx)
 case first =>
  rcases hcut with ⟨z, rfl, rfl, h⟩ | ⟨d, z, A1, c1, hm, rfl, rfl, h⟩
  ·have H90 := Lib.hid h
   clear h
   go_wp2_with fail
   go_meet
   exact H90.out.sub (fun _ h => h) (fun _ h => .tail _ h)
  ·have H90 := Lib.hid h
   have HM := Lib.hid hm
   have HMX := Lib.hid (show lx = flat c d (ent lx d) from (flat_ent (by rw [HLNx.out]; exact hm.2.2.1)).symm)
   clear h hm
   by_cases hkc : rankM r c ma = c
   ·have HKC := Lib.hid hkc
    have hkc1 : ((k : Int) == (c : Int)) = true := by have := HK.out; simp; omega
    clear hkc
    obtain ⟨a10, b10, d10⟩ := H90.out.cells mm3
    obtain ⟨a11, b11, d11⟩ := H90.out.cells mm0
    go_wp2_with fail
    clear a10 b10 d10 a11 b11 d11
    refine (solveR H90.out (r := r) (c := c) (d := d) mm3 mm0 rfl rfl ⟨rfl, rfl, rfl, HM.out.2.1⟩ (by have := HD.out; have := HM.out.2.2.2; omega) rfl rfl (solve_full HKC.out).1 Rx Cx nx ⟨HM.out.1, HM.out.2.1, HM.out.2.2.1⟩ (l := lx) ((solve_full HKC.out).2.trans HMX.out.symm)).mono ?_
    rintro e w91 ⟨A91, c91, rfl, h⟩
    have H91 := Lib.hid h
    clear h
    have L12 := Lib.hid (H91.out.put #[.int .i64 Rx, .int .i64 Cx, .slice A91 nx c91])
    obtain ⟨a13, b13, d13⟩ := L12.out.cells mm4
    obtain ⟨a14, b14, d14⟩ := L12.out.cells mm3
    obtain ⟨a15, b15, d15⟩ := L12.out.cells mm0
    go_wp2_with fail
    clear a13 b13 d13 a14 b14 d14 a15 b15 d15
    have H92 := L12
    clear L12
    generalize (w91.alloc (.cells #[.int .i64 Rx, .int .i64 Cx, .slice A91 nx c91] 27)) = w92 at *
    refine (sameR H92.out mm0 HLNx.out mm3 HLNx.out (v := true) (sameB_self _ _ _)).mono ?_
    rintro e w93 ⟨rfl, h⟩
    have H93 := Lib.hid h
    clear h
    go_wp2_with fail
    go_meet
    exact H93.out.sub (fun _ h => .tail _ (.tail _ h)) (fun _ h => .tail _ (.tail _ h))
   ·have HKC := Lib.hid hkc
    have hkc1 : ((k : Int) == (c : Int)) = false := by have := HK.out; simp; omega
    clear hkc
    obtain ⟨a10, b10, d10⟩ := H90.out.cells mm3
    obtain ⟨a11, b11, d11⟩ := H90.out.cells mm0
    go_wp2_with fail
    clear a10 b10 d10 a11 b11 d11
    refine (solve1R H90.out (r := r) (c := c) (d := d) mm3 mm0 rfl rfl ⟨rfl, rfl, rfl, HM.out.2.1⟩ (by have := HD.out; have := HM.out.2.2.2; omega) rfl rfl (solve_less HKC.out)).mono ?_
    rintro e w91 ⟨rfl, h⟩
    have H91 := Lib.hid h
    clear h
    have L12 := Lib.hid (H91.out.put #[.int .i64 0, .int .i64 0, .slice none 0 0])
    obtain ⟨a13, b13, d13⟩ := L12.out.cells mm4
    go_wp2_with fail
    clear a13 b13 d13
    have H92 := L12
    clear L12
    generalize (w91.alloc (.cells #[.int .i64 0, .int .i64 0, .slice none 0 0] 27)) = w92 at *
    go_meet
    exact H92.out.sub (fun _ h => .tail _ h) (fun _ h => .tail _ (.tail _ h))
 case rest =>
 obtain ⟨wt, hwwt⟩ : ∃ x, wc = x := ⟨_, rfl⟩
 rw [hwwt] at hcut ⊢
 clear hwwt
 have H120 := Lib.hid hcut
 clear hcut
 go_upto_region 12 with fail
 go_cut [14, 15] (fun s14 s15 wx => (∃ (z : Nat) (e : Int), s14 = .pointer (some ⟨z, 0, none⟩) ∧ (e == 0) = false ∧ s15 = .int .i64 e ∧ MS w (some w5.heap.size) ([⟨B, lb, cb⟩, ⟨X, lx, cx⟩, ⟨A, flat r c ma, ca⟩]) ((z, #[.int .i64 0, .int .i64 0, .slice none 0 0]) :: [(w.heap.size + 1 + 1, #[.int .i64 Rb, .int .i64 Cb, .slice B nb cb]), (w.heap.size + 1, #[.int .i64 Rx, .int .i64 Cx, .slice X nx cx]), (w.heap.size, #[.int .i64 (r : Int), .int .i64 (c : Int), .slice A (r * c) ca])]) wx) ∨ (∃ (d z : Nat) (A1 : Option Addr) (c1 : Nat), (Rb = (r : Int) ∧ Cb = (d : Int) ∧ nb = r * d ∧ d ≤ 8) ∧ solves r c d ma (ent lb d) = true ∧ s14 = .pointer (some ⟨z, 0, none⟩) ∧ s15 = .int .i64 0 ∧ MS w (some w5.heap.size) (⟨A1, flat c d (redTo r ma (ent lb d) c).B, c1⟩ :: [⟨B, lb, cb⟩, ⟨X, lx, cx⟩, ⟨A, flat r c ma, ca⟩]) ((z, #[.int .i64 (c : Int), .int .i64 Cb, .slice A1 (c * d) c1]) :: [(w.heap.size + 1 + 1, #[.int .i64 Rb, .int .i64 Cb, .slice B nb cb]), (w.heap.size + 1, #[.int .i64 Rx, .int .i64 Cx, .slice X nx cx]), (w.heap.size, #[.int .i64 (r : Int), .int .i64 (c : Int), .slice A (r * c) ca])]) wx))
 case first =>
  cases hb : solB (r : Int) (c : Int) (r * c) Rb Cb nb with
  | false =>
   have HB := Lib.hid hb
   clear hb
   obtain ⟨a10, b10, d10⟩ := H120.out.cells mm2
   obtain ⟨a11, b11, d11⟩ := H120.out.cells mm0
   go_wp2_with fail
   clear a10 b10 d10 a11 b11 d11
   refine (solve0R H120.out _ HB.out).mono ?_
   rintro e w121 ⟨rfl, h⟩
   have H121 := Lib.hid h
   clear h
   have L12 := Lib.hid (H121.out.put #[.int .i64 0, .int .i64 0, .slice none 0 0])
   go_wp2_with fail
   have H122 := L12
   clear L12
   generalize (w121.alloc (.cells #[.int .i64 0, .int .i64 0, .slice none 0 0] 27)) = w122 at *
   go_meet
   exact .inl ⟨_, 50, rfl, rfl, rfl, H122.out⟩
  | true =>
   obtain ⟨d, hb1, hb2, hb3⟩ := sol_nat hb
   have HB := Lib.hid (And.intro hb1 (And.intro hb2 (And.intro hb3 (show d ≤ 8 from by have h := of_decide_eq_true HSb.out; omega))))
   have HMB := Lib.hid (show lb = flat r d (ent lb d) from (flat_ent (by rw [HLNb.out]; exact HB.out.2.2.1)).symm)
   clear hb hb1 hb2 hb3
   cases hs : solves r c d ma (ent lb d) with
   | false =>
    have HT := Lib.hid hs
    clear hs
    obtain ⟨a10, b10, d10⟩ := H120.out.cells mm2
    obtain ⟨a11, b11, d11⟩ := H120.out.cells mm0
    go_wp2_with fail
    clear a10 b10 d10 a11 b11 d11
    refine (solve1R H120.out (r := r) (c := c) (d := d) mm2 mm0 rfl HB.out.2.2.1 ⟨rfl, rfl, HB.out.1, HB.out.2.1⟩ (by have := HD.out; have := HB.out.2.2.2; omega) rfl HMB.out HT.out).mono ?_
    rintro e w121 ⟨rfl, h⟩
    have H121 := Lib.hid h
    clear h
    have L12 := Lib.hid (H121.out.put #[.int .i64 0, .int .i64 0, .slice none 0 0])
    go_wp2_with fail
    have H122 := L12
    clear L12
    generalize (w121.alloc (.cells #[.int .i64 0, .int .i64 0, .slice none 0 0] 27)) = w122 at *
    go_meet
    exact .inl ⟨_, _, rfl, (by decide), rfl, H122.out⟩
   | true =>
    have HT := Lib.hid hs
    clear hs
    obtain ⟨a10, b10, d10⟩ := H120.out.cells mm2
    obtain ⟨a11, b11, d11⟩ := H120.out.cells mm0
    go_wp2_with fail
    clear a10 b10 d10 a11 b11 d11
    refine (solveR H120.out (r := r) (c := c) (d := d) mm2 mm0 rfl HB.out.2.2.1 ⟨rfl, rfl, HB.out.1, HB.out.2.1⟩ (by have := HD.out; have := HB.out.2.2.2; omega) rfl HMB.out HT.out c Cb (c * d) ⟨rfl, HB.out.2.1, rfl⟩ rfl).mono ?_
    rintro e w121 ⟨A121, c121, rfl, h⟩
    have H121 := Lib.hid h
    clear h
    have L12 := Lib.hid (H121.out.put #[.int .i64 (c : Int), .int .i64 Cb, .slice A121 (c * d) c121])
    go_wp2_with fail
    have H122 := L12
    clear L12
    generalize (w121.alloc (.cells #[.int .i64 (c : Int), .int .i64 Cb, .slice A121 (c * d) c121] 27)) = w122 at *
    go_meet
    exact .inr ⟨d, _, _, _, HB.out, HT.out, rfl, rfl, H122.out⟩
 case rest =>
 go_upto_region 13 with fail
 obtain ⟨wu, hwwu⟩ : ∃ x, wc = x := ⟨_, rfl⟩
 rw [hwwu] at hcut ⊢
 clear hwwu
 go_cut [14, 102] (fun s14 s102 wx => (∃ (z : Nat) (e : Int), s14 = .pointer (some ⟨z, 0, none⟩) ∧ (e == 0) = false ∧ s102 = .bool false ∧ MS w (some w5.heap.size) ([⟨B, lb, cb⟩, ⟨X, lx, cx⟩, ⟨A, flat r c ma, ca⟩]) ((z, #[.int .i64 0, .int .i64 0, .slice none 0 0]) :: [(w.heap.size + 1 + 1, #[.int .i64 Rb, .int .i64 Cb, .slice B nb cb]), (w.heap.size + 1, #[.int .i64 Rx, .int .i64 Cx, .slice X nx cx]), (w.heap.size, #[.int .i64 (r : Int), .int .i64 (c : Int), .slice A (r * c) ca])]) wx) ∨ (∃ (d z : Nat) (A1 : Option Addr) (c1 : Nat), (Rb = (r : Int) ∧ Cb = (d : Int) ∧ nb = r * d ∧ d ≤ 8) ∧ solves r c d ma (ent lb d) = true ∧ s14 = .pointer (some ⟨z, 0, none⟩) ∧ s102 = .bool true ∧ MS w (some w5.heap.size) (⟨A1, flat c d (redTo r ma (ent lb d) c).B, c1⟩ :: [⟨B, lb, cb⟩, ⟨X, lx, cx⟩, ⟨A, flat r c ma, ca⟩]) ((z, #[.int .i64 (c : Int), .int .i64 Cb, .slice A1 (c * d) c1]) :: [(w.heap.size + 1 + 1, #[.int .i64 Rb, .int .i64 Cb, .slice B nb cb]), (w.heap.size + 1, #[.int .i64 Rx, .int .i64 Cx, .slice X nx cx]), (w.heap.size, #[.int .i64 (r : Int), .int .i64 (c : Int), .slice A (r * c) ca])]) wx))
 case first =>
  rcases hcut with ⟨z, e, rfl, he, rfl, h⟩ | ⟨d, z, A1, c1, hm, hs, rfl, rfl, h⟩
  ·go_wp2_with fail
   go_meet
   exact .inl ⟨_, e, rfl, he, rfl, h⟩
  ·go_wp2_with fail
   go_meet
   exact .inr ⟨d, _, _, _, hm, hs, rfl, rfl, h⟩
 case rest =>
 go_upto_if 102 with fail
 obtain ⟨wv, hwwv⟩ : ∃ x, wc = x := ⟨_, rfl⟩
 rw [hwwv] at hcut ⊢
 clear hwwv
 go_cut [] (fun wx => MS w (some w5.heap.size) ([⟨B, lb, cb⟩, ⟨X, lx, cx⟩, ⟨A, flat r c ma, ca⟩]) ([(w.heap.size + 1 + 1, #[.int .i64 Rb, .int .i64 Cb, .slice B nb cb]), (w.heap.size + 1, #[.int .i64 Rx, .int .i64 Cx, .slice X nx cx]), (w.heap.size, #[.int .i64 (r : Int), .int .i64 (c : Int), .slice A (r * c) ca])]) wx)
 case first =>
  rcases hcut with ⟨z, e, rfl, he, rfl, h⟩ | ⟨d, z, A1, c1, hm, hs, rfl, rfl, h⟩
  ·have H190 := Lib.hid h
   clear h he
   go_wp2_with fail
   go_meet
   exact H190.out.sub (fun _ h => h) (fun _ h => .tail _ h)
  ·have H190 := Lib.hid h
   have HB := Lib.hid hm
   have HT := Lib.hid hs
   have HMB := Lib.hid (show lb = flat r d (ent lb d) from (flat_ent (by rw [HLNb.out]; exact HB.out.2.2.1)).symm)
   clear h hm hs
   obtain ⟨a10, b10, d10⟩ := H190.out.cells mm3
   obtain ⟨a11, b11, d11⟩ := H190.out.cells mm0
   go_wp2_with fail
   clear a10 b10 d10 a11 b11 d11
   refine (mulR H190.out (r := r) (c := c) (d := d) mm3 mm0 rfl rfl ⟨rfl, rfl, rfl, HB.out.2.1⟩ (by have := HD.out; have := HB.out.2.2.2; omega) rfl rfl Rb Cb nb ⟨HB.out.1, HB.out.2.1, HB.out.2.2.1⟩ (l := lb) ((solve_is HT.out).trans HMB.out.symm)).mono ?_
   rintro e w191 ⟨A191, c191, rfl, h⟩
   have H191 := Lib.hid h
   clear h
   have L12 := Lib.hid (H191.out.put #[.int .i64 Rb, .int .i64 Cb, .slice A191 nb c191])
   obtain ⟨a13, b13, d13⟩ := L12.out.cells mm0
   obtain ⟨a14, b14, d14⟩ := L12.out.cells mm2
   go_wp2_with fail
   clear a13 b13 d13 a14 b14 d14
   have H192 := L12
   clear L12
   generalize (w191.alloc (.cells #[.int .i64 Rb, .int .i64 Cb, .slice A191 nb c191] 27)) = w192 at *
   refine (sameR H192.out mm0 HLNb.out mm2 HLNb.out (v := true) (sameB_self _ _ _)).mono ?_
   rintro e w193 ⟨rfl, h⟩
   have H193 := Lib.hid h
   clear h
   go_wp2_with fail
   go_meet
   exact H193.out.sub (fun _ h => .tail _ (.tail _ h)) (fun _ h => .tail _ (.tail _ h))
 case rest =>
 obtain ⟨wz, hwwz⟩ : ∃ x, wc = x := ⟨_, rfl⟩
 rw [hwwz] at hcut ⊢
 clear hwwz
 have H220 := Lib.hid hcut
 clear hcut
 obtain ⟨a10, b10, d10⟩ := H220.out.cells mm2
 go_wp2_with fail
 clear a10 b10 d10
 by_cases hrc : r = c
 ·have HRC := Lib.hid (show c = r from hrc.symm)
  have hrc1 : ((r : Int) != (c : Int)) = false := by simp; omega
  clear hrc
  cases hi : solves r r r ma idm with
  | false =>
   have HI := Lib.hid hi
   have hkr : (k : Int) < (r : Int) := by
    have h1 := HK.out; have h2 := HKM.out
    have h3 : k ≠ r := fun e => by
     rw [HRC.out] at h1
     rw [solve_sq (h1.trans e)] at hi; cases hi
    omega
   clear hi
   refine (inv1R H220.out (r := r) mm2 (by rw [HRC.out]) ⟨rfl, by rw [HRC.out]⟩ (by have := HD.out; omega) (by rw [HRC.out]) HI.out).mono ?_
   rintro e w221 ⟨rfl, h⟩
   have H221 := Lib.hid h
   clear h
   obtain ⟨a11, b11, d11⟩ := H221.out.cells mm2
   have L12 := Lib.hid (H221.out.put #[.int .i64 0, .int .i64 0, .slice none 0 0])
   obtain ⟨a13, b13, d13⟩ := L12.out.cells mm3
   go_wp2_with fail
   clear a11 b11 d11 a13 b13 d13
   have H222 := L12
   clear L12
   generalize (w221.alloc (.cells #[.int .i64 0, .int .i64 0, .slice none 0 0] 27)) = w222 at *
   refine (works_any _).mono ?_
   rintro e w223 ⟨rfl, hb⟩
   have H223 := Lib.hid (MS.keep H222.out hb)
   clear hb
   go_wp2_with fail
   go_ret
   exact ⟨rfl, H223.out.below⟩
  | true =>
   have HI := Lib.hid hi
   have hkr : ((k : Int) == (r : Int)) = true := by
    have h1 := HK.out; have h2 := solve_rank hi
    rw [HRC.out] at h1; simp; omega
   clear hi
   refine (invR H220.out (r := r) mm2 (by rw [HRC.out]) ⟨rfl, by rw [HRC.out]⟩ (by have := HD.out; omega) (by rw [HRC.out]) HI.out r (r * r) ⟨rfl, rfl⟩ rfl).mono ?_
   rintro e w221 ⟨A221, c221, rfl, h⟩
   have H221 := Lib.hid h
   clear h
   obtain ⟨a11, b11, d11⟩ := H221.out.cells mm2
   have L12 := Lib.hid (H221.out.put #[.int .i64 (r : Int), .int .i64 (r : Int), .slice A221 (r * r) c221])
   obtain ⟨a13, b13, d13⟩ := L12.out.cells mm3
   obtain ⟨a14, b14, d14⟩ := L12.out.cells mm0
   go_wp2_with fail
   clear a11 b11 d11 a13 b13 d13 a14 b14 d14
   have H222 := L12
   clear L12
   generalize (w221.alloc (.cells #[.int .i64 (r : Int), .int .i64 (r : Int), .slice A221 (r * r) c221] 27)) = w222 at *
   refine (mulR H222.out (r := r) (c := r) (d := r) mm3 mm0 (by rw [HRC.out]) rfl ⟨rfl, by rw [HRC.out], rfl, rfl⟩ (by have := HD.out; omega) (by rw [HRC.out]) rfl r r (r * r) ⟨rfl, rfl, rfl⟩ (l := flat r r idm) (inv_right HI.out)).mono ?_
   rintro e w223 ⟨A223, c223, rfl, h⟩
   have H223 := Lib.hid h
   clear h
   have L15 := Lib.hid (H223.out.put #[.int .i64 (r : Int), .int .i64 (r : Int), .slice A223 (r * r) c223])
   obtain ⟨a16, b16, d16⟩ := L15.out.cells mm4
   obtain ⟨a17, b17, d17⟩ := L15.out.cells mm1
   go_wp2_with fail
   clear a16 b16 d16 a17 b17 d17
   have H224 := L15
   clear L15
   generalize (w223.alloc (.cells #[.int .i64 (r : Int), .int .i64 (r : Int), .slice A223 (r * r) c223] 27)) = w224 at *
   refine (mulR H224.out (r := r) (c := r) (d := r) mm1 mm4 rfl (by rw [HRC.out]) ⟨rfl, rfl, rfl, by rw [HRC.out]⟩ (by have := HD.out; omega) rfl (by rw [HRC.out]) r r (r * r) ⟨rfl, rfl, rfl⟩ (l := flat r r idm) (inv_left HI.out)).mono ?_
   rintro e w225 ⟨A225, c225, rfl, h⟩
   have H225 := Lib.hid h
   clear h
   have L18 := Lib.hid (H225.out.put #[.int .i64 (r : Int), .int .i64 (r : Int), .slice A225 (r * r) c225])
   go_wp2_with fail
   have H226 := L18
   clear L18
   generalize (w225.alloc (.cells #[.int .i64 (r : Int), .int .i64 (r : Int), .slice A225 (r * r) c225] 27)) = w226 at *
   refine wp_region_noPanic ?_
   refine wp_heldG (fun w' => (w'.cell? ⟨w.heap.size, 0, none⟩ = some (.int .i64 (r : Int)) ∧ w'.cell? ⟨w.heap.size, 1, none⟩ = some (.int .i64 (c : Int)) ∧ w'.cell? ⟨w.heap.size, 2, none⟩ = some (.slice A (r * c) ca)) ∧ (w'.cell? ⟨w223.heap.size, 0, none⟩ = some (.int .i64 (r : Int)) ∧ w'.cell? ⟨w223.heap.size, 1, none⟩ = some (.int .i64 (r : Int)) ∧ w'.cell? ⟨w223.heap.size, 2, none⟩ = some (.slice A223 (r * r) c223)) ∧ (w'.cell? ⟨w225.heap.size, 0, none⟩ = some (.int .i64 (r : Int)) ∧ w'.cell? ⟨w225.heap.size, 1, none⟩ = some (.int .i64 (r : Int)) ∧ w'.cell? ⟨w225.heap.size, 2, none⟩ = some (.slice A225 (r * r) c225))) [] (by kernel_rfl) ?hs0 ?rg0
   case hs0 =>
    have h := H226.out.keep (nextN (Mem.start w226) 1)
    exact ⟨h.cells mm5, h.cells mm1, h.cells mm0⟩
   case rg0 =>
   intro hHeld
   have HD226 := Lib.hid (show MS _ _ _ _ w226.drew from H226.out.keep (nextN (Mem.start w226) 1))
   generalize w226.drew = wd226 at *
   refine pu 0 ?_
   refine pu 1 ?_
   refine tk 2 rfl (by intro w hSw; obtain ⟨⟨k0, k1, k2⟩, ⟨l0, l1, l2⟩, ⟨n0, n1, n2⟩⟩ := hSw; go_simp; try with_reducible rfl) ?_
   refine pu 3 ?_
   refine pu 4 ?_
   refine tk 5 rfl (by intro w hSw; obtain ⟨⟨k0, k1, k2⟩, ⟨l0, l1, l2⟩, ⟨n0, n1, n2⟩⟩ := hSw; go_simp; try with_reducible rfl) ?_
   refine pu 6 ?_
   refine tk 7 rfl (by intro w hSw; obtain ⟨⟨k0, k1, k2⟩, ⟨l0, l1, l2⟩, ⟨n0, n1, n2⟩⟩ := hSw; go_simp; try with_reducible rfl) ?_
   refine on 8 rfl fun K hK => ?_
   go_simp
   refine (oneR HD226.out (r := r) rfl (by have := HD.out; omega) (r * r) rfl rfl).mono ?_
   rintro e w227 ⟨A227, c227, rfl, h⟩
   have H227 := Lib.hid h
   clear h
   try dsimp only
   refine hK.out _ _ (fun _ => have h := H227.out; ⟨h.cells mm5, h.cells mm1, h.cells mm0⟩) fun hHeld => ?_
   clear hK K
   try simp only [pU, pU0, pA, pB, pC]
   have hHeld := hHeld (by kernel_rfl)
   refine on 9 rfl fun K hK => ?_
   go_simp
   refine (sameR H227.out mm2 (flat_len _ _ _) mm0 (flat_len _ _ _) (v := true) (sameB_self _ _ _)).mono ?_
   rintro e w228 ⟨rfl, h⟩
   have H228 := Lib.hid h
   clear h
   try dsimp only
   refine hK.out _ _ (fun _ => have h := H228.out; ⟨h.cells mm5, h.cells mm1, h.cells mm0⟩) fun hHeld => ?_
   clear hK K
   try simp only [pU, pU0, pA, pB, pC]
   have hHeld := hHeld (by kernel_rfl)
   refine pu 10 ?_
   refine pu 11 ?_
   refine tk 12 rfl (by intro w hSw; obtain ⟨⟨k0, k1, k2⟩, ⟨l0, l1, l2⟩, ⟨n0, n1, n2⟩⟩ := hSw; go_simp; try with_reducible rfl) ?_
   refine tk 13 rfl (by intro w hSw; obtain ⟨⟨k0, k1, k2⟩, ⟨l0, l1, l2⟩, ⟨n0, n1, n2⟩⟩ := hSw; go_simp; try with_reducible rfl) ?_
   refine on 14 rfl fun K hK => ?_
   go_simp
   refine (sameR H228.out mm1 (flat_len _ _ _) mm2 (flat_len _ _ _) (v := true) (sameB_self _ _ _)).mono ?_
   rintro e w229 ⟨rfl, h⟩
   have H229 := Lib.hid h
   clear h
   try dsimp only
   refine hK.out _ _ (fun _ => have h := H229.out; ⟨h.cells mm5, h.cells mm1, h.cells mm0⟩) fun hHeld => ?_
   clear hK K
   try simp only [pU, pU0, pA, pB, pC]
   have hHeld := hHeld (by kernel_rfl)
   refine pu 15 ?_
   refine pu 16 ?_
   refine on 17 rfl fun K hK => ?_
   go_simp
   refine (works_any _).mono ?_
   rintro e w230 ⟨rfl, hb⟩
   have H230 := Lib.hid (MS.keep H229.out hb)
   clear hb
   try dsimp only
   refine hK.out _ _ (fun _ => have h := H230.out; ⟨h.cells mm5, h.cells mm1, h.cells mm0⟩) fun hHeld => ?_
   clear hK K
   try simp only [pU, pU0, pA, pB, pC]
   have hHeld := hHeld (by kernel_rfl)
   refine pu 18 ?_
   refine pu 19 ?_
   refine wpAnyG_done (by kernel_rfl) ?_ _
   refine NoPanic.normal ?_
   go_wp2_with fail
   go_ret
   exact ⟨rfl, H230.out.below⟩
 ·have HV := Lib.hid (show (rightB (r : Int) (c : Int) (r * c) && (r : Int) == (c : Int)) = false from by rw [Bool.and_eq_false_iff]; right; simp; omega)
  have hrc1 : ((r : Int) != (c : Int)) = true := by simp; omega
  clear hrc
  refine (inv0R H220.out _ HV.out).mono ?_
  rintro e w221 ⟨rfl, h⟩
  have H221 := Lib.hid h
  clear h
  obtain ⟨a11, b11, d11⟩ := H221.out.cells mm2
  have L12 := Lib.hid (H221.out.put #[.int .i64 0, .int .i64 0, .slice none 0 0])
  obtain ⟨a13, b13, d13⟩ := L12.out.cells mm3
  go_wp2_with fail
  clear a11 b11 d11 a13 b13 d13
  have H222 := L12
  clear L12
  generalize (w221.alloc (.cells #[.int .i64 0, .int .i64 0, .slice none 0 0] 27)) = w222 at *
  refine (works_any _).mono ?_
  rintro e w223 ⟨rfl, hb⟩
  have H223 := Lib.hid (MS.keep H222.out hb)
  clear hb
  go_wp2_with fail
  go_ret
  exact ⟨rfl, H223.out.below⟩
end Go.Proofs.Ythdapoipfnnaeaa.MxW
/- The law MatrixSolves: its walk. -/
namespace Go.Proofs.Ythdapoipfnnaeaa.MxW
open Go.RowKit Go.Shelf Mem Gf FdW Mx Rng
open PlW (In)
set_option linter.unusedVariables false
set_option linter.unusedSectionVars false
attribute [local go_sem] Oper.semAt_some wide_fn
set_option maxRecDepth 100000 in
set_option maxHeartbeats 40000000 in
theorem solves_out0 (w : World)  (Ra Ca : Int) (A : Option Addr) (la : List UInt8) (na ca : Nat) (hla : la.length = na) (hA : Bytes w w.heap.size A la) (hca : la.length ≤ ca) (Rx Cx : Int) (X : Option Addr) (lx : List UInt8) (nx cx : Nat) (hlx : lx.length = nx) (hX : Bytes w w.heap.size X lx) (hcx : lx.length ≤ cx) (Rb Cb : Int) (B : Option Addr) (lb : List UInt8) (nb cb : Nat) (hlb : lb.length = nb) (hB : Bytes w w.heap.size B lb) (hcb : lb.length ≤ cb) (hsa : smallB 8 Ra Ca na = false) :
    Calls Try.prog 5 #[.agg #[.int .i64 Ra, .int .i64 Ca, .slice A na ca], .agg #[.int .i64 Rx, .int .i64 Cx, .slice X nx cx], .agg #[.int .i64 Rb, .int .i64 Cb, .slice B nb cb]] w fun e w' => e = .returned (.bool true) ∧ Below w.heap.size w w' := by
 have H0 := Lib.hid ((((MS.start w).arg hA hca).arg hX hcx).arg hB hcb)
 have HLNa := Lib.hid hla
 have HLNx := Lib.hid hlx
 have HLNb := Lib.hid hlb
 have HSa := Lib.hid hsa
 clear hA hca hla hX hcx hlx hB hcb hlb hsa
 go_enter Try.func5, Try.ntmps5
 have L1 := Lib.hid (H0.out.put #[.int .i64 Ra, .int .i64 Ca, .slice A na ca])
 have L2 := Lib.hid (show MS _ _ _ ((w.heap.size + 1, #[.int .i64 Rx, .int .i64 Cx, .slice X nx cx]) :: _) ((w.alloc (.cells #[.int .i64 Ra, .int .i64 Ca, .slice A na ca] 27)).alloc (.cells #[.int .i64 Rx, .int .i64 Cx, .slice X nx cx] 27)) from by have h := L1.out.put #[.int .i64 Rx, .int .i64 Cx, .slice X nx cx]; (try simp only [World.size_alloc] at h); exact h)
 have L3 := Lib.hid (show MS _ _ _ ((w.heap.size + 1 + 1, #[.int .i64 Rb, .int .i64 Cb, .slice B nb cb]) :: _) (((w.alloc (.cells #[.int .i64 Ra, .int .i64 Ca, .slice A na ca] 27)).alloc (.cells #[.int .i64 Rx, .int .i64 Cx, .slice X nx cx] 27)).alloc (.cells #[.int .i64 Rb, .int .i64 Cb, .slice B nb cb] 27)) from by have h := L2.out.put #[.int .i64 Rb, .int .i64 Cb, .slice B nb cb]; (try simp only [World.size_alloc] at h); exact h)
 obtain ⟨a4, b4, d4⟩ := L3.out.cells mm2
 go_wp2_with fail
 clear a4 b4 d4
 have H1 := L3
 clear L1 L2 L3
 generalize (((w.alloc (.cells #[.int .i64 Ra, .int .i64 Ca, .slice A na ca] 27)).alloc (.cells #[.int .i64 Rx, .int .i64 Cx, .slice X nx cx] 27)).alloc (.cells #[.int .i64 Rb, .int .i64 Cb, .slice B nb cb] 27)) = w1 at *
 refine (smallR H1.out 8 (by decide) (v := false) HSa.out).mono ?_
 rintro e w2 ⟨rfl, h⟩
 have H2 := Lib.hid h
 clear h
 go_wp2_with fail
 refine (works_any _).mono ?_
 rintro e w3 ⟨rfl, hb⟩
 have H3 := Lib.hid (MS.keep H2.out hb)
 clear hb
 go_wp2_with fail
 go_ret
 exact ⟨rfl, H3.out.below⟩
set_option maxRecDepth 100000 in
set_option maxHeartbeats 40000000 in
theorem solves_out1 (w : World)  (Ra Ca : Int) (A : Option Addr) (la : List UInt8) (na ca : Nat) (hla : la.length = na) (hA : Bytes w w.heap.size A la) (hca : la.length ≤ ca) (Rx Cx : Int) (X : Option Addr) (lx : List UInt8) (nx cx : Nat) (hlx : lx.length = nx) (hX : Bytes w w.heap.size X lx) (hcx : lx.length ≤ cx) (Rb Cb : Int) (B : Option Addr) (lb : List UInt8) (nb cb : Nat) (hlb : lb.length = nb) (hB : Bytes w w.heap.size B lb) (hcb : lb.length ≤ cb) (hsa : smallB 8 Ra Ca na = true) (hsx : smallB 8 Rx Cx nx = false) :
    Calls Try.prog 5 #[.agg #[.int .i64 Ra, .int .i64 Ca, .slice A na ca], .agg #[.int .i64 Rx, .int .i64 Cx, .slice X nx cx], .agg #[.int .i64 Rb, .int .i64 Cb, .slice B nb cb]] w fun e w' => e = .returned (.bool true) ∧ Below w.heap.size w w' := by
 have H0 := Lib.hid ((((MS.start w).arg hA hca).arg hX hcx).arg hB hcb)
 have HLNa := Lib.hid hla
 have HLNx := Lib.hid hlx
 have HLNb := Lib.hid hlb
 have HSa := Lib.hid hsa
 have HSx := Lib.hid hsx
 clear hA hca hla hX hcx hlx hB hcb hlb hsa hsx
 go_enter Try.func5, Try.ntmps5
 have L1 := Lib.hid (H0.out.put #[.int .i64 Ra, .int .i64 Ca, .slice A na ca])
 have L2 := Lib.hid (show MS _ _ _ ((w.heap.size + 1, #[.int .i64 Rx, .int .i64 Cx, .slice X nx cx]) :: _) ((w.alloc (.cells #[.int .i64 Ra, .int .i64 Ca, .slice A na ca] 27)).alloc (.cells #[.int .i64 Rx, .int .i64 Cx, .slice X nx cx] 27)) from by have h := L1.out.put #[.int .i64 Rx, .int .i64 Cx, .slice X nx cx]; (try simp only [World.size_alloc] at h); exact h)
 have L3 := Lib.hid (show MS _ _ _ ((w.heap.size + 1 + 1, #[.int .i64 Rb, .int .i64 Cb, .slice B nb cb]) :: _) (((w.alloc (.cells #[.int .i64 Ra, .int .i64 Ca, .slice A na ca] 27)).alloc (.cells #[.int .i64 Rx, .int .i64 Cx, .slice X nx cx] 27)).alloc (.cells #[.int .i64 Rb, .int .i64 Cb, .slice B nb cb] 27)) from by have h := L2.out.put #[.int .i64 Rb, .int .i64 Cb, .slice B nb cb]; (try simp only [World.size_alloc] at h); exact h)
 obtain ⟨a4, b4, d4⟩ := L3.out.cells mm2
 go_wp2_with fail
 clear a4 b4 d4
 have H1 := L3
 clear L1 L2 L3
 generalize (((w.alloc (.cells #[.int .i64 Ra, .int .i64 Ca, .slice A na ca] 27)).alloc (.cells #[.int .i64 Rx, .int .i64 Cx, .slice X nx cx] 27)).alloc (.cells #[.int .i64 Rb, .int .i64 Cb, .slice B nb cb] 27)) = w1 at *
 refine (smallR H1.out 8 (by decide) (v := true) HSa.out).mono ?_
 rintro e w2 ⟨rfl, h⟩
 have H2 := Lib.hid h
 clear h
 obtain ⟨a5, b5, d5⟩ := H2.out.cells mm1
 go_wp2_with fail
 clear a5 b5 d5
 refine (smallR H2.out 8 (by decide) (v := false) HSx.out).mono ?_
 rintro e w3 ⟨rfl, h⟩
 have H3 := Lib.hid h
 clear h
 go_wp2_with fail
 refine (works_any _).mono ?_
 rintro e w4 ⟨rfl, hb⟩
 have H4 := Lib.hid (MS.keep H3.out hb)
 clear hb
 go_wp2_with fail
 go_ret
 exact ⟨rfl, H4.out.below⟩
set_option maxRecDepth 100000 in
set_option maxHeartbeats 40000000 in
theorem solves_out2 (w : World)  (Ra Ca : Int) (A : Option Addr) (la : List UInt8) (na ca : Nat) (hla : la.length = na) (hA : Bytes w w.heap.size A la) (hca : la.length ≤ ca) (Rx Cx : Int) (X : Option Addr) (lx : List UInt8) (nx cx : Nat) (hlx : lx.length = nx) (hX : Bytes w w.heap.size X lx) (hcx : lx.length ≤ cx) (Rb Cb : Int) (B : Option Addr) (lb : List UInt8) (nb cb : Nat) (hlb : lb.length = nb) (hB : Bytes w w.heap.size B lb) (hcb : lb.length ≤ cb) (hsa : smallB 8 Ra Ca na = true) (hsx : smallB 8 Rx Cx nx = true) (hsb : smallB 8 Rb Cb nb = false) :
    Calls Try.prog 5 #[.agg #[.int .i64 Ra, .int .i64 Ca, .slice A na ca], .agg #[.int .i64 Rx, .int .i64 Cx, .slice X nx cx], .agg #[.int .i64 Rb, .int .i64 Cb, .slice B nb cb]] w fun e w' => e = .returned (.bool true) ∧ Below w.heap.size w w' := by
 have H0 := Lib.hid ((((MS.start w).arg hA hca).arg hX hcx).arg hB hcb)
 have HLNa := Lib.hid hla
 have HLNx := Lib.hid hlx
 have HLNb := Lib.hid hlb
 have HSa := Lib.hid hsa
 have HSx := Lib.hid hsx
 have HSb := Lib.hid hsb
 clear hA hca hla hX hcx hlx hB hcb hlb hsa hsx hsb
 go_enter Try.func5, Try.ntmps5
 have L1 := Lib.hid (H0.out.put #[.int .i64 Ra, .int .i64 Ca, .slice A na ca])
 have L2 := Lib.hid (show MS _ _ _ ((w.heap.size + 1, #[.int .i64 Rx, .int .i64 Cx, .slice X nx cx]) :: _) ((w.alloc (.cells #[.int .i64 Ra, .int .i64 Ca, .slice A na ca] 27)).alloc (.cells #[.int .i64 Rx, .int .i64 Cx, .slice X nx cx] 27)) from by have h := L1.out.put #[.int .i64 Rx, .int .i64 Cx, .slice X nx cx]; (try simp only [World.size_alloc] at h); exact h)
 have L3 := Lib.hid (show MS _ _ _ ((w.heap.size + 1 + 1, #[.int .i64 Rb, .int .i64 Cb, .slice B nb cb]) :: _) (((w.alloc (.cells #[.int .i64 Ra, .int .i64 Ca, .slice A na ca] 27)).alloc (.cells #[.int .i64 Rx, .int .i64 Cx, .slice X nx cx] 27)).alloc (.cells #[.int .i64 Rb, .int .i64 Cb, .slice B nb cb] 27)) from by have h := L2.out.put #[.int .i64 Rb, .int .i64 Cb, .slice B nb cb]; (try simp only [World.size_alloc] at h); exact h)
 obtain ⟨a4, b4, d4⟩ := L3.out.cells mm2
 go_wp2_with fail
 clear a4 b4 d4
 have H1 := L3
 clear L1 L2 L3
 generalize (((w.alloc (.cells #[.int .i64 Ra, .int .i64 Ca, .slice A na ca] 27)).alloc (.cells #[.int .i64 Rx, .int .i64 Cx, .slice X nx cx] 27)).alloc (.cells #[.int .i64 Rb, .int .i64 Cb, .slice B nb cb] 27)) = w1 at *
 refine (smallR H1.out 8 (by decide) (v := true) HSa.out).mono ?_
 rintro e w2 ⟨rfl, h⟩
 have H2 := Lib.hid h
 clear h
 obtain ⟨a5, b5, d5⟩ := H2.out.cells mm1
 go_wp2_with fail
 clear a5 b5 d5
 refine (smallR H2.out 8 (by decide) (v := true) HSx.out).mono ?_
 rintro e w3 ⟨rfl, h⟩
 have H3 := Lib.hid h
 clear h
 obtain ⟨a6, b6, d6⟩ := H3.out.cells mm0
 go_wp2_with fail
 clear a6 b6 d6
 refine (smallR H3.out 8 (by decide) (v := false) HSb.out).mono ?_
 rintro e w4 ⟨rfl, h⟩
 have H4 := Lib.hid h
 clear h
 go_wp2_with fail
 refine (works_any _).mono ?_
 rintro e w5 ⟨rfl, hb⟩
 have H5 := Lib.hid (MS.keep H4.out hb)
 clear hb
 go_wp2_with fail
 go_ret
 exact ⟨rfl, H5.out.below⟩
set_option maxRecDepth 100000 in
set_option maxHeartbeats 40000000 in
theorem solves_out3 (w : World)  (Ra Ca : Int) (A : Option Addr) (la : List UInt8) (na ca : Nat) (hla : la.length = na) (hA : Bytes w w.heap.size A la) (hca : la.length ≤ ca) (Rx Cx : Int) (X : Option Addr) (lx : List UInt8) (nx cx : Nat) (hlx : lx.length = nx) (hX : Bytes w w.heap.size X lx) (hcx : lx.length ≤ cx) (Rb Cb : Int) (B : Option Addr) (lb : List UInt8) (nb cb : Nat) (hlb : lb.length = nb) (hB : Bytes w w.heap.size B lb) (hcb : lb.length ≤ cb) (hsa : smallB 8 Ra Ca na = true) (hsx : smallB 8 Rx Cx nx = true) (hsb : smallB 8 Rb Cb nb = true) (hr : rightB Ra Ca na = false) :
    Calls Try.prog 5 #[.agg #[.int .i64 Ra, .int .i64 Ca, .slice A na ca], .agg #[.int .i64 Rx, .int .i64 Cx, .slice X nx cx], .agg #[.int .i64 Rb, .int .i64 Cb, .slice B nb cb]] w fun e w' => e = .returned (.bool true) ∧ Below w.heap.size w w' := by
 have H0 := Lib.hid ((((MS.start w).arg hA hca).arg hX hcx).arg hB hcb)
 have HLNa := Lib.hid hla
 have HLNx := Lib.hid hlx
 have HLNb := Lib.hid hlb
 have HSa := Lib.hid hsa
 have HSx := Lib.hid hsx
 have HSb := Lib.hid hsb
 have HR := Lib.hid hr
 clear hA hca hla hX hcx hlx hB hcb hlb hsa hsx hsb hr
 go_enter Try.func5, Try.ntmps5
 have L1 := Lib.hid (H0.out.put #[.int .i64 Ra, .int .i64 Ca, .slice A na ca])
 have L2 := Lib.hid (show MS _ _ _ ((w.heap.size + 1, #[.int .i64 Rx, .int .i64 Cx, .slice X nx cx]) :: _) ((w.alloc (.cells #[.int .i64 Ra, .int .i64 Ca, .slice A na ca] 27)).alloc (.cells #[.int .i64 Rx, .int .i64 Cx, .slice X nx cx] 27)) from by have h := L1.out.put #[.int .i64 Rx, .int .i64 Cx, .slice X nx cx]; (try simp only [World.size_alloc] at h); exact h)
 have L3 := Lib.hid (show MS _ _ _ ((w.heap.size + 1 + 1, #[.int .i64 Rb, .int .i64 Cb, .slice B nb cb]) :: _) (((w.alloc (.cells #[.int .i64 Ra, .int .i64 Ca, .slice A na ca] 27)).alloc (.cells #[.int .i64 Rx, .int .i64 Cx, .slice X nx cx] 27)).alloc (.cells #[.int .i64 Rb, .int .i64 Cb, .slice B nb cb] 27)) from by have h := L2.out.put #[.int .i64 Rb, .int .i64 Cb, .slice B nb cb]; (try simp only [World.size_alloc] at h); exact h)
 obtain ⟨a4, b4, d4⟩ := L3.out.cells mm2
 go_wp2_with fail
 clear a4 b4 d4
 have H1 := L3
 clear L1 L2 L3
 generalize (((w.alloc (.cells #[.int .i64 Ra, .int .i64 Ca, .slice A na ca] 27)).alloc (.cells #[.int .i64 Rx, .int .i64 Cx, .slice X nx cx] 27)).alloc (.cells #[.int .i64 Rb, .int .i64 Cb, .slice B nb cb] 27)) = w1 at *
 refine (smallR H1.out 8 (by decide) (v := true) HSa.out).mono ?_
 rintro e w2 ⟨rfl, h⟩
 have H2 := Lib.hid h
 clear h
 obtain ⟨a5, b5, d5⟩ := H2.out.cells mm1
 go_wp2_with fail
 clear a5 b5 d5
 refine (smallR H2.out 8 (by decide) (v := true) HSx.out).mono ?_
 rintro e w3 ⟨rfl, h⟩
 have H3 := Lib.hid h
 clear h
 obtain ⟨a6, b6, d6⟩ := H3.out.cells mm0
 go_wp2_with fail
 clear a6 b6 d6
 refine (smallR H3.out 8 (by decide) (v := true) HSb.out).mono ?_
 rintro e w4 ⟨rfl, h⟩
 have H4 := Lib.hid h
 clear h
 obtain ⟨a7, b7, d7⟩ := H4.out.cells mm2
 go_wp2_with fail
 clear a7 b7 d7
 refine (rightR H4.out HR.out).mono ?_
 rintro e w5 ⟨rfl, h⟩
 have H5 := Lib.hid h
 clear h
 go_wp2_with fail
 refine (works_any _).mono ?_
 rintro e w6 ⟨rfl, hb⟩
 have H6 := Lib.hid (MS.keep H5.out hb)
 clear hb
 go_wp2_with fail
 go_ret
 exact ⟨rfl, H6.out.below⟩
theorem solves_law (w : World) (Ra Ca : Int) (A : Option Addr) (la : List UInt8) (ca : Nat) (ga : Open.MtOk w Ra Ca A la ca) (Rx Cx : Int) (X : Option Addr) (lx : List UInt8) (cx : Nat) (gx : Open.MtOk w Rx Cx X lx cx) (Rb Cb : Int) (B : Option Addr) (lb : List UInt8) (cb : Nat) (gb : Open.MtOk w Rb Cb B lb cb) :
    Calls Try.prog 5 #[.agg #[.int .i64 Ra, .int .i64 Ca, .slice A la.length ca], .agg #[.int .i64 Rx, .int .i64 Cx, .slice X lx.length cx], .agg #[.int .i64 Rb, .int .i64 Cb, .slice B lb.length cb]] w fun e w' => e = .returned (.bool true) ∧ Below w.heap.size w w' := by
 cases hsa : smallB 8 Ra Ca la.length with
 | false => exact solves_out0 w Ra Ca A la _ ca rfl ga.row ga.le Rx Cx X lx _ cx rfl gx.row gx.le Rb Cb B lb _ cb rfl gb.row gb.le hsa
 | true =>
 cases hsx : smallB 8 Rx Cx lx.length with
 | false => exact solves_out1 w Ra Ca A la _ ca rfl ga.row ga.le Rx Cx X lx _ cx rfl gx.row gx.le Rb Cb B lb _ cb rfl gb.row gb.le hsa hsx
 | true =>
 cases hsb : smallB 8 Rb Cb lb.length with
 | false => exact solves_out2 w Ra Ca A la _ ca rfl ga.row ga.le Rx Cx X lx _ cx rfl gx.row gx.le Rb Cb B lb _ cb rfl gb.row gb.le hsa hsx hsb
 | true =>
 cases hr : rightB Ra Ca la.length with
 | false => exact solves_out3 w Ra Ca A la _ ca rfl ga.row ga.le Rx Cx X lx _ cx rfl gx.row gx.le Rb Cb B lb _ cb rfl gb.row gb.le hsa hsx hsb hr
 | true =>
  obtain ⟨r, c, rfl, rfl, _, _, e1⟩ := right_nat hr
  have d1 := small_nat hsa
  rw [e1]
  exact solves_in w r c d1 A ca (ent la c) (by rw [flat_ent e1]; exact ga.row) (by rw [flat_ent e1]; exact ga.le) Rx Cx X lx _ cx rfl gx.row gx.le Rb Cb B lb _ cb rfl gb.row gb.le hsx hsb
end Go.Proofs.Ythdapoipfnnaeaa.MxW
/- The law MatrixPacks: its walk. -/
namespace Go.Proofs.Ythdapoipfnnaeaa.MxW
open Go.RowKit Go.Shelf Mem Gf FdW Mx Rng
open PlW (In)
set_option linter.unusedVariables false
set_option linter.unusedSectionVars false
attribute [local go_sem] Oper.semAt_some wide_fn
theorem MS.less {w0 w : World} {p : Option Nat} {R R' : List Rw} {X X' : List (Nat × Array Value)} (h : MS w0 p R X w) (hr : ∀ r ∈ R', r ∈ R) (hx : ∀ x ∈ X', x ∈ X) : MS w0 p R' X' w := ⟨h.below, h.fld, fun r k => h.row r (hr r k), fun x k => h.box x (hx x k)⟩
set_option maxRecDepth 100000 in
set_option maxHeartbeats 40000000 in
theorem packs_out0 (w : World)  (B : Option Addr) (lb : List UInt8) (nb cb : Nat) (hlb : lb.length = nb) (hB : Bytes w w.heap.size B lb) (hcb : lb.length ≤ cb) (hmb : cb ≤ maxLen) (Rm Cm : Int) (M : Option Addr) (lm : List UInt8) (nm cm : Nat) (hlm : lm.length = nm) (hM : Bytes w w.heap.size M lm) (hcm : lm.length ≤ cm) (h1 : (55 : Int) < (nb : Int)) :
    Calls Try.prog 9 #[.slice B nb cb, .agg #[.int .i64 Rm, .int .i64 Cm, .slice M nm cm]] w fun e w' => e = .returned (.bool true) ∧ Below w.heap.size w w' := by
 have H0 := Lib.hid ((MS.start w).arg hM hcm)
 have HLNm := Lib.hid hlm
 skip
 clear hM hcm hlm
 go_enter Try.func9, Try.ntmps9
 have L1 := Lib.hid (H0.out.put #[.int .i64 Rm, .int .i64 Cm, .slice M nm cm])
 go_wp2_with fail
 have H1 := L1
 clear L1
 generalize (w.alloc (.cells #[.int .i64 Rm, .int .i64 Cm, .slice M nm cm] 27)) = w1 at *
 refine (works_any _).mono ?_
 rintro e w2 ⟨rfl, hb⟩
 have H2 := Lib.hid (MS.keep H1.out hb)
 clear hb
 go_wp2_with fail
 go_ret
 exact ⟨rfl, H2.out.below⟩
set_option maxRecDepth 100000 in
set_option maxHeartbeats 40000000 in
theorem packs_out1 (w : World)  (B : Option Addr) (lb : List UInt8) (nb cb : Nat) (hlb : lb.length = nb) (hB : Bytes w w.heap.size B lb) (hcb : lb.length ≤ cb) (hmb : cb ≤ maxLen) (Rm Cm : Int) (M : Option Addr) (lm : List UInt8) (nm cm : Nat) (hlm : lm.length = nm) (hM : Bytes w w.heap.size M lm) (hcm : lm.length ≤ cm) (h1 : ¬ (55 : Int) < (nb : Int)) (hs : smallB 8 Rm Cm nm = false) :
    Calls Try.prog 9 #[.slice B nb cb, .agg #[.int .i64 Rm, .int .i64 Cm, .slice M nm cm]] w fun e w' => e = .returned (.bool true) ∧ Below w.heap.size w w' := by
 have H0 := Lib.hid ((MS.start w).arg hM hcm)
 have HLNm := Lib.hid hlm
 have HSm := Lib.hid hs
 clear hM hcm hlm hs
 go_enter Try.func9, Try.ntmps9
 have L1 := Lib.hid (H0.out.put #[.int .i64 Rm, .int .i64 Cm, .slice M nm cm])
 obtain ⟨a2, b2, d2⟩ := L1.out.cells mm0
 go_wp2_with fail
 clear a2 b2 d2
 have H1 := L1
 clear L1
 generalize (w.alloc (.cells #[.int .i64 Rm, .int .i64 Cm, .slice M nm cm] 27)) = w1 at *
 refine (smallR H1.out 8 (by decide) (v := false) HSm.out).mono ?_
 rintro e w2 ⟨rfl, h⟩
 have H2 := Lib.hid h
 clear h
 go_wp2_with fail
 refine (works_any _).mono ?_
 rintro e w3 ⟨rfl, hb⟩
 have H3 := Lib.hid (MS.keep H2.out hb)
 clear hb
 go_wp2_with fail
 go_ret
 exact ⟨rfl, H3.out.below⟩
set_option maxRecDepth 100000 in
set_option maxHeartbeats 40000000 in
theorem packs_in (w : World)  (B : Option Addr) (lb : List UInt8) (nb cb : Nat) (hlb : lb.length = nb) (hB : Bytes w w.heap.size B lb) (hcb : lb.length ≤ cb) (hmb : cb ≤ maxLen) (Rm Cm : Int) (M : Option Addr) (lm : List UInt8) (nm cm : Nat) (hlm : lm.length = nm) (hM : Bytes w w.heap.size M lm) (hcm : lm.length ≤ cm) (h1 : ¬ (55 : Int) < (nb : Int)) (hs : smallB 8 Rm Cm nm = true) :
    Calls Try.prog 9 #[.slice B nb cb, .agg #[.int .i64 Rm, .int .i64 Cm, .slice M nm cm]] w fun e w' => e = .returned (.bool true) ∧ Below w.heap.size w w' := by
 have H0 := Lib.hid (((MS.start w).arg hM hcm).arg hB hcb)
 have HLNm := Lib.hid hlm
 have HLNb := Lib.hid (And.intro hlb hmb)
 have HSm := Lib.hid hs
 clear hM hcm hlm hB hcb hlb hmb hs
 go_enter Try.func9, Try.ntmps9
 have L1 := Lib.hid (H0.out.put #[.int .i64 Rm, .int .i64 Cm, .slice M nm cm])
 obtain ⟨a2, b2, d2⟩ := L1.out.cells mm0
 go_wp2_with fail
 clear a2 b2 d2
 have H1 := L1
 clear L1
 generalize (w.alloc (.cells #[.int .i64 Rm, .int .i64 Cm, .slice M nm cm] 27)) = w1 at *
 refine (smallR H1.out 8 (by decide) (v := true) HSm.out).mono ?_
 rintro e w2 ⟨rfl, h⟩
 have H2 := Lib.hid h
 clear h
 go_wp2_with fail
 go_loopw [5] (fun i wr => ∃ k : Nat, i = .int .i64 (k : Int) ∧ k ≤ 11 ∧ MS w none [⟨B, lb, cb⟩, ⟨M, lm, cm⟩] [(w.heap.size, #[.int .i64 Rm, .int .i64 Cm, .slice M nm cm])] wr) (fun i _ => 11 - (intOf i).toNat)
 case atStart => exact ⟨0, rfl, Nat.zero_le _, H2.out⟩
 case round =>
  obtain ⟨k, rfl, hk, h⟩ := hrel
  have H90 := Lib.hid h
  clear h H2
  obtain ⟨w90, rfl⟩ : ∃ w90 : World, w90 = wr := ⟨_, rfl⟩
  have hk0 : (0 : Int) ≤ (k : Int) := by omega
  by_cases hk1 : (k : Int) ≤ 10
  ·obtain ⟨q, hq⟩ : ∃ q, k * (k + 1) = q := ⟨_, rfl⟩
   have hq1 : (k : Int) * ((k : Int) + 1) = (q : Int) := by rw [← hq]; simp
   have hq9 : q ≤ 110 := by rw [← hq]; exact Nat.mul_le_mul (by omega : k ≤ 10) (by omega : k + 1 ≤ 11)
   have hq2 : q % 2 = 0 := by rw [← hq]; rcases Nat.mod_two_eq_zero_or_one k with e | e <;> rw [Nat.mul_mod, Nat.add_mod, e]
   have HQ := Lib.hid (And.intro hq (And.intro hq2 hq9))
   have e1 : IntKind.i64.wrap ((k : Int) + 1) = (k : Int) + 1 := by rw [IntWalk.i64_in _ (by omega)]
   have e2 : IntKind.i64.wrap ((k : Int) * ((k : Int) + 1)) = (q : Int) := by rw [hq1, IntWalk.i64_in _ (by omega)]
   have e3 : (q : Int).tdiv 2 = ((q / 2 : Nat) : Int) := by rw [Int.tdiv_eq_ediv_of_nonneg (by omega)]; omega
   have e4 : IntKind.i64.wrap ((q / 2 : Nat) : Int) = ((q / 2 : Nat) : Int) := by rw [IntWalk.i64_in _ (by omega)]
   obtain ⟨h2, hh2⟩ : ∃ h2, q / 2 = h2 := ⟨_, rfl⟩
   rw [hh2] at e3 e4
   have HH := Lib.hid hh2
   clear hq hq1 hq2 hq9 hh2
   by_cases hnb : nb = h2
   ·subst hnb
    have H2 := Lib.hid (show 2 * nb = k * (k + 1) from by have h1 := HH.out; have h2 := HQ.out; omega)
    have HK := Lib.hid (show k ≤ 10 from by omega)
    have HO := Lib.hid (show lb.length = offS k k from by have h1 := offS_len k; have h2 := H2.out; have h3 := HLNb.out.1; omega)
    go_wp2_with fail
    refine (symR H90.out (r := k) mm0 HLNb.out.2 HLNb.out.1 rfl (by have := HK.out; omega) H2.out (k * k) rfl rfl).mono ?_
    rintro e w91 ⟨A91, c91, rfl, h⟩
    have H91 := Lib.hid h
    clear h
    have L3 := Lib.hid (H91.out.put #[.int .i64 (k : Int), .int .i64 (k : Int), .slice A91 (k * k) c91])
    obtain ⟨a4, b4, d4⟩ := L3.out.cells mm0
    go_wp2_with fail
    clear a4 b4 d4
    have H92 := L3
    clear L3
    generalize (w91.alloc (.cells #[.int .i64 (k : Int), .int .i64 (k : Int), .slice A91 (k * k) c91] 27)) = w92 at *
    refine (turnR H92.out (r := k) (c := k) mm0 rfl ⟨rfl, rfl⟩ (by have := HK.out; omega) rfl k k (k * k) ⟨rfl, rfl, rfl⟩ (l := flat k k (symM k lb)) (flat_congr fun i _ j _ => symM_turn k lb i j)).mono ?_
    rintro e w93 ⟨A93, c93, rfl, h⟩
    have H93 := Lib.hid h
    clear h
    have L5 := Lib.hid (H93.out.put #[.int .i64 (k : Int), .int .i64 (k : Int), .slice A93 (k * k) c93])
    obtain ⟨a6, b6, d6⟩ := L5.out.cells mm1
    go_wp2_with fail
    clear a6 b6 d6
    have H94 := L5
    clear L5
    generalize (w93.alloc (.cells #[.int .i64 (k : Int), .int .i64 (k : Int), .slice A93 (k * k) c93] 27)) = w94 at *
    refine (packdR H94.out (r := k) mm1 rfl ⟨rfl, rfl⟩ (by have := HK.out; omega) rfl (flat_congr fun i _ j _ => symM_turn k lb i j) nb (by rw [← HLNb.out.1]; exact HO.out) (l := lb) (packS_back HO.out)).mono ?_
    rintro e w95 ⟨A95, c95, rfl, h⟩
    have H95 := Lib.hid h
    clear h
    obtain ⟨a7, b7, d7⟩ := H95.out.cells mm1
    obtain ⟨a8, b8, d8⟩ := H95.out.cells mm0
    go_wp2_with fail
    clear a7 b7 d7 a8 b8 d8
    refine (sameR H95.out mm2 (flat_len _ _ _) mm1 (flat_len _ _ _) (v := true) (sameB_self _ _ _)).mono ?_
    rintro e w96 ⟨rfl, h⟩
    have H96 := Lib.hid h
    clear h
    go_wp2_with fail
    refine (sameBytesR H96.out mm0 HLNb.out.1 mm3 HLNb.out.1 (v := true) (decide_eq_true rfl)).mono ?_
    rintro e w' ⟨rfl, rfl⟩
    go_wp2_with fail
    go_roundw
    case rel => exact ⟨k + 1, rfl, by omega, H96.out.less (by simp) (by simp)⟩
    case measure => simp [intOf]; omega
   ·have hnb2 : ((nb : Int) == (h2 : Int)) = false := by simp; omega
    have HN := Lib.hid (show (nb : Int) ≠ (k : Int) * ((k : Int) + 1) / 2 from by
     have h1 := HH.out; have h2 := HQ.out
     have h3 : (k : Int) * ((k : Int) + 1) = (q : Int) := by rw [← h2.1]; simp
     rw [h3]; omega)
    clear hnb
    go_wp2_with fail
    refine (sym0R H90.out (by omega) HN.out).mono ?_
    rintro e w91 ⟨rfl, h⟩
    have H91 := Lib.hid h
    clear h
    have L3 := Lib.hid (H91.out.put #[.int .i64 0, .int .i64 0, .slice none 0 0])
    go_wp2_with fail
    have H92 := L3
    clear L3
    generalize (w91.alloc (.cells #[.int .i64 0, .int .i64 0, .slice none 0 0] 27)) = w92 at *
    go_roundw
    case rel => exact ⟨k + 1, rfl, by omega, H92.out.less (by simp) (by simp)⟩
    case measure => simp [intOf]; omega
  ·cases hr : rightB Rm Cm nm with
   | false =>
    have HR := Lib.hid hr
    clear hr
    obtain ⟨a3, b3, d3⟩ := H90.out.cells mm0
    go_wp2_with fail
    clear a3 b3 d3
    refine (turn0R H90.out HR.out).mono ?_
    rintro e w91 ⟨rfl, h⟩
    have H91 := Lib.hid h
    clear h
    have L4 := Lib.hid (H91.out.put #[.int .i64 0, .int .i64 0, .slice none 0 0])
    go_wp2_with fail
    have H92 := L4
    clear L4
    generalize (w91.alloc (.cells #[.int .i64 0, .int .i64 0, .slice none 0 0] 27)) = w92 at *
    refine (works_any _).mono ?_
    rintro e w93 ⟨rfl, hb⟩
    have H93 := Lib.hid (MS.keep H92.out hb)
    clear hb
    go_wp2_with fail
    go_ret
    exact ⟨rfl, H93.out.below⟩
   | true =>
    obtain ⟨r, c, rfl, rfl, hr6, hc6, rfl⟩ := right_nat hr
    have HD := Lib.hid (show r ≤ 8 ∧ c ≤ 8 from by have h := of_decide_eq_true HSm.out; omega)
    have HM := Lib.hid (show lm = flat r c (ent lm c) from (flat_ent HLNm.out).symm)
    clear hr hr6 hc6
    obtain ⟨a3, b3, d3⟩ := H90.out.cells mm0
    go_wp2_with fail
    clear a3 b3 d3
    refine (turnR H90.out (r := r) (c := c) mm1 rfl ⟨rfl, rfl⟩ (by have := HD.out; omega) HM.out c r (c * r) ⟨rfl, rfl, rfl⟩ rfl).mono ?_
    rintro e w91 ⟨A91, c91, rfl, h⟩
    have H91 := Lib.hid h
    clear h
    have L4 := Lib.hid (H91.out.put #[.int .i64 (c : Int), .int .i64 (r : Int), .slice A91 (c * r) c91])
    go_wp2_with fail
    have H92 := L4
    clear L4
    generalize (w91.alloc (.cells #[.int .i64 (c : Int), .int .i64 (r : Int), .slice A91 (c * r) c91] 27)) = w92 at *
    refine wp_region_noPanic ?_
    refine wp_heldG (fun w' => (w'.cell? ⟨w.heap.size, 0, none⟩ = some (.int .i64 (r : Int)) ∧ w'.cell? ⟨w.heap.size, 1, none⟩ = some (.int .i64 (c : Int)) ∧ w'.cell? ⟨w.heap.size, 2, none⟩ = some (.slice M (r * c) cm)) ∧ (w'.cell? ⟨w91.heap.size, 0, none⟩ = some (.int .i64 (c : Int)) ∧ w'.cell? ⟨w91.heap.size, 1, none⟩ = some (.int .i64 (r : Int)) ∧ w'.cell? ⟨w91.heap.size, 2, none⟩ = some (.slice A91 (c * r) c91))) [8] (by kernel_rfl) ?hs0 ?rg0
    case hs0 =>
     have h := H92.out.keep (nextN (Mem.start w92) 1)
     exact ⟨h.cells mm1, h.cells mm0⟩
    case rg0 =>
    intro hHeld
    have HD92 := Lib.hid (show MS _ _ _ _ w92.drew from H92.out.keep (nextN (Mem.start w92) 1))
    generalize w92.drew = wd92 at *
    refine tk 1 rfl (by intro w hSw; obtain ⟨⟨k0, k1, k2⟩, ⟨l0, l1, l2⟩⟩ := hSw; go_simp; try with_reducible rfl) ?_
    refine tk 2 rfl (by intro w hSw; obtain ⟨⟨k0, k1, k2⟩, ⟨l0, l1, l2⟩⟩ := hSw; go_simp; try with_reducible rfl) ?_
    refine tw 0 7 rfl rfl (fun K hK => ?_) fun K hK => ?_
    ·skip
     go_simp
     refine (newR HD92.out).mono ?_
     rintro e w93 ⟨rfl, h⟩
     have H93 := Lib.hid h
     clear h
     try dsimp only
     refine hK.out _ _ (fun _ => have h := H93.out; ⟨h.cells mm1, h.cells mm0⟩) fun hHeld => ?_
     clear hK K
     try simp only [pU, pU0, pA, pB, pC]
     have hHeld := hHeld (by kernel_rfl)
     refine tw 3 7 rfl rfl (fun K hK => ?_) fun K hK => ?_
     ·skip
      go_simp
      refine (mulR H93.out (r := r) (c := c) (d := r) mm2 mm0 rfl rfl ⟨rfl, rfl, rfl, rfl⟩ (by have := HD.out; omega) HM.out rfl r r (r * r) ⟨rfl, rfl, rfl⟩ rfl).mono ?_
      rintro e w94 ⟨A94, c94, rfl, h⟩
      have H94 := Lib.hid h
      clear h
      try dsimp only
      refine hK.out _ _ (fun _ => have h := H94.out; ⟨h.cells mm1, h.cells mm0⟩) fun hHeld => ?_
      clear hK K
      try simp only [pU, pU0, pA, pB, pC]
      have hHeld := hHeld (by kernel_rfl)
      refine pu 4 ?_
      refine pu 5 ?_
      refine pu 6 ?_
      refine on 7 rfl fun K hK => ?_
      refine step_new (P := Try.prog) _ ⟨rfl, rfl, rfl⟩ newMx ?_
      have H95 := Lib.hid (H94.out.put #[.int .i64 0, .int .i64 0, .slice none 0 0])
      have HB95 := Lib.hid (And.intro H94.out.below.size H94.out.far)
      obtain ⟨g95, hg95⟩ : ∃ x, w94.heap.size = x := ⟨_, rfl⟩
      rw [hg95] at H95 HB95 ⊢
      clear hg95
      generalize w94.alloc (.cells #[.int .i64 0, .int .i64 0, .slice none 0 0] 27) = w95 at *
      try dsimp only
      refine hK.out _ _ (fun _ => have h := H95.out; ⟨h.cells mm2, h.cells mm1⟩) fun hHeld => ?_
      clear hK K
      try simp only [pU, pU0, pA, pB, pC]
      have hHeld := hHeld (by kernel_rfl)
      refine on 8 rfl fun K hK => ?_
      obtain ⟨⟨z0, z1, z2⟩, f0, f1, f2⟩ := H95.out.blk mm0
      go_simp
      have H96 := Lib.hid (H95.out.set HB95.out.1 HB95.out.2 (.int .i64 (r : Int)) (.int .i64 (r : Int)) (.slice A94 (r * r) c94))
      clear z0 z1 z2 f0 f1 f2 HB95
      generalize ((w95.setCell ⟨g95, 0, none⟩ (.int .i64 (r : Int))).setCell ⟨g95, 1, none⟩ (.int .i64 (r : Int))).setCell ⟨g95, 2, none⟩ (.slice A94 (r * r) c94) = w96 at *
      try dsimp only
      refine hK.out _ _ ?_ (fun hHeld => ?_)
      ·exact fun h => (st_no (by kernel_rfl) h).elim
      clear hK K
      try simp only [pU, pU0, pA, pB, pC]
      clear hHeld
      refine puG 9 ⟨_, _, _, _, _, _⟩ (v := ?_) ?_ (fun h => (st_no (by kernel_rfl) h).elim) ?_
      rotate_left
      ·intro w hSw
       try dsimp only at hSw
       go_simp
       try with_reducible rfl
      try simp only [pU, pU0, pA, pB, pC]
      refine wpAnyG_done (by kernel_rfl) ?_ _
      refine NoPanic.normal ?_
      obtain ⟨a5, b5, d5⟩ := H96.out.cells mm0
      go_wp2_with fail
      clear a5 b5 d5
      refine (packdR H96.out (r := r) mm0 rfl ⟨rfl, rfl⟩ (by have := HD.out; omega) rfl (gram_sym c r (ent lm c)) _ rfl rfl).mono ?_
      rintro e w97 ⟨A97, c97, rfl, h⟩
      have H97 := Lib.hid h
      clear h
      go_wp2_with fail
      refine (works_any _).mono ?_
      rintro e w98 ⟨rfl, hb⟩
      have H98 := Lib.hid (MS.keep H97.out hb)
      clear hb
      go_wp2_with fail
      go_ret
      exact ⟨rfl, H98.out.below⟩
     ·skip
      refine step_new (P := Try.prog) _ ⟨rfl, rfl, rfl⟩ newMx ?_
      have H94 := Lib.hid (H93.out.put #[.int .i64 0, .int .i64 0, .slice none 0 0])
      have HB94 := Lib.hid (And.intro H93.out.below.size H93.out.far)
      obtain ⟨g94, hg94⟩ : ∃ x, w93.heap.size = x := ⟨_, rfl⟩
      rw [hg94] at H94 HB94 ⊢
      clear hg94
      generalize w93.alloc (.cells #[.int .i64 0, .int .i64 0, .slice none 0 0] 27) = w94 at *
      try dsimp only
      refine hK.out _ _ (fun _ => have h := H94.out; ⟨h.cells mm2, h.cells mm1⟩) fun hHeld => ?_
      clear hK K
      try simp only [pU, pU0, pA, pB, pC]
      have hHeld := hHeld (by kernel_rfl)
      refine on 3 rfl fun K hK => ?_
      go_simp
      refine (mulR H94.out (r := r) (c := c) (d := r) mm2 mm0 rfl rfl ⟨rfl, rfl, rfl, rfl⟩ (by have := HD.out; omega) HM.out rfl r r (r * r) ⟨rfl, rfl, rfl⟩ rfl).mono ?_
      rintro e w95 ⟨A95, c95, rfl, h⟩
      have H95 := Lib.hid h
      clear h
      try dsimp only
      refine hK.out _ _ (fun _ => have h := H95.out; ⟨h.cells mm2, h.cells mm1⟩) fun hHeld => ?_
      clear hK K
      try simp only [pU, pU0, pA, pB, pC]
      have hHeld := hHeld (by kernel_rfl)
      refine pu 4 ?_
      refine pu 5 ?_
      refine pu 6 ?_
      refine on 8 rfl fun K hK => ?_
      obtain ⟨⟨z0, z1, z2⟩, f0, f1, f2⟩ := H95.out.blk mm0
      go_simp
      have H96 := Lib.hid (H95.out.set HB94.out.1 HB94.out.2 (.int .i64 (r : Int)) (.int .i64 (r : Int)) (.slice A95 (r * r) c95))
      clear z0 z1 z2 f0 f1 f2 HB94
      generalize ((w95.setCell ⟨g94, 0, none⟩ (.int .i64 (r : Int))).setCell ⟨g94, 1, none⟩ (.int .i64 (r : Int))).setCell ⟨g94, 2, none⟩ (.slice A95 (r * r) c95) = w96 at *
      try dsimp only
      refine hK.out _ _ ?_ (fun hHeld => ?_)
      ·exact fun h => (st_no (by kernel_rfl) h).elim
      clear hK K
      try simp only [pU, pU0, pA, pB, pC]
      clear hHeld
      refine puG 9 ⟨_, _, _, _, _, _⟩ (v := ?_) ?_ (fun h => (st_no (by kernel_rfl) h).elim) ?_
      rotate_left
      ·intro w hSw
       try dsimp only at hSw
       go_simp
       try with_reducible rfl
      try simp only [pU, pU0, pA, pB, pC]
      refine wpAnyG_done (by kernel_rfl) ?_ _
      refine NoPanic.normal ?_
      obtain ⟨a5, b5, d5⟩ := H96.out.cells mm0
      go_wp2_with fail
      clear a5 b5 d5
      refine (packdR H96.out (r := r) mm0 rfl ⟨rfl, rfl⟩ (by have := HD.out; omega) rfl (gram_sym c r (ent lm c)) _ rfl rfl).mono ?_
      rintro e w97 ⟨A97, c97, rfl, h⟩
      have H97 := Lib.hid h
      clear h
      go_wp2_with fail
      refine (works_any _).mono ?_
      rintro e w98 ⟨rfl, hb⟩
      have H98 := Lib.hid (MS.keep H97.out hb)
      clear hb
      go_wp2_with fail
      go_ret
      exact ⟨rfl, H98.out.below⟩
    ·skip
     refine step_new (P := Try.prog) _ ⟨rfl, rfl, rfl⟩ newMx ?_
     have H93 := Lib.hid (HD92.out.put #[.int .i64 0, .int .i64 0, .slice none 0 0])
     have HB93 := Lib.hid (And.intro HD92.out.below.size HD92.out.far)
     obtain ⟨g93, hg93⟩ : ∃ x, wd92.heap.size = x := ⟨_, rfl⟩
     rw [hg93] at H93 HB93 ⊢
     clear hg93
     generalize wd92.alloc (.cells #[.int .i64 0, .int .i64 0, .slice none 0 0] 27) = w93 at *
     try dsimp only
     refine hK.out _ _ (fun _ => have h := H93.out; ⟨h.cells mm2, h.cells mm1⟩) fun hHeld => ?_
     clear hK K
     try simp only [pU, pU0, pA, pB, pC]
     have hHeld := hHeld (by kernel_rfl)
     refine on 0 rfl fun K hK => ?_
     go_simp
     refine (newR H93.out).mono ?_
     rintro e w94 ⟨rfl, h⟩
     have H94 := Lib.hid h
     clear h
     try dsimp only
     refine hK.out _ _ (fun _ => have h := H94.out; ⟨h.cells mm2, h.cells mm1⟩) fun hHeld => ?_
     clear hK K
     try simp only [pU, pU0, pA, pB, pC]
     have hHeld := hHeld (by kernel_rfl)
     refine on 3 rfl fun K hK => ?_
     go_simp
     refine (mulR H94.out (r := r) (c := c) (d := r) mm2 mm0 rfl rfl ⟨rfl, rfl, rfl, rfl⟩ (by have := HD.out; omega) HM.out rfl r r (r * r) ⟨rfl, rfl, rfl⟩ rfl).mono ?_
     rintro e w95 ⟨A95, c95, rfl, h⟩
     have H95 := Lib.hid h
     clear h
     try dsimp only
     refine hK.out _ _ (fun _ => have h := H95.out; ⟨h.cells mm2, h.cells mm1⟩) fun hHeld => ?_
     clear hK K
     try simp only [pU, pU0, pA, pB, pC]
     have hHeld := hHeld (by kernel_rfl)
     refine pu 4 ?_
     refine pu 5 ?_
     refine pu 6 ?_
     refine on 8 rfl fun K hK => ?_
     obtain ⟨⟨z0, z1, z2⟩, f0, f1, f2⟩ := H95.out.blk mm0
     go_simp
     have H96 := Lib.hid (H95.out.set HB93.out.1 HB93.out.2 (.int .i64 (r : Int)) (.int .i64 (r : Int)) (.slice A95 (r * r) c95))
     clear z0 z1 z2 f0 f1 f2 HB93
     generalize ((w95.setCell ⟨g93, 0, none⟩ (.int .i64 (r : Int))).setCell ⟨g93, 1, none⟩ (.int .i64 (r : Int))).setCell ⟨g93, 2, none⟩ (.slice A95 (r * r) c95) = w96 at *
     try dsimp only
     refine hK.out _ _ ?_ (fun hHeld => ?_)
     ·exact fun h => (st_no (by kernel_rfl) h).elim
     clear hK K
     try simp only [pU, pU0, pA, pB, pC]
     clear hHeld
     refine puG 9 ⟨_, _, _, _, _, _⟩ (v := ?_) ?_ (fun h => (st_no (by kernel_rfl) h).elim) ?_
     rotate_left
     ·intro w hSw
      try dsimp only at hSw
      go_simp
      try with_reducible rfl
     try simp only [pU, pU0, pA, pB, pC]
     refine wpAnyG_done (by kernel_rfl) ?_ _
     refine NoPanic.normal ?_
     obtain ⟨a5, b5, d5⟩ := H96.out.cells mm0
     go_wp2_with fail
     clear a5 b5 d5
     refine (packdR H96.out (r := r) mm0 rfl ⟨rfl, rfl⟩ (by have := HD.out; omega) rfl (gram_sym c r (ent lm c)) _ rfl rfl).mono ?_
     rintro e w97 ⟨A97, c97, rfl, h⟩
     have H97 := Lib.hid h
     clear h
     go_wp2_with fail
     refine (works_any _).mono ?_
     rintro e w98 ⟨rfl, hb⟩
     have H98 := Lib.hid (MS.keep H97.out hb)
     clear hb
     go_wp2_with fail
     go_ret
     exact ⟨rfl, H98.out.below⟩
theorem packs_law (w : World) (B : Option Addr) (lb : List UInt8) (cb : Nat) (hle : lb.length ≤ cb) (hmx : cb ≤ maxLen) (hB : Bytes w w.heap.size B lb) (Rm Cm : Int) (M : Option Addr) (lm : List UInt8) (cm : Nat) (gm : Open.MtOk w Rm Cm M lm cm) :
    Calls Try.prog 9 #[.slice B lb.length cb, .agg #[.int .i64 Rm, .int .i64 Cm, .slice M lm.length cm]] w fun e w' => e = .returned (.bool true) ∧ Below w.heap.size w w' := by
 by_cases h1 : (55 : Int) < (lb.length : Int)
 ·exact packs_out0 w B lb _ cb rfl hB hle hmx Rm Cm M lm _ cm rfl gm.row gm.le h1
 ·cases hs : smallB 8 Rm Cm lm.length with
  | false => exact packs_out1 w B lb _ cb rfl hB hle hmx Rm Cm M lm _ cm rfl gm.row gm.le h1 hs
  | true => exact packs_in w B lb _ cb rfl hB hle hmx Rm Cm M lm _ cm rfl gm.row gm.le h1 hs
end Go.Proofs.Ythdapoipfnnaeaa.MxW
/- The law MatrixKnown, walked. Printed by genmknown.py. -/
namespace Go.Proofs.Ythdapoipfnnaeaa.MxW
open Go.RowKit Go.Shelf Mem Gf FdW Mx Rng
open PlW (In)
set_option linter.unusedVariables false
set_option linter.unusedSectionVars false
attribute [local go_sem] Oper.semAt_some wide_fn

/-- A byte by its number. -/
def b8 (x : Int) : UInt8 := UInt8.ofNat x.toNat
theorem b8_v {x : Int} (h0 : 0 ≤ x) (h1 : x < 256) : u8v (b8 x) = .int .u8 x := by
 unfold u8v b8
 refine congrArg (Value.int .u8) ?_
 rw [UInt8.toNat_ofNat']
 omega
/-- A matrix that came in. -/
structure Mt (w : World) (R C : Int) (M : Option Addr) (l : List UInt8) (n c : Nat) : Prop where
 len : l.length = n
 ok : Open.MtOk w R C M l c
theorem mt_of {w0 w : World} {p : Option Nat} {R : List Rw} {X : List (Nat × Array Value)} (h : MS w0 p R X w) {A : Option Addr} {l : List UInt8} {c n : Nat} {r k : Int} (hr : ⟨A, l, c⟩ ∈ R) (hn : l.length = n) (hc : c ≤ maxLen := by unfold maxLen; decide)
    (h1 : -9223372036854775808 ≤ r ∧ r ≤ 9223372036854775807 := by decide) (h2 : -9223372036854775808 ≤ k ∧ k ≤ 9223372036854775807 := by decide) : Mt w r k A l n c := ⟨hn, (h.row _ hr).1, (h.row _ hr).2.2, hc, h1, h2⟩
section
variable {w : World} {Ra Ca Rb Cb Rc Cc : Int} {A B C : Option Addr} {la lb lc : List UInt8} {na ca nb cb nc cc : Nat} (ha : Mt w Ra Ca A la na ca)
include ha
theorem one_l : Calls Try.prog 8 #[.agg #[.int .i64 Ra, .int .i64 Ca, .slice A na ca]] w fun e w' => e = .returned (.bool true) ∧ Below w.heap.size w w' := by
 obtain ⟨rfl, h⟩ := ha
 exact one_law w Ra Ca A la ca h
theorem packs_l (hb : Bytes w w.heap.size B lb) (hn : lb.length = nb) (hle : nb ≤ cb) (hmx : cb ≤ maxLen) : Calls Try.prog 9 #[.slice B nb cb, .agg #[.int .i64 Ra, .int .i64 Ca, .slice A na ca]] w fun e w' => e = .returned (.bool true) ∧ Below w.heap.size w w' := by
 obtain ⟨rfl, h⟩ := ha
 subst hn
 exact packs_law w B lb cb hle hmx hb Ra Ca A la ca h
theorem makes_l {ks : List Int} (hK : Cells w w.heap.size B (ks.map i64v)) (hk : ks.length = nb) (hkc : nb ≤ cb) (hkm : cb ≤ maxLen) (h64 : ∀ v ∈ ks, -9223372036854775808 ≤ v ∧ v ≤ 9223372036854775807) (hX : Bytes w w.heap.size C lc) (hc : lc.length = nc) (hcc : nc ≤ cc) (hcm : cc ≤ maxLen) (n : Int) (hn : -9223372036854775808 ≤ n ∧ n ≤ 9223372036854775807) :
    Calls Try.prog 6 #[.agg #[.int .i64 Ra, .int .i64 Ca, .slice A na ca], .slice B nb cb, .slice C nc cc, .int .i64 n] w fun e w' => e = .returned (.bool true) ∧ Below w.heap.size w w' := by
 obtain ⟨rfl, h⟩ := ha
 subst hk; subst hc
 exact makes_law w Ra Ca A la ca h B ks cb hkc hkm hK h64 C lc cc hcc hcm hX n hn
variable (hb : Mt w Rb Cb B lb nb cb)
include hb
theorem two_l : Calls Try.prog 4 #[.agg #[.int .i64 Ra, .int .i64 Ca, .slice A na ca], .agg #[.int .i64 Rb, .int .i64 Cb, .slice B nb cb]] w fun e w' => e = .returned (.bool true) ∧ Below w.heap.size w w' := by
 obtain ⟨rfl, h⟩ := ha; obtain ⟨rfl, h2⟩ := hb
 exact two_law w Ra Ca A la ca h Rb Cb B lb cb h2
variable (hc : Mt w Rc Cc C lc nc cc)
include hc
theorem products_l : Calls Try.prog 7 #[.agg #[.int .i64 Ra, .int .i64 Ca, .slice A na ca], .agg #[.int .i64 Rb, .int .i64 Cb, .slice B nb cb], .agg #[.int .i64 Rc, .int .i64 Cc, .slice C nc cc]] w fun e w' => e = .returned (.bool true) ∧ Below w.heap.size w w' := by
 obtain ⟨rfl, h⟩ := ha; obtain ⟨rfl, h2⟩ := hb; obtain ⟨rfl, h3⟩ := hc
 exact products_law w Ra Ca A la ca h Rb Cb B lb cb h2 Rc Cc C lc cc h3
theorem solves_l : Calls Try.prog 5 #[.agg #[.int .i64 Ra, .int .i64 Ca, .slice A na ca], .agg #[.int .i64 Rb, .int .i64 Cb, .slice B nb cb], .agg #[.int .i64 Rc, .int .i64 Cc, .slice C nc cc]] w fun e w' => e = .returned (.bool true) ∧ Below w.heap.size w w' := by
 obtain ⟨rfl, h⟩ := ha; obtain ⟨rfl, h2⟩ := hb; obtain ⟨rfl, h3⟩ := hc
 exact solves_law w Ra Ca A la ca h Rb Cb B lb cb h2 Rc Cc C lc cc h3
end
theorem powers_l {w : World} {B : Option Addr} {lb : List UInt8} {nb cb : Nat} (hb : Bytes w w.heap.size B lb) (hn : lb.length = nb) (hle : nb ≤ cb) (hmx : cb ≤ maxLen) : Calls Try.prog 3 #[.slice B nb cb] w fun e w' => e = .returned (.bool true) ∧ Below w.heap.size w w' := by
 subst hn
 exact powers_law w B lb cb hle hmx hb
theorem via3 {P : Prop} {H : Nat → Nat → Nat → World → Prop} (G : Nat → Nat → Nat → World → Prop) (main : (∀ a b c W, H a b c W → G a b c W) → P) (rest : ∀ a b c W, H a b c W → G a b c W) : P := main rest
theorem ints_lit (w : World) (cs : Array Value) (l : List Int) (hm : cs.size ≤ maxLen) (e : cs.toList = l.map i64v) : Cells (w.alloc (.cells cs 3)) (w.alloc (.cells cs 3)).heap.size (some ⟨w.heap.size, 0, none⟩) (l.map i64v) := by
 have ho := own_made w cs 3 hm (base := w.heap.size) (Nat.le_refl _)
 rw [e] at ho; exact ho.cells
theorem ints_at {w : World} {g j : Nat} {l : List Int} (h : Cells w w.heap.size (some ⟨g, 0, none⟩) (l.map i64v)) (hj : j < l.length) : w.cell? ⟨g, j, none⟩ = some (.int .i64 l[j]) := by
 obtain ⟨b, off, e, _, hc⟩ := h.at_ (k := j) (by rw [List.length_map]; exact hj)
 injection e with e; injection e with e e2; subst e; subst e2
 rw [Nat.zero_add, List.getElem_map] at hc; exact hc
/-- The sizes asked. -/
def ns5 : List Int := [-1, 0, 1, 2, 65536, 65537, 4611686018427387904]
def kn5 : List Int := [-1, 0, 1, 2, 4611686018427387904]
theorem ns5_in {v : Int} (h : v ∈ ns5) : -9223372036854775808 ≤ v ∧ v ≤ 9223372036854775807 := by
 have : ∀ v ∈ ns5, -9223372036854775808 ≤ v ∧ v ≤ 9223372036854775807 := by decide
 exact this v h
theorem kn5_in {v : Int} (h : v ∈ kn5) : -9223372036854775808 ≤ v ∧ v ≤ 9223372036854775807 := by
 have : ∀ v ∈ kn5, -9223372036854775808 ≤ v ∧ v ≤ 9223372036854775807 := by decide
 exact this v h
theorem zk_in {kv : Int} (h : kv ∈ kn5) : ∀ v ∈ [0, kv], -9223372036854775808 ≤ v ∧ v ≤ 9223372036854775807 := by
 intro v hv
 rcases List.mem_cons.1 hv with rfl | hv
 ·decide
 ·rw [List.mem_singleton.1 hv]; exact kn5_in h
theorem bytes_lit (w : World) (cs : Array Value) (l : List UInt8) (hm : cs.size ≤ maxLen) (e : cs.toList = l.map u8v) : Bytes (w.alloc (.cells cs 5)) (w.alloc (.cells cs 5)).heap.size (some ⟨w.heap.size, 0, none⟩) l := by
 have ho := own_made w cs 5 hm (base := w.heap.size) (Nat.le_refl _)
 rw [e] at ho; exact ho.bytes
set_option maxRecDepth 100000 in
set_option maxHeartbeats 32000000 in
theorem known_law (w : World) : Calls Try.prog 10 #[] w fun e w' => e = .returned (.bool true) ∧ Below w.heap.size w w' := by
 go_enter Try.func10, Try.ntmps10
 go_wp2_with fail
 go_loopw [1] (fun i wr => ∃ m : Nat, i = .int .i64 (m : Int) ∧ m ≤ 81 ∧ Below w.heap.size w wr) (fun i _ => 81 - (intOf i).toNat)
 case atStart => exact ⟨0, rfl, by decide, Mem.start w⟩
 case round =>
  obtain ⟨m, rfl, hm, hb⟩ := hrel
  have HR := Lib.hid hb
  clear hb
  by_cases hml : m < 81
  ·have HML := Lib.hid hml
   have hm1 : (m : Int) < 81 := by omega
   have hm0 : (0 : Int) ≤ (m : Int) := by omega
   clear hm hml
   go_upto_region 7 with fail
   have L1 := Lib.hid (show MS _ none (⟨some ⟨wr.heap.size, 0, none⟩, [b8 ((m : Int) % 3), b8 ((m : Int) / 3 % 3), b8 ((m : Int) / 9 % 3), b8 ((m : Int) / 27)], 4⟩ :: _) _ (wr.alloc (.cells #[.int .u8 ((m : Int) % 3), .int .u8 ((m : Int) / 3 % 3), .int .u8 ((m : Int) / 9 % 3), .int .u8 ((m : Int) / 27)] 5)) from by have h := MS.lit (MS.start wr) #[.int .u8 ((m : Int) % 3), .int .u8 ((m : Int) / 3 % 3), .int .u8 ((m : Int) / 9 % 3), .int .u8 ((m : Int) / 27)] [b8 ((m : Int) % 3), b8 ((m : Int) / 3 % 3), b8 ((m : Int) / 9 % 3), b8 ((m : Int) / 27)] (by simp [maxLen]) (by simp only [List.map_cons, List.map_nil, b8_v (x := (m : Int) % 3) (by omega) (by omega), b8_v (x := (m : Int) / 3 % 3) (by omega) (by omega), b8_v (x := (m : Int) / 9 % 3) (by omega) (by omega), b8_v (x := (m : Int) / 27) (by omega) (by omega)] <;> rfl) 4 (Nat.le_refl _); (try simp only [World.size_alloc] at h); exact h)
   have L2 := Lib.hid (show MS _ none _ ((wr.heap.size + 1, #[.int .i64 2, .int .i64 2, .slice (some ⟨wr.heap.size, 0, none⟩) 4 4]) :: _) ((wr.alloc (.cells #[.int .u8 ((m : Int) % 3), .int .u8 ((m : Int) / 3 % 3), .int .u8 ((m : Int) / 9 % 3), .int .u8 ((m : Int) / 27)] 5)).alloc (.cells #[.int .i64 2, .int .i64 2, .slice (some ⟨wr.heap.size, 0, none⟩) 4 4] 27)) from by have h := MS.put L1.out #[.int .i64 2, .int .i64 2, .slice (some ⟨wr.heap.size, 0, none⟩) 4 4]; (try simp only [World.size_alloc] at h); exact h)
   have L3 := Lib.hid (show MS _ none (⟨some ⟨wr.heap.size + 1 + 1, 0, none⟩, [b8 ((m : Int) % 5), 1], 2⟩ :: _) _ (((wr.alloc (.cells #[.int .u8 ((m : Int) % 3), .int .u8 ((m : Int) / 3 % 3), .int .u8 ((m : Int) / 9 % 3), .int .u8 ((m : Int) / 27)] 5)).alloc (.cells #[.int .i64 2, .int .i64 2, .slice (some ⟨wr.heap.size, 0, none⟩) 4 4] 27)).alloc (.cells #[.int .u8 ((m : Int) % 5), .int .u8 1] 5)) from by have h := MS.lit L2.out #[.int .u8 ((m : Int) % 5), .int .u8 1] [b8 ((m : Int) % 5), 1] (by simp [maxLen]) (by simp only [List.map_cons, List.map_nil, b8_v (x := (m : Int) % 5) (by omega) (by omega)] <;> rfl) 2 (Nat.le_refl _); (try simp only [World.size_alloc] at h); exact h)
   have L4 := Lib.hid (show MS _ none _ ((wr.heap.size + 1 + 1 + 1, #[.int .i64 2, .int .i64 1, .slice (some ⟨wr.heap.size + 1 + 1, 0, none⟩) 2 2]) :: _) ((((wr.alloc (.cells #[.int .u8 ((m : Int) % 3), .int .u8 ((m : Int) / 3 % 3), .int .u8 ((m : Int) / 9 % 3), .int .u8 ((m : Int) / 27)] 5)).alloc (.cells #[.int .i64 2, .int .i64 2, .slice (some ⟨wr.heap.size, 0, none⟩) 4 4] 27)).alloc (.cells #[.int .u8 ((m : Int) % 5), .int .u8 1] 5)).alloc (.cells #[.int .i64 2, .int .i64 1, .slice (some ⟨wr.heap.size + 1 + 1, 0, none⟩) 2 2] 27)) from by have h := MS.put L3.out #[.int .i64 2, .int .i64 1, .slice (some ⟨wr.heap.size + 1 + 1, 0, none⟩) 2 2]; (try simp only [World.size_alloc] at h); exact h)
   have L5 := Lib.hid (show MS _ none (⟨some ⟨wr.heap.size + 1 + 1 + 1 + 1, 0, none⟩, [3, b8 (m : Int)], 2⟩ :: _) _ (((((wr.alloc (.cells #[.int .u8 ((m : Int) % 3), .int .u8 ((m : Int) / 3 % 3), .int .u8 ((m : Int) / 9 % 3), .int .u8 ((m : Int) / 27)] 5)).alloc (.cells #[.int .i64 2, .int .i64 2, .slice (some ⟨wr.heap.size, 0, none⟩) 4 4] 27)).alloc (.cells #[.int .u8 ((m : Int) % 5), .int .u8 1] 5)).alloc (.cells #[.int .i64 2, .int .i64 1, .slice (some ⟨wr.heap.size + 1 + 1, 0, none⟩) 2 2] 27)).alloc (.cells #[.int .u8 3, .int .u8 (m : Int)] 5)) from by have h := MS.lit L4.out #[.int .u8 3, .int .u8 (m : Int)] [3, b8 (m : Int)] (by simp [maxLen]) (by simp only [List.map_cons, List.map_nil, b8_v (x := (m : Int)) (by omega) (by omega)] <;> rfl) 2 (Nat.le_refl _); (try simp only [World.size_alloc] at h); exact h)
   have L6 := Lib.hid (show MS _ none _ ((wr.heap.size + 1 + 1 + 1 + 1 + 1, #[.int .i64 1, .int .i64 2, .slice (some ⟨wr.heap.size + 1 + 1 + 1 + 1, 0, none⟩) 2 2]) :: _) ((((((wr.alloc (.cells #[.int .u8 ((m : Int) % 3), .int .u8 ((m : Int) / 3 % 3), .int .u8 ((m : Int) / 9 % 3), .int .u8 ((m : Int) / 27)] 5)).alloc (.cells #[.int .i64 2, .int .i64 2, .slice (some ⟨wr.heap.size, 0, none⟩) 4 4] 27)).alloc (.cells #[.int .u8 ((m : Int) % 5), .int .u8 1] 5)).alloc (.cells #[.int .i64 2, .int .i64 1, .slice (some ⟨wr.heap.size + 1 + 1, 0, none⟩) 2 2] 27)).alloc (.cells #[.int .u8 3, .int .u8 (m : Int)] 5)).alloc (.cells #[.int .i64 1, .int .i64 2, .slice (some ⟨wr.heap.size + 1 + 1 + 1 + 1, 0, none⟩) 2 2] 27)) from by have h := MS.put L5.out #[.int .i64 1, .int .i64 2, .slice (some ⟨wr.heap.size + 1 + 1 + 1 + 1, 0, none⟩) 2 2]; (try simp only [World.size_alloc] at h); exact h)
   have H6 := L6
   clear L1 L2 L3 L4 L5 L6
   generalize ((((((wr.alloc (.cells #[.int .u8 ((m : Int) % 3), .int .u8 ((m : Int) / 3 % 3), .int .u8 ((m : Int) / 9 % 3), .int .u8 ((m : Int) / 27)] 5)).alloc (.cells #[.int .i64 2, .int .i64 2, .slice (some ⟨wr.heap.size, 0, none⟩) 4 4] 27)).alloc (.cells #[.int .u8 ((m : Int) % 5), .int .u8 1] 5)).alloc (.cells #[.int .i64 2, .int .i64 1, .slice (some ⟨wr.heap.size + 1 + 1, 0, none⟩) 2 2] 27)).alloc (.cells #[.int .u8 3, .int .u8 (m : Int)] 5)).alloc (.cells #[.int .i64 1, .int .i64 2, .slice (some ⟨wr.heap.size + 1 + 1 + 1 + 1, 0, none⟩) 2 2] 27)) = w6 at *
   obtain ⟨d0, hd0⟩ : ∃ x, wr.heap.size = x := ⟨_, rfl⟩
   rw [hd0] at H6 ⊢
   clear hd0
   obtain ⟨ga, hga⟩ : ∃ x, d0 + 1 = x := ⟨_, rfl⟩
   rw [hga] at H6 ⊢
   clear hga
   obtain ⟨d1, hd1⟩ : ∃ x, ga + 1 = x := ⟨_, rfl⟩
   rw [hd1] at H6 ⊢
   clear hd1
   obtain ⟨gb, hgb⟩ : ∃ x, d1 + 1 = x := ⟨_, rfl⟩
   rw [hgb] at H6 ⊢
   clear hgb
   obtain ⟨d2, hd2⟩ : ∃ x, gb + 1 = x := ⟨_, rfl⟩
   rw [hd2] at H6 ⊢
   clear hd2
   obtain ⟨gc, hgc⟩ : ∃ x, d2 + 1 = x := ⟨_, rfl⟩
   rw [hgc] at H6 ⊢
   clear hgc
   obtain ⟨la, hla⟩ : ∃ x : List UInt8, [b8 ((m : Int) % 3), b8 ((m : Int) / 3 % 3), b8 ((m : Int) / 9 % 3), b8 ((m : Int) / 27)] = x := ⟨_, rfl⟩
   have HLla := Lib.hid (show la.length = 4 by rw [← hla]; rfl)
   rw [hla] at H6
   clear hla
   obtain ⟨lb, hlb⟩ : ∃ x : List UInt8, [b8 ((m : Int) % 5), 1] = x := ⟨_, rfl⟩
   have HLlb := Lib.hid (show lb.length = 2 by rw [← hlb]; rfl)
   rw [hlb] at H6
   clear hlb
   obtain ⟨lc, hlc⟩ : ∃ x : List UInt8, [3, b8 (m : Int)] = x := ⟨_, rfl⟩
   have HLlc := Lib.hid (show lc.length = 2 by rw [← hlc]; rfl)
   rw [hlc] at H6
   clear hlc
   have ht4 : (m : Int).tmod 4 = (m : Int) % 4 := Int.tmod_eq_emod_of_nonneg hm0
   obtain ⟨k4, hk4⟩ : ∃ k : Nat, (m : Int) % 4 = (k : Int) := ⟨m % 4, by omega⟩
   have hk40 : k4 ≤ 4 := by omega
   have hk41 : (k4 : Int) ≤ 4 := by omega
   have hk42 : IntKind.u8.wrap (k4 : Int) = (k4 : Int) := by have e : ∀ x : Int, IntKind.u8.wrap x = x % 256 := fun _ => rfl; rw [e]; omega
   have HK4 := Lib.hid (And.intro hk40 hk4)
   rw [hk4] at ht4
   clear hk4
   as_aux_lemma =>
   refine wp_region_noPanic ?_
   refine wp_heldG (fun V => MS wr none [⟨some ⟨d2, 0, none⟩, lc, 2⟩, ⟨some ⟨d1, 0, none⟩, lb, 2⟩, ⟨some ⟨d0, 0, none⟩, la, 4⟩] [(gc, #[.int .i64 1, .int .i64 2, .slice (some ⟨d2, 0, none⟩) 2 2]), (gb, #[.int .i64 2, .int .i64 1, .slice (some ⟨d1, 0, none⟩) 2 2]), (ga, #[.int .i64 2, .int .i64 2, .slice (some ⟨d0, 0, none⟩) 4 4])] V) [] (by kernel_rfl) ?hs0 ?rg0
   case hs0 => exact H6.out.keep (nextN (Mem.start w6) 1)
   case rg0 =>
   intro hHeld
   generalize w6.drew = wd at *
   refine tk 0 rfl (by intro w hSw; obtain ⟨k0, k1, k2⟩ := MS.cells hSw mm2; go_simp; try with_reducible rfl) ?_
   refine on 1 rfl fun K hK => ?_
   go_simp
   refine (one_l (mt_of hHeld mm2 HLla.out)).mono ?_
   rintro e w61 ⟨rfl, hb⟩
   try dsimp only
   refine hK.out _ _ (fun _ => MS.keep hHeld hb) fun hHeld => ?_
   clear hK K
   try simp only [pU, pU0, pA, pB, pC]
   have hHeld := hHeld (by kernel_rfl)
   clear hb
   refine pu 2 ?_
   refine pu 3 ?_
   refine tk 4 rfl (by intro w hSw; obtain ⟨k0, k1, k2⟩ := MS.cells hSw mm2; go_simp; try with_reducible rfl) ?_
   refine tk 5 rfl (by intro w hSw; obtain ⟨k0, k1, k2⟩ := MS.cells hSw mm1; go_simp; try with_reducible rfl) ?_
   refine on 6 rfl fun K hK => ?_
   go_simp
   refine (two_l (mt_of hHeld mm2 HLla.out) (mt_of hHeld mm1 HLlb.out)).mono ?_
   rintro e w62 ⟨rfl, hb⟩
   try dsimp only
   refine hK.out _ _ (fun _ => MS.keep hHeld hb) fun hHeld => ?_
   clear hK K
   try simp only [pU, pU0, pA, pB, pC]
   have hHeld := hHeld (by kernel_rfl)
   clear hb
   refine pu 7 ?_
   refine pu 8 ?_
   refine pu 9 ?_
   refine tk 10 rfl (by intro w hSw; obtain ⟨k0, k1, k2⟩ := MS.cells hSw mm1; go_simp; try with_reducible rfl) ?_
   refine tk 11 rfl (by intro w hSw; obtain ⟨k0, k1, k2⟩ := MS.cells hSw mm0; go_simp; try with_reducible rfl) ?_
   refine on 12 rfl fun K hK => ?_
   go_simp
   refine (two_l (mt_of hHeld mm1 HLlb.out) (mt_of hHeld mm0 HLlc.out)).mono ?_
   rintro e w63 ⟨rfl, hb⟩
   try dsimp only
   refine hK.out _ _ (fun _ => MS.keep hHeld hb) fun hHeld => ?_
   clear hK K
   try simp only [pU, pU0, pA, pB, pC]
   have hHeld := hHeld (by kernel_rfl)
   clear hb
   refine pu 13 ?_
   refine pu 14 ?_
   refine pu 15 ?_
   refine tk 16 rfl (by intro w hSw; obtain ⟨k0, k1, k2⟩ := MS.cells hSw mm0; go_simp; try with_reducible rfl) ?_
   refine tk 17 rfl (by intro w hSw; obtain ⟨k0, k1, k2⟩ := MS.cells hSw mm2; go_simp; try with_reducible rfl) ?_
   refine on 18 rfl fun K hK => ?_
   go_simp
   refine (two_l (mt_of hHeld mm0 HLlc.out) (mt_of hHeld mm2 HLla.out)).mono ?_
   rintro e w64 ⟨rfl, hb⟩
   try dsimp only
   refine hK.out _ _ (fun _ => MS.keep hHeld hb) fun hHeld => ?_
   clear hK K
   try simp only [pU, pU0, pA, pB, pC]
   have hHeld := hHeld (by kernel_rfl)
   clear hb
   refine pu 19 ?_
   refine pu 20 ?_
   refine pu 21 ?_
   refine tk 22 rfl (by intro w hSw; obtain ⟨k0, k1, k2⟩ := MS.cells hSw mm0; go_simp; try with_reducible rfl) ?_
   refine tk 23 rfl (by intro w hSw; obtain ⟨k0, k1, k2⟩ := MS.cells hSw mm2; go_simp; try with_reducible rfl) ?_
   refine tk 24 rfl (by intro w hSw; obtain ⟨k0, k1, k2⟩ := MS.cells hSw mm1; go_simp; try with_reducible rfl) ?_
   refine on 25 rfl fun K hK => ?_
   go_simp
   refine (products_l (mt_of hHeld mm0 HLlc.out) (mt_of hHeld mm2 HLla.out) (mt_of hHeld mm1 HLlb.out)).mono ?_
   rintro e w65 ⟨rfl, hb⟩
   try dsimp only
   refine hK.out _ _ (fun _ => MS.keep hHeld hb) fun hHeld => ?_
   clear hK K
   try simp only [pU, pU0, pA, pB, pC]
   have hHeld := hHeld (by kernel_rfl)
   clear hb
   refine pu 26 ?_
   refine pu 27 ?_
   refine pu 28 ?_
   refine tk 29 rfl (by intro w hSw; obtain ⟨k0, k1, k2⟩ := MS.cells hSw mm2; go_simp; try with_reducible rfl) ?_
   refine tk 30 rfl (by intro w hSw; obtain ⟨k0, k1, k2⟩ := MS.cells hSw mm2; go_simp; try with_reducible rfl) ?_
   refine tk 31 rfl (by intro w hSw; obtain ⟨k0, k1, k2⟩ := MS.cells hSw mm1; go_simp; try with_reducible rfl) ?_
   refine on 32 rfl fun K hK => ?_
   go_simp
   refine (products_l (mt_of hHeld mm2 HLla.out) (mt_of hHeld mm2 HLla.out) (mt_of hHeld mm1 HLlb.out)).mono ?_
   rintro e w66 ⟨rfl, hb⟩
   try dsimp only
   refine hK.out _ _ (fun _ => MS.keep hHeld hb) fun hHeld => ?_
   clear hK K
   try simp only [pU, pU0, pA, pB, pC]
   have hHeld := hHeld (by kernel_rfl)
   clear hb
   refine pu 33 ?_
   refine pu 34 ?_
   refine pu 35 ?_
   refine tk 36 rfl (by intro w hSw; obtain ⟨k0, k1, k2⟩ := MS.cells hSw mm2; go_simp; try with_reducible rfl) ?_
   refine tk 37 rfl (by intro w hSw; obtain ⟨k0, k1, k2⟩ := MS.cells hSw mm1; go_simp; try with_reducible rfl) ?_
   refine tk 38 rfl (by intro w hSw; obtain ⟨k0, k1, k2⟩ := MS.cells hSw mm2; go_simp; try with_reducible rfl) ?_
   refine on 39 rfl fun K hK => ?_
   go_simp
   refine (solves_l (mt_of hHeld mm2 HLla.out) (mt_of hHeld mm1 HLlb.out) (mt_of hHeld mm2 HLla.out)).mono ?_
   rintro e w67 ⟨rfl, hb⟩
   try dsimp only
   refine hK.out _ _ (fun _ => MS.keep hHeld hb) fun hHeld => ?_
   clear hK K
   try simp only [pU, pU0, pA, pB, pC]
   have hHeld := hHeld (by kernel_rfl)
   clear hb
   refine pu 40 ?_
   refine pu 41 ?_
   refine pu 42 ?_
   refine tk 43 rfl (by intro w hSw; obtain ⟨k0, k1, k2⟩ := MS.cells hSw mm1; go_simp; try with_reducible rfl) ?_
   refine tk 44 rfl (by intro w hSw; obtain ⟨k0, k1, k2⟩ := MS.cells hSw mm0; go_simp; try with_reducible rfl) ?_
   refine tk 45 rfl (by intro w hSw; obtain ⟨k0, k1, k2⟩ := MS.cells hSw mm1; go_simp; try with_reducible rfl) ?_
   refine on 46 rfl fun K hK => ?_
   go_simp
   refine (solves_l (mt_of hHeld mm1 HLlb.out) (mt_of hHeld mm0 HLlc.out) (mt_of hHeld mm1 HLlb.out)).mono ?_
   rintro e w68 ⟨rfl, hb⟩
   try dsimp only
   refine hK.out _ _ (fun _ => MS.keep hHeld hb) fun hHeld => ?_
   clear hK K
   try simp only [pU, pU0, pA, pB, pC]
   have hHeld := hHeld (by kernel_rfl)
   clear hb
   refine pu 47 ?_
   refine pu 48 ?_
   refine pu 49 ?_
   refine tk 50 rfl (by intro w hSw; obtain ⟨k0, k1, k2⟩ := MS.cells hSw mm0; go_simp; try with_reducible rfl) ?_
   refine tk 51 rfl (by intro w hSw; obtain ⟨k0, k1, k2⟩ := MS.cells hSw mm1; go_simp; try with_reducible rfl) ?_
   refine tk 52 rfl (by intro w hSw; obtain ⟨k0, k1, k2⟩ := MS.cells hSw mm0; go_simp; try with_reducible rfl) ?_
   refine on 53 rfl fun K hK => ?_
   go_simp
   refine (solves_l (mt_of hHeld mm0 HLlc.out) (mt_of hHeld mm1 HLlb.out) (mt_of hHeld mm0 HLlc.out)).mono ?_
   rintro e w69 ⟨rfl, hb⟩
   try dsimp only
   refine hK.out _ _ (fun _ => MS.keep hHeld hb) fun hHeld => ?_
   clear hK K
   try simp only [pU, pU0, pA, pB, pC]
   have hHeld := hHeld (by kernel_rfl)
   clear hb
   refine pu 54 ?_
   refine pu 55 ?_
   refine pu 56 ?_
   refine pu 57 ?_
   refine tk 58 rfl (by intro w hSw; obtain ⟨k0, k1, k2⟩ := MS.cells hSw mm2; go_simp; try with_reducible rfl) ?_
   refine pu 59 ?_
   refine pu 60 ?_
   refine pu 61 ?_
   refine tk 62 rfl (by intro w hSw; obtain ⟨k0, k1, k2⟩ := MS.cells hSw mm2; go_simp; try with_reducible rfl) ?_
   refine on 63 rfl fun K hK => ?_
   go_simp
   refine (packs_l (mt_of hHeld mm2 HLla.out) ((hHeld.row _ mm2).1.take k4) (by rw [List.length_take, HLla.out]; have := HK4.out.1; omega) (by have := HK4.out.1; omega) (by unfold maxLen; decide)).mono ?_
   rintro e w70 ⟨rfl, hb⟩
   try dsimp only
   refine hK.out _ _ (fun _ => MS.keep hHeld hb) fun hHeld => ?_
   clear hK K
   try simp only [pU, pU0, pA, pB, pC]
   have hHeld := hHeld (by kernel_rfl)
   clear hb
   refine pu 64 ?_
   refine pu 65 ?_
   refine pu 66 ?_
   refine pu 67 ?_
   refine pu 68 ?_
   refine pu 69 ?_
   refine on 70 rfl fun K hK => ?_
   go_simp
   have hbp := bytes_lit w70 #[.int .u8 1, .int .u8 (k4 : Int), .int .u8 2] [1, b8 (k4 : Int), 2] (by simp [maxLen]) (by simp only [List.map_cons, List.map_nil, b8_v (x := (k4 : Int)) (by omega) (by omega)] <;> rfl)
   have hb := nextA (Mem.start w70) (.cells #[.int .u8 1, .int .u8 (k4 : Int), .int .u8 2] 5)
   generalize w70.alloc (.cells #[.int .u8 1, .int .u8 (k4 : Int), .int .u8 2] 5) = w71 at *
   try dsimp only
   refine hK.out _ _ (fun _ => MS.keep hHeld hb) fun hHeld => ?_
   clear hK K
   try simp only [pU, pU0, pA, pB, pC]
   have hHeld := hHeld (by kernel_rfl)
   have HBP := Lib.hid hbp
   clear hbp hb
   refine on 71 rfl fun K hK => ?_
   go_simp
   refine (powers_l HBP.out rfl (Nat.le_refl _) (show 3 ≤ maxLen by unfold maxLen; decide)).mono ?_
   rintro e w72 ⟨rfl, hb⟩
   try dsimp only
   refine hK.out _ _ (fun _ => MS.keep hHeld hb) fun hHeld => ?_
   clear hK K
   try simp only [pU, pU0, pA, pB, pC]
   have hHeld := hHeld (by kernel_rfl)
   clear hb
   refine pu 72 ?_
   refine pu 73 ?_
   refine wpAnyG_done (by kernel_rfl) ?_ _
   refine NoPanic.normal ?_
   have H9 := Lib.hid (next HR.out hHeld.below)
   go_wp2_with fail
   go_roundw
   case rel => exact ⟨m + 1, by simp, HML.out, H9.out⟩
   case measure => simp [intOf]; have := HML.out; omega
  ·have d81 : decide ((m : Int) < 81) = false := decide_eq_false (by omega)
   clear hm hml
   have H0 := Lib.hid (ints_lit wr #[.int .i64 (-1), .int .i64 0, .int .i64 1, .int .i64 2, .int .i64 65536, .int .i64 65537, .int .i64 4611686018427387904] ns5 (by simp [maxLen]) rfl)
   have H1 := Lib.hid (next HR.out (nextA (Mem.start wr) (.cells #[.int .i64 (-1), .int .i64 0, .int .i64 1, .int .i64 2, .int .i64 65536, .int .i64 65537, .int .i64 4611686018427387904] 3)))
   go_wp2_with fail
   generalize wr.alloc (.cells #[.int .i64 (-1), .int .i64 0, .int .i64 1, .int .i64 2, .int .i64 65536, .int .i64 65537, .int .i64 4611686018427387904] 3) = w1 at *
   obtain ⟨gn, hgn⟩ : ∃ x, wr.heap.size = x := ⟨_, rfl⟩
   rw [hgn] at H0 ⊢
   clear hgn
   go_loopw [115] (fun i wx => ∃ j : Nat, i = .int .i64 (j : Int) ∧ j ≤ 7 ∧ Below w.heap.size w wx ∧ Cells wx wx.heap.size (some ⟨gn, 0, none⟩) (ns5.map i64v)) (fun i _ => 7 - (intOf i).toNat)
   case atStart => exact ⟨0, rfl, by decide, H1.out, H0.out⟩
   case round =>
    obtain ⟨j, rfl, hj, hb, hc⟩ := hrel
    have HX := Lib.hid (And.intro hb hc)
    clear hb hc
    by_cases hjl : j < 7
    ·obtain ⟨nv, hnv⟩ : ∃ v, ns5[j]'hjl = v := ⟨_, rfl⟩
     have hcell := ints_at HX.out.2 hjl
     rw [hnv] at hcell
     have HNV := Lib.hid (show nv ∈ ns5 by rw [← hnv]; exact List.getElem_mem _)
     have HJ := Lib.hid hjl
     have hj1 : (j : Int) < 7 := by omega
     have hj0 : (0 : Int) ≤ (j : Int) := by omega
     obtain ⟨w2, hw2⟩ : ∃ x : World, wr.alloc (.cells #[.int .i64 (-1), .int .i64 0, .int .i64 1, .int .i64 2, .int .i64 4611686018427387904] 3) = x := ⟨_, rfl⟩
     have H2 := Lib.hid (show Below w.heap.size w w2 ∧ Cells w2 w2.heap.size (some ⟨gn, 0, none⟩) (ns5.map i64v) ∧ Cells w2 w2.heap.size (some ⟨wr.heap.size, 0, none⟩) (kn5.map i64v) from by
      have hb : Below wr.heap.size wr w2 := by rw [← hw2]; exact nextA (Mem.start _) _
      refine ⟨next HX.out.1 hb, cells_keep HX.out.2 hb, ?_⟩
      rw [← hw2]
      exact ints_lit wr #[.int .i64 (-1), .int .i64 0, .int .i64 1, .int .i64 2, .int .i64 4611686018427387904] kn5 (by simp [maxLen]) rfl)
     clear hnv hjl hj
     go_wp2_with fail
     clear hcell hw2
     obtain ⟨gk, hgk⟩ : ∃ x, wr.heap.size = x := ⟨_, rfl⟩
     rw [hgk] at H2 ⊢
     clear hgk
     go_loopw [121] (fun i wy => ∃ j : Nat, i = .int .i64 (j : Int) ∧ j ≤ 5 ∧ Below w.heap.size w wy ∧ Cells wy wy.heap.size (some ⟨gn, 0, none⟩) (ns5.map i64v) ∧ Cells wy wy.heap.size (some ⟨gk, 0, none⟩) (kn5.map i64v)) (fun i _ => 5 - (intOf i).toNat)
     case atStart => exact ⟨0, rfl, by decide, H2.out⟩
     case round =>
      obtain ⟨j2, rfl, hj2, hb, hc, hc2⟩ := hrel
      have HY := Lib.hid (And.intro hb (And.intro hc hc2))
      clear hb hc hc2
      by_cases hjl : j2 < 5
      ·obtain ⟨kv, hkv⟩ : ∃ v, kn5[j2]'hjl = v := ⟨_, rfl⟩
       have hcell := ints_at HY.out.2.2 hjl
       rw [hkv] at hcell
       have HKV := Lib.hid (show kv ∈ kn5 by rw [← hkv]; exact List.getElem_mem _)
       have HJ2 := Lib.hid hjl
       have hj1 : (j2 : Int) < 5 := by omega
       have hj0 : (0 : Int) ≤ (j2 : Int) := by omega
       clear hkv hjl hj2
       have L1 := Lib.hid ((MS.start wr).nilR.put #[.int .i64 nv, .int .i64 kv, .slice none 0 0])
       go_upto_region 16 with fail
       clear hcell
       obtain ⟨g9, hg9⟩ : ∃ x, wr.heap.size = x := ⟨_, rfl⟩
       rw [hg9] at L1 ⊢
       generalize wr.alloc (.cells #[.int .i64 nv, .int .i64 kv, .slice none 0 0] 27) = w9 at *
       clear hg9
       cases dn : decide (nv < 9) with
       | false =>
        as_aux_lemma =>
        refine wp_region_noPanic ?_
        refine wp_heldG (fun V => MS wr none [⟨none, [], 0⟩] [(g9, #[.int .i64 nv, .int .i64 kv, .slice none 0 0])] V) [] (by kernel_rfl) ?hs0 ?rg0
        case hs0 => exact L1.out.keep (nextN (Mem.start w9) 1)
        case rg0 =>
        intro hHeld
        generalize w9.drew = wd at *
        refine pu 0 ?_
        refine pu 1 ?_
        refine pu 2 ?_
        refine ofK 3 ?_
        refine ofK 4 ?_
        refine pu 5 ?_
        refine pu 6 ?_
        refine ofK 7 ?_
        refine ofK 8 ?_
        refine ofK 9 ?_
        refine ofK 10 ?_
        refine ofK 11 ?_
        refine ofK 12 ?_
        refine ofK 13 ?_
        refine ofK 14 ?_
        refine ofK 15 ?_
        refine ofK 16 ?_
        refine ofK 17 ?_
        refine ofK 18 ?_
        refine ofK 19 ?_
        refine ofK 20 ?_
        refine ofK 21 ?_
        refine ofK 22 ?_
        refine pu 23 ?_
        refine pu 24 ?_
        apply via3 (H := fun a b c W => MS wr none [⟨none, [], 0⟩] [(g9, #[.int .i64 nv, .int .i64 kv, .slice none 0 0])] W ∧ Bytes W W.heap.size (some ⟨a, 0, none⟩) [7] ∧ Cells W W.heap.size (some ⟨b, 0, none⟩) ([0, kv].map i64v) ∧ Bytes W W.heap.size (some ⟨c, 0, none⟩) [5, 6])
        case main =>
         intro REST
         refine pu 27 ?_
         refine pu 30 ?_
         refine th 25 28 29 rfl rfl rfl (fun K hK => ?_) (fun K hK => ?_) (fun K hK => ?_)
         ·skip
          go_simp
          have hn25 := bytes_lit wd #[.int .u8 7] [7] (by simp [maxLen]) rfl
          have hb := nextA (Mem.start wd) (.cells #[.int .u8 7] 5)
          obtain ⟨v25, hv25⟩ : ∃ x, wd.heap.size = x := ⟨_, rfl⟩
          rw [hv25] at hn25 ⊢
          generalize wd.alloc (.cells #[.int .u8 7] 5) = w71 at *
          try dsimp only
          refine hK.out _ _ (fun _ => MS.keep hHeld hb) fun hHeld => ?_
          clear hK K
          try simp only [pU, pU0, pA, pB, pC]
          have hHeld := hHeld (by kernel_rfl)
          have HN25 := Lib.hid hn25
          clear hn25 hv25 hb
          refine pu 26 ?_
          refine tw 28 29 rfl rfl (fun K hK => ?_) (fun K hK => ?_)
          ·skip
           go_simp
           have hn28 := ints_lit w71 #[.int .i64 0, .int .i64 kv] [0, kv] (by simp [maxLen]) rfl
           have hb := nextA (Mem.start w71) (.cells #[.int .i64 0, .int .i64 kv] 3)
           obtain ⟨v28, hv28⟩ : ∃ x, w71.heap.size = x := ⟨_, rfl⟩
           rw [hv28] at hn28 ⊢
           generalize w71.alloc (.cells #[.int .i64 0, .int .i64 kv] 3) = w72 at *
           try dsimp only
           refine hK.out _ _ (fun _ => MS.keep hHeld hb) fun hHeld => ?_
           clear hK K
           try simp only [pU, pU0, pA, pB, pC]
           have hHeld := hHeld (by kernel_rfl)
           have HN28 := Lib.hid hn28
           have HN25 := Lib.hid (cells_keep HN25.out hb)
           clear hn28 hv28 hb
           refine on 29 rfl fun K hK => ?_
           go_simp
           have hn29 := bytes_lit w72 #[.int .u8 5, .int .u8 6] [5, 6] (by simp [maxLen]) rfl
           have hb := nextA (Mem.start w72) (.cells #[.int .u8 5, .int .u8 6] 5)
           obtain ⟨v29, hv29⟩ : ∃ x, w72.heap.size = x := ⟨_, rfl⟩
           rw [hv29] at hn29 ⊢
           generalize w72.alloc (.cells #[.int .u8 5, .int .u8 6] 5) = w73 at *
           try dsimp only
           refine hK.out _ _ (fun _ => MS.keep hHeld hb) fun hHeld => ?_
           clear hK K
           try simp only [pU, pU0, pA, pB, pC]
           have hHeld := hHeld (by kernel_rfl)
           have HN29 := Lib.hid hn29
           have HN25 := Lib.hid (cells_keep HN25.out hb)
           have HN28 := Lib.hid (cells_keep HN28.out hb)
           clear hn29 hv29 hb
           exact REST v25 v28 v29 w73 ⟨hHeld, HN25.out, HN28.out, HN29.out⟩
          ·skip
           go_simp
           have hn29 := bytes_lit w71 #[.int .u8 5, .int .u8 6] [5, 6] (by simp [maxLen]) rfl
           have hb := nextA (Mem.start w71) (.cells #[.int .u8 5, .int .u8 6] 5)
           obtain ⟨v29, hv29⟩ : ∃ x, w71.heap.size = x := ⟨_, rfl⟩
           rw [hv29] at hn29 ⊢
           generalize w71.alloc (.cells #[.int .u8 5, .int .u8 6] 5) = w72 at *
           try dsimp only
           refine hK.out _ _ (fun _ => MS.keep hHeld hb) fun hHeld => ?_
           clear hK K
           try simp only [pU, pU0, pA, pB, pC]
           have hHeld := hHeld (by kernel_rfl)
           have HN29 := Lib.hid hn29
           have HN25 := Lib.hid (cells_keep HN25.out hb)
           clear hn29 hv29 hb
           refine on 28 rfl fun K hK => ?_
           go_simp
           have hn28 := ints_lit w72 #[.int .i64 0, .int .i64 kv] [0, kv] (by simp [maxLen]) rfl
           have hb := nextA (Mem.start w72) (.cells #[.int .i64 0, .int .i64 kv] 3)
           obtain ⟨v28, hv28⟩ : ∃ x, w72.heap.size = x := ⟨_, rfl⟩
           rw [hv28] at hn28 ⊢
           generalize w72.alloc (.cells #[.int .i64 0, .int .i64 kv] 3) = w73 at *
           try dsimp only
           refine hK.out _ _ (fun _ => MS.keep hHeld hb) fun hHeld => ?_
           clear hK K
           try simp only [pU, pU0, pA, pB, pC]
           have hHeld := hHeld (by kernel_rfl)
           have HN28 := Lib.hid hn28
           have HN25 := Lib.hid (cells_keep HN25.out hb)
           have HN29 := Lib.hid (cells_keep HN29.out hb)
           clear hn28 hv28 hb
           exact REST v25 v28 v29 w73 ⟨hHeld, HN25.out, HN28.out, HN29.out⟩
         ·skip
          go_simp
          have hn28 := ints_lit wd #[.int .i64 0, .int .i64 kv] [0, kv] (by simp [maxLen]) rfl
          have hb := nextA (Mem.start wd) (.cells #[.int .i64 0, .int .i64 kv] 3)
          obtain ⟨v28, hv28⟩ : ∃ x, wd.heap.size = x := ⟨_, rfl⟩
          rw [hv28] at hn28 ⊢
          generalize wd.alloc (.cells #[.int .i64 0, .int .i64 kv] 3) = w71 at *
          try dsimp only
          refine hK.out _ _ (fun _ => MS.keep hHeld hb) fun hHeld => ?_
          clear hK K
          try simp only [pU, pU0, pA, pB, pC]
          have hHeld := hHeld (by kernel_rfl)
          have HN28 := Lib.hid hn28
          clear hn28 hv28 hb
          refine tw 25 29 rfl rfl (fun K hK => ?_) (fun K hK => ?_)
          ·skip
           go_simp
           have hn25 := bytes_lit w71 #[.int .u8 7] [7] (by simp [maxLen]) rfl
           have hb := nextA (Mem.start w71) (.cells #[.int .u8 7] 5)
           obtain ⟨v25, hv25⟩ : ∃ x, w71.heap.size = x := ⟨_, rfl⟩
           rw [hv25] at hn25 ⊢
           generalize w71.alloc (.cells #[.int .u8 7] 5) = w72 at *
           try dsimp only
           refine hK.out _ _ (fun _ => MS.keep hHeld hb) fun hHeld => ?_
           clear hK K
           try simp only [pU, pU0, pA, pB, pC]
           have hHeld := hHeld (by kernel_rfl)
           have HN25 := Lib.hid hn25
           have HN28 := Lib.hid (cells_keep HN28.out hb)
           clear hn25 hv25 hb
           refine pu 26 ?_
           refine on 29 rfl fun K hK => ?_
           go_simp
           have hn29 := bytes_lit w72 #[.int .u8 5, .int .u8 6] [5, 6] (by simp [maxLen]) rfl
           have hb := nextA (Mem.start w72) (.cells #[.int .u8 5, .int .u8 6] 5)
           obtain ⟨v29, hv29⟩ : ∃ x, w72.heap.size = x := ⟨_, rfl⟩
           rw [hv29] at hn29 ⊢
           generalize w72.alloc (.cells #[.int .u8 5, .int .u8 6] 5) = w73 at *
           try dsimp only
           refine hK.out _ _ (fun _ => MS.keep hHeld hb) fun hHeld => ?_
           clear hK K
           try simp only [pU, pU0, pA, pB, pC]
           have hHeld := hHeld (by kernel_rfl)
           have HN29 := Lib.hid hn29
           have HN28 := Lib.hid (cells_keep HN28.out hb)
           have HN25 := Lib.hid (cells_keep HN25.out hb)
           clear hn29 hv29 hb
           exact REST v25 v28 v29 w73 ⟨hHeld, HN25.out, HN28.out, HN29.out⟩
          ·skip
           go_simp
           have hn29 := bytes_lit w71 #[.int .u8 5, .int .u8 6] [5, 6] (by simp [maxLen]) rfl
           have hb := nextA (Mem.start w71) (.cells #[.int .u8 5, .int .u8 6] 5)
           obtain ⟨v29, hv29⟩ : ∃ x, w71.heap.size = x := ⟨_, rfl⟩
           rw [hv29] at hn29 ⊢
           generalize w71.alloc (.cells #[.int .u8 5, .int .u8 6] 5) = w72 at *
           try dsimp only
           refine hK.out _ _ (fun _ => MS.keep hHeld hb) fun hHeld => ?_
           clear hK K
           try simp only [pU, pU0, pA, pB, pC]
           have hHeld := hHeld (by kernel_rfl)
           have HN29 := Lib.hid hn29
           have HN28 := Lib.hid (cells_keep HN28.out hb)
           clear hn29 hv29 hb
           refine on 25 rfl fun K hK => ?_
           go_simp
           have hn25 := bytes_lit w72 #[.int .u8 7] [7] (by simp [maxLen]) rfl
           have hb := nextA (Mem.start w72) (.cells #[.int .u8 7] 5)
           obtain ⟨v25, hv25⟩ : ∃ x, w72.heap.size = x := ⟨_, rfl⟩
           rw [hv25] at hn25 ⊢
           generalize w72.alloc (.cells #[.int .u8 7] 5) = w73 at *
           try dsimp only
           refine hK.out _ _ (fun _ => MS.keep hHeld hb) fun hHeld => ?_
           clear hK K
           try simp only [pU, pU0, pA, pB, pC]
           have hHeld := hHeld (by kernel_rfl)
           have HN25 := Lib.hid hn25
           have HN28 := Lib.hid (cells_keep HN28.out hb)
           have HN29 := Lib.hid (cells_keep HN29.out hb)
           clear hn25 hv25 hb
           refine pu 26 ?_
           exact REST v25 v28 v29 w73 ⟨hHeld, HN25.out, HN28.out, HN29.out⟩
         ·skip
          go_simp
          have hn29 := bytes_lit wd #[.int .u8 5, .int .u8 6] [5, 6] (by simp [maxLen]) rfl
          have hb := nextA (Mem.start wd) (.cells #[.int .u8 5, .int .u8 6] 5)
          obtain ⟨v29, hv29⟩ : ∃ x, wd.heap.size = x := ⟨_, rfl⟩
          rw [hv29] at hn29 ⊢
          generalize wd.alloc (.cells #[.int .u8 5, .int .u8 6] 5) = w71 at *
          try dsimp only
          refine hK.out _ _ (fun _ => MS.keep hHeld hb) fun hHeld => ?_
          clear hK K
          try simp only [pU, pU0, pA, pB, pC]
          have hHeld := hHeld (by kernel_rfl)
          have HN29 := Lib.hid hn29
          clear hn29 hv29 hb
          refine tw 25 28 rfl rfl (fun K hK => ?_) (fun K hK => ?_)
          ·skip
           go_simp
           have hn25 := bytes_lit w71 #[.int .u8 7] [7] (by simp [maxLen]) rfl
           have hb := nextA (Mem.start w71) (.cells #[.int .u8 7] 5)
           obtain ⟨v25, hv25⟩ : ∃ x, w71.heap.size = x := ⟨_, rfl⟩
           rw [hv25] at hn25 ⊢
           generalize w71.alloc (.cells #[.int .u8 7] 5) = w72 at *
           try dsimp only
           refine hK.out _ _ (fun _ => MS.keep hHeld hb) fun hHeld => ?_
           clear hK K
           try simp only [pU, pU0, pA, pB, pC]
           have hHeld := hHeld (by kernel_rfl)
           have HN25 := Lib.hid hn25
           have HN29 := Lib.hid (cells_keep HN29.out hb)
           clear hn25 hv25 hb
           refine pu 26 ?_
           refine on 28 rfl fun K hK => ?_
           go_simp
           have hn28 := ints_lit w72 #[.int .i64 0, .int .i64 kv] [0, kv] (by simp [maxLen]) rfl
           have hb := nextA (Mem.start w72) (.cells #[.int .i64 0, .int .i64 kv] 3)
           obtain ⟨v28, hv28⟩ : ∃ x, w72.heap.size = x := ⟨_, rfl⟩
           rw [hv28] at hn28 ⊢
           generalize w72.alloc (.cells #[.int .i64 0, .int .i64 kv] 3) = w73 at *
           try dsimp only
           refine hK.out _ _ (fun _ => MS.keep hHeld hb) fun hHeld => ?_
           clear hK K
           try simp only [pU, pU0, pA, pB, pC]
           have hHeld := hHeld (by kernel_rfl)
           have HN28 := Lib.hid hn28
           have HN29 := Lib.hid (cells_keep HN29.out hb)
           have HN25 := Lib.hid (cells_keep HN25.out hb)
           clear hn28 hv28 hb
           exact REST v25 v28 v29 w73 ⟨hHeld, HN25.out, HN28.out, HN29.out⟩
          ·skip
           go_simp
           have hn28 := ints_lit w71 #[.int .i64 0, .int .i64 kv] [0, kv] (by simp [maxLen]) rfl
           have hb := nextA (Mem.start w71) (.cells #[.int .i64 0, .int .i64 kv] 3)
           obtain ⟨v28, hv28⟩ : ∃ x, w71.heap.size = x := ⟨_, rfl⟩
           rw [hv28] at hn28 ⊢
           generalize w71.alloc (.cells #[.int .i64 0, .int .i64 kv] 3) = w72 at *
           try dsimp only
           refine hK.out _ _ (fun _ => MS.keep hHeld hb) fun hHeld => ?_
           clear hK K
           try simp only [pU, pU0, pA, pB, pC]
           have hHeld := hHeld (by kernel_rfl)
           have HN28 := Lib.hid hn28
           have HN29 := Lib.hid (cells_keep HN29.out hb)
           clear hn28 hv28 hb
           refine on 25 rfl fun K hK => ?_
           go_simp
           have hn25 := bytes_lit w72 #[.int .u8 7] [7] (by simp [maxLen]) rfl
           have hb := nextA (Mem.start w72) (.cells #[.int .u8 7] 5)
           obtain ⟨v25, hv25⟩ : ∃ x, w72.heap.size = x := ⟨_, rfl⟩
           rw [hv25] at hn25 ⊢
           generalize w72.alloc (.cells #[.int .u8 7] 5) = w73 at *
           try dsimp only
           refine hK.out _ _ (fun _ => MS.keep hHeld hb) fun hHeld => ?_
           clear hK K
           try simp only [pU, pU0, pA, pB, pC]
           have hHeld := hHeld (by kernel_rfl)
           have HN25 := Lib.hid hn25
           have HN29 := Lib.hid (cells_keep HN29.out hb)
           have HN28 := Lib.hid (cells_keep HN28.out hb)
           clear hn25 hv25 hb
           refine pu 26 ?_
           exact REST v25 v28 v29 w73 ⟨hHeld, HN25.out, HN28.out, HN29.out⟩
        case rest =>
        intro v25 v28 v29 w69 h
        have hHeld := h.1
        have HN25 := Lib.hid h.2.1
        have HN28 := Lib.hid h.2.2.1
        have HN29 := Lib.hid h.2.2.2
        clear h
        refine on 31 rfl fun K hK => ?_
        go_simp
        refine (makes_l (⟨rfl, HN25.out, by decide, by unfold maxLen; decide, by decide, by decide⟩ : Mt w69 1 1 (some ⟨v25, 0, none⟩) [7] 1 1) HN28.out rfl (Nat.le_refl _) (show 2 ≤ maxLen by unfold maxLen; decide) (zk_in HKV.out) HN29.out rfl (Nat.le_refl _) (show 2 ≤ maxLen by unfold maxLen; decide) nv (ns5_in HNV.out)).mono ?_
        rintro e w71 ⟨rfl, hb⟩
        try dsimp only
        refine hK.out _ _ (fun _ => MS.keep hHeld hb) fun hHeld => ?_
        clear hK K
        try simp only [pU, pU0, pA, pB, pC]
        have hHeld := hHeld (by kernel_rfl)
        clear hb
        refine pu 32 ?_
        refine pu 33 ?_
        refine pu 34 ?_
        refine tk 35 rfl (by intro w hSw; obtain ⟨k0, k1, k2⟩ := MS.cells hSw mm0; go_simp; try with_reducible rfl) ?_
        refine tk 37 rfl (by intro w hSw; obtain ⟨k0, k1, k2⟩ := MS.cells hSw mm0; go_simp; try with_reducible rfl) ?_
        refine on 36 rfl fun K hK => ?_
        go_simp
        refine (right_any w71 nv kv none 0 0).mono ?_
        rintro e w72 ⟨rfl, hb⟩
        obtain ⟨rb, hrb⟩ : ∃ x, rightB nv kv 0 = x := ⟨_, rfl⟩
        rw [hrb]
        try dsimp only
        refine hK.out _ _ (fun _ => MS.keep hHeld hb) fun hHeld => ?_
        clear hK K
        try simp only [pU, pU0, pA, pB, pC]
        have hHeld := hHeld (by kernel_rfl)
        clear hb
        refine on 38 rfl fun K hK => ?_
        go_simp
        refine (plain_any w72 nv kv none 0 0).mono ?_
        rintro e w73 ⟨rfl, hb⟩
        try dsimp only
        refine hK.out _ _ (fun _ => MS.keep hHeld hb) fun hHeld => ?_
        clear hK K
        try simp only [pU, pU0, pA, pB, pC]
        have hHeld := hHeld (by kernel_rfl)
        clear hb
        refine on 39 rfl fun K hK => ?_
        go_simp
        refine (rright_any w73 nv kv none 0 0).mono ?_
        rintro e w74 ⟨rfl, hb⟩
        rw [hrb]
        try dsimp only
        refine hK.out _ _ (fun _ => MS.keep hHeld hb) fun hHeld => ?_
        clear hK K
        try simp only [pU, pU0, pA, pB, pC]
        have hHeld := hHeld (by kernel_rfl)
        clear hb
        refine pu 40 ?_
        refine pu 41 ?_
        refine wpAnyG_done (by kernel_rfl) ?_ _
        refine NoPanic.normal ?_
        have hbel := hHeld.below
        have H9 := Lib.hid (And.intro (next HY.out.1 hbel) (And.intro (cells_keep HY.out.2.1 hbel) (cells_keep HY.out.2.2 hbel)))
        clear hbel
        go_wp2_with fail
        go_roundw
        case rel => exact ⟨j2 + 1, by simp, HJ2.out, H9.out⟩
        case measure => simp [intOf]; have := HJ2.out; omega
       | true =>
        cases dk : decide (kv < 9) with
        | false =>
         as_aux_lemma =>
         refine wp_region_noPanic ?_
         refine wp_heldG (fun V => MS wr none [⟨none, [], 0⟩] [(g9, #[.int .i64 nv, .int .i64 kv, .slice none 0 0])] V) [] (by kernel_rfl) ?hs0 ?rg0
         case hs0 => exact L1.out.keep (nextN (Mem.start w9) 1)
         case rg0 =>
         intro hHeld
         generalize w9.drew = wd at *
         refine pu 0 ?_
         refine pu 1 ?_
         refine pu 2 ?_
         refine pu 3 ?_
         refine pu 4 ?_
         refine pu 5 ?_
         refine pu 6 ?_
         refine ofK 7 ?_
         refine ofK 8 ?_
         refine ofK 9 ?_
         refine ofK 10 ?_
         refine ofK 11 ?_
         refine ofK 12 ?_
         refine ofK 13 ?_
         refine ofK 14 ?_
         refine ofK 15 ?_
         refine ofK 16 ?_
         refine ofK 17 ?_
         refine ofK 18 ?_
         refine ofK 19 ?_
         refine ofK 20 ?_
         refine ofK 21 ?_
         refine ofK 22 ?_
         refine pu 23 ?_
         refine pu 24 ?_
         apply via3 (H := fun a b c W => MS wr none [⟨none, [], 0⟩] [(g9, #[.int .i64 nv, .int .i64 kv, .slice none 0 0])] W ∧ Bytes W W.heap.size (some ⟨a, 0, none⟩) [7] ∧ Cells W W.heap.size (some ⟨b, 0, none⟩) ([0, kv].map i64v) ∧ Bytes W W.heap.size (some ⟨c, 0, none⟩) [5, 6])
         case main =>
          intro REST
          refine pu 27 ?_
          refine pu 30 ?_
          refine th 25 28 29 rfl rfl rfl (fun K hK => ?_) (fun K hK => ?_) (fun K hK => ?_)
          ·skip
           go_simp
           have hn25 := bytes_lit wd #[.int .u8 7] [7] (by simp [maxLen]) rfl
           have hb := nextA (Mem.start wd) (.cells #[.int .u8 7] 5)
           obtain ⟨v25, hv25⟩ : ∃ x, wd.heap.size = x := ⟨_, rfl⟩
           rw [hv25] at hn25 ⊢
           generalize wd.alloc (.cells #[.int .u8 7] 5) = w71 at *
           try dsimp only
           refine hK.out _ _ (fun _ => MS.keep hHeld hb) fun hHeld => ?_
           clear hK K
           try simp only [pU, pU0, pA, pB, pC]
           have hHeld := hHeld (by kernel_rfl)
           have HN25 := Lib.hid hn25
           clear hn25 hv25 hb
           refine pu 26 ?_
           refine tw 28 29 rfl rfl (fun K hK => ?_) (fun K hK => ?_)
           ·skip
            go_simp
            have hn28 := ints_lit w71 #[.int .i64 0, .int .i64 kv] [0, kv] (by simp [maxLen]) rfl
            have hb := nextA (Mem.start w71) (.cells #[.int .i64 0, .int .i64 kv] 3)
            obtain ⟨v28, hv28⟩ : ∃ x, w71.heap.size = x := ⟨_, rfl⟩
            rw [hv28] at hn28 ⊢
            generalize w71.alloc (.cells #[.int .i64 0, .int .i64 kv] 3) = w72 at *
            try dsimp only
            refine hK.out _ _ (fun _ => MS.keep hHeld hb) fun hHeld => ?_
            clear hK K
            try simp only [pU, pU0, pA, pB, pC]
            have hHeld := hHeld (by kernel_rfl)
            have HN28 := Lib.hid hn28
            have HN25 := Lib.hid (cells_keep HN25.out hb)
            clear hn28 hv28 hb
            refine on 29 rfl fun K hK => ?_
            go_simp
            have hn29 := bytes_lit w72 #[.int .u8 5, .int .u8 6] [5, 6] (by simp [maxLen]) rfl
            have hb := nextA (Mem.start w72) (.cells #[.int .u8 5, .int .u8 6] 5)
            obtain ⟨v29, hv29⟩ : ∃ x, w72.heap.size = x := ⟨_, rfl⟩
            rw [hv29] at hn29 ⊢
            generalize w72.alloc (.cells #[.int .u8 5, .int .u8 6] 5) = w73 at *
            try dsimp only
            refine hK.out _ _ (fun _ => MS.keep hHeld hb) fun hHeld => ?_
            clear hK K
            try simp only [pU, pU0, pA, pB, pC]
            have hHeld := hHeld (by kernel_rfl)
            have HN29 := Lib.hid hn29
            have HN25 := Lib.hid (cells_keep HN25.out hb)
            have HN28 := Lib.hid (cells_keep HN28.out hb)
            clear hn29 hv29 hb
            exact REST v25 v28 v29 w73 ⟨hHeld, HN25.out, HN28.out, HN29.out⟩
           ·skip
            go_simp
            have hn29 := bytes_lit w71 #[.int .u8 5, .int .u8 6] [5, 6] (by simp [maxLen]) rfl
            have hb := nextA (Mem.start w71) (.cells #[.int .u8 5, .int .u8 6] 5)
            obtain ⟨v29, hv29⟩ : ∃ x, w71.heap.size = x := ⟨_, rfl⟩
            rw [hv29] at hn29 ⊢
            generalize w71.alloc (.cells #[.int .u8 5, .int .u8 6] 5) = w72 at *
            try dsimp only
            refine hK.out _ _ (fun _ => MS.keep hHeld hb) fun hHeld => ?_
            clear hK K
            try simp only [pU, pU0, pA, pB, pC]
            have hHeld := hHeld (by kernel_rfl)
            have HN29 := Lib.hid hn29
            have HN25 := Lib.hid (cells_keep HN25.out hb)
            clear hn29 hv29 hb
            refine on 28 rfl fun K hK => ?_
            go_simp
            have hn28 := ints_lit w72 #[.int .i64 0, .int .i64 kv] [0, kv] (by simp [maxLen]) rfl
            have hb := nextA (Mem.start w72) (.cells #[.int .i64 0, .int .i64 kv] 3)
            obtain ⟨v28, hv28⟩ : ∃ x, w72.heap.size = x := ⟨_, rfl⟩
            rw [hv28] at hn28 ⊢
            generalize w72.alloc (.cells #[.int .i64 0, .int .i64 kv] 3) = w73 at *
            try dsimp only
            refine hK.out _ _ (fun _ => MS.keep hHeld hb) fun hHeld => ?_
            clear hK K
            try simp only [pU, pU0, pA, pB, pC]
            have hHeld := hHeld (by kernel_rfl)
            have HN28 := Lib.hid hn28
            have HN25 := Lib.hid (cells_keep HN25.out hb)
            have HN29 := Lib.hid (cells_keep HN29.out hb)
            clear hn28 hv28 hb
            exact REST v25 v28 v29 w73 ⟨hHeld, HN25.out, HN28.out, HN29.out⟩
          ·skip
           go_simp
           have hn28 := ints_lit wd #[.int .i64 0, .int .i64 kv] [0, kv] (by simp [maxLen]) rfl
           have hb := nextA (Mem.start wd) (.cells #[.int .i64 0, .int .i64 kv] 3)
           obtain ⟨v28, hv28⟩ : ∃ x, wd.heap.size = x := ⟨_, rfl⟩
           rw [hv28] at hn28 ⊢
           generalize wd.alloc (.cells #[.int .i64 0, .int .i64 kv] 3) = w71 at *
           try dsimp only
           refine hK.out _ _ (fun _ => MS.keep hHeld hb) fun hHeld => ?_
           clear hK K
           try simp only [pU, pU0, pA, pB, pC]
           have hHeld := hHeld (by kernel_rfl)
           have HN28 := Lib.hid hn28
           clear hn28 hv28 hb
           refine tw 25 29 rfl rfl (fun K hK => ?_) (fun K hK => ?_)
           ·skip
            go_simp
            have hn25 := bytes_lit w71 #[.int .u8 7] [7] (by simp [maxLen]) rfl
            have hb := nextA (Mem.start w71) (.cells #[.int .u8 7] 5)
            obtain ⟨v25, hv25⟩ : ∃ x, w71.heap.size = x := ⟨_, rfl⟩
            rw [hv25] at hn25 ⊢
            generalize w71.alloc (.cells #[.int .u8 7] 5) = w72 at *
            try dsimp only
            refine hK.out _ _ (fun _ => MS.keep hHeld hb) fun hHeld => ?_
            clear hK K
            try simp only [pU, pU0, pA, pB, pC]
            have hHeld := hHeld (by kernel_rfl)
            have HN25 := Lib.hid hn25
            have HN28 := Lib.hid (cells_keep HN28.out hb)
            clear hn25 hv25 hb
            refine pu 26 ?_
            refine on 29 rfl fun K hK => ?_
            go_simp
            have hn29 := bytes_lit w72 #[.int .u8 5, .int .u8 6] [5, 6] (by simp [maxLen]) rfl
            have hb := nextA (Mem.start w72) (.cells #[.int .u8 5, .int .u8 6] 5)
            obtain ⟨v29, hv29⟩ : ∃ x, w72.heap.size = x := ⟨_, rfl⟩
            rw [hv29] at hn29 ⊢
            generalize w72.alloc (.cells #[.int .u8 5, .int .u8 6] 5) = w73 at *
            try dsimp only
            refine hK.out _ _ (fun _ => MS.keep hHeld hb) fun hHeld => ?_
            clear hK K
            try simp only [pU, pU0, pA, pB, pC]
            have hHeld := hHeld (by kernel_rfl)
            have HN29 := Lib.hid hn29
            have HN28 := Lib.hid (cells_keep HN28.out hb)
            have HN25 := Lib.hid (cells_keep HN25.out hb)
            clear hn29 hv29 hb
            exact REST v25 v28 v29 w73 ⟨hHeld, HN25.out, HN28.out, HN29.out⟩
           ·skip
            go_simp
            have hn29 := bytes_lit w71 #[.int .u8 5, .int .u8 6] [5, 6] (by simp [maxLen]) rfl
            have hb := nextA (Mem.start w71) (.cells #[.int .u8 5, .int .u8 6] 5)
            obtain ⟨v29, hv29⟩ : ∃ x, w71.heap.size = x := ⟨_, rfl⟩
            rw [hv29] at hn29 ⊢
            generalize w71.alloc (.cells #[.int .u8 5, .int .u8 6] 5) = w72 at *
            try dsimp only
            refine hK.out _ _ (fun _ => MS.keep hHeld hb) fun hHeld => ?_
            clear hK K
            try simp only [pU, pU0, pA, pB, pC]
            have hHeld := hHeld (by kernel_rfl)
            have HN29 := Lib.hid hn29
            have HN28 := Lib.hid (cells_keep HN28.out hb)
            clear hn29 hv29 hb
            refine on 25 rfl fun K hK => ?_
            go_simp
            have hn25 := bytes_lit w72 #[.int .u8 7] [7] (by simp [maxLen]) rfl
            have hb := nextA (Mem.start w72) (.cells #[.int .u8 7] 5)
            obtain ⟨v25, hv25⟩ : ∃ x, w72.heap.size = x := ⟨_, rfl⟩
            rw [hv25] at hn25 ⊢
            generalize w72.alloc (.cells #[.int .u8 7] 5) = w73 at *
            try dsimp only
            refine hK.out _ _ (fun _ => MS.keep hHeld hb) fun hHeld => ?_
            clear hK K
            try simp only [pU, pU0, pA, pB, pC]
            have hHeld := hHeld (by kernel_rfl)
            have HN25 := Lib.hid hn25
            have HN28 := Lib.hid (cells_keep HN28.out hb)
            have HN29 := Lib.hid (cells_keep HN29.out hb)
            clear hn25 hv25 hb
            refine pu 26 ?_
            exact REST v25 v28 v29 w73 ⟨hHeld, HN25.out, HN28.out, HN29.out⟩
          ·skip
           go_simp
           have hn29 := bytes_lit wd #[.int .u8 5, .int .u8 6] [5, 6] (by simp [maxLen]) rfl
           have hb := nextA (Mem.start wd) (.cells #[.int .u8 5, .int .u8 6] 5)
           obtain ⟨v29, hv29⟩ : ∃ x, wd.heap.size = x := ⟨_, rfl⟩
           rw [hv29] at hn29 ⊢
           generalize wd.alloc (.cells #[.int .u8 5, .int .u8 6] 5) = w71 at *
           try dsimp only
           refine hK.out _ _ (fun _ => MS.keep hHeld hb) fun hHeld => ?_
           clear hK K
           try simp only [pU, pU0, pA, pB, pC]
           have hHeld := hHeld (by kernel_rfl)
           have HN29 := Lib.hid hn29
           clear hn29 hv29 hb
           refine tw 25 28 rfl rfl (fun K hK => ?_) (fun K hK => ?_)
           ·skip
            go_simp
            have hn25 := bytes_lit w71 #[.int .u8 7] [7] (by simp [maxLen]) rfl
            have hb := nextA (Mem.start w71) (.cells #[.int .u8 7] 5)
            obtain ⟨v25, hv25⟩ : ∃ x, w71.heap.size = x := ⟨_, rfl⟩
            rw [hv25] at hn25 ⊢
            generalize w71.alloc (.cells #[.int .u8 7] 5) = w72 at *
            try dsimp only
            refine hK.out _ _ (fun _ => MS.keep hHeld hb) fun hHeld => ?_
            clear hK K
            try simp only [pU, pU0, pA, pB, pC]
            have hHeld := hHeld (by kernel_rfl)
            have HN25 := Lib.hid hn25
            have HN29 := Lib.hid (cells_keep HN29.out hb)
            clear hn25 hv25 hb
            refine pu 26 ?_
            refine on 28 rfl fun K hK => ?_
            go_simp
            have hn28 := ints_lit w72 #[.int .i64 0, .int .i64 kv] [0, kv] (by simp [maxLen]) rfl
            have hb := nextA (Mem.start w72) (.cells #[.int .i64 0, .int .i64 kv] 3)
            obtain ⟨v28, hv28⟩ : ∃ x, w72.heap.size = x := ⟨_, rfl⟩
            rw [hv28] at hn28 ⊢
            generalize w72.alloc (.cells #[.int .i64 0, .int .i64 kv] 3) = w73 at *
            try dsimp only
            refine hK.out _ _ (fun _ => MS.keep hHeld hb) fun hHeld => ?_
            clear hK K
            try simp only [pU, pU0, pA, pB, pC]
            have hHeld := hHeld (by kernel_rfl)
            have HN28 := Lib.hid hn28
            have HN29 := Lib.hid (cells_keep HN29.out hb)
            have HN25 := Lib.hid (cells_keep HN25.out hb)
            clear hn28 hv28 hb
            exact REST v25 v28 v29 w73 ⟨hHeld, HN25.out, HN28.out, HN29.out⟩
           ·skip
            go_simp
            have hn28 := ints_lit w71 #[.int .i64 0, .int .i64 kv] [0, kv] (by simp [maxLen]) rfl
            have hb := nextA (Mem.start w71) (.cells #[.int .i64 0, .int .i64 kv] 3)
            obtain ⟨v28, hv28⟩ : ∃ x, w71.heap.size = x := ⟨_, rfl⟩
            rw [hv28] at hn28 ⊢
            generalize w71.alloc (.cells #[.int .i64 0, .int .i64 kv] 3) = w72 at *
            try dsimp only
            refine hK.out _ _ (fun _ => MS.keep hHeld hb) fun hHeld => ?_
            clear hK K
            try simp only [pU, pU0, pA, pB, pC]
            have hHeld := hHeld (by kernel_rfl)
            have HN28 := Lib.hid hn28
            have HN29 := Lib.hid (cells_keep HN29.out hb)
            clear hn28 hv28 hb
            refine on 25 rfl fun K hK => ?_
            go_simp
            have hn25 := bytes_lit w72 #[.int .u8 7] [7] (by simp [maxLen]) rfl
            have hb := nextA (Mem.start w72) (.cells #[.int .u8 7] 5)
            obtain ⟨v25, hv25⟩ : ∃ x, w72.heap.size = x := ⟨_, rfl⟩
            rw [hv25] at hn25 ⊢
            generalize w72.alloc (.cells #[.int .u8 7] 5) = w73 at *
            try dsimp only
            refine hK.out _ _ (fun _ => MS.keep hHeld hb) fun hHeld => ?_
            clear hK K
            try simp only [pU, pU0, pA, pB, pC]
            have hHeld := hHeld (by kernel_rfl)
            have HN25 := Lib.hid hn25
            have HN29 := Lib.hid (cells_keep HN29.out hb)
            have HN28 := Lib.hid (cells_keep HN28.out hb)
            clear hn25 hv25 hb
            refine pu 26 ?_
            exact REST v25 v28 v29 w73 ⟨hHeld, HN25.out, HN28.out, HN29.out⟩
         case rest =>
         intro v25 v28 v29 w69 h
         have hHeld := h.1
         have HN25 := Lib.hid h.2.1
         have HN28 := Lib.hid h.2.2.1
         have HN29 := Lib.hid h.2.2.2
         clear h
         refine on 31 rfl fun K hK => ?_
         go_simp
         refine (makes_l (⟨rfl, HN25.out, by decide, by unfold maxLen; decide, by decide, by decide⟩ : Mt w69 1 1 (some ⟨v25, 0, none⟩) [7] 1 1) HN28.out rfl (Nat.le_refl _) (show 2 ≤ maxLen by unfold maxLen; decide) (zk_in HKV.out) HN29.out rfl (Nat.le_refl _) (show 2 ≤ maxLen by unfold maxLen; decide) nv (ns5_in HNV.out)).mono ?_
         rintro e w71 ⟨rfl, hb⟩
         try dsimp only
         refine hK.out _ _ (fun _ => MS.keep hHeld hb) fun hHeld => ?_
         clear hK K
         try simp only [pU, pU0, pA, pB, pC]
         have hHeld := hHeld (by kernel_rfl)
         clear hb
         refine pu 32 ?_
         refine pu 33 ?_
         refine pu 34 ?_
         refine tk 35 rfl (by intro w hSw; obtain ⟨k0, k1, k2⟩ := MS.cells hSw mm0; go_simp; try with_reducible rfl) ?_
         refine tk 37 rfl (by intro w hSw; obtain ⟨k0, k1, k2⟩ := MS.cells hSw mm0; go_simp; try with_reducible rfl) ?_
         refine on 36 rfl fun K hK => ?_
         go_simp
         refine (right_any w71 nv kv none 0 0).mono ?_
         rintro e w72 ⟨rfl, hb⟩
         obtain ⟨rb, hrb⟩ : ∃ x, rightB nv kv 0 = x := ⟨_, rfl⟩
         rw [hrb]
         try dsimp only
         refine hK.out _ _ (fun _ => MS.keep hHeld hb) fun hHeld => ?_
         clear hK K
         try simp only [pU, pU0, pA, pB, pC]
         have hHeld := hHeld (by kernel_rfl)
         clear hb
         refine on 38 rfl fun K hK => ?_
         go_simp
         refine (plain_any w72 nv kv none 0 0).mono ?_
         rintro e w73 ⟨rfl, hb⟩
         try dsimp only
         refine hK.out _ _ (fun _ => MS.keep hHeld hb) fun hHeld => ?_
         clear hK K
         try simp only [pU, pU0, pA, pB, pC]
         have hHeld := hHeld (by kernel_rfl)
         clear hb
         refine on 39 rfl fun K hK => ?_
         go_simp
         refine (rright_any w73 nv kv none 0 0).mono ?_
         rintro e w74 ⟨rfl, hb⟩
         rw [hrb]
         try dsimp only
         refine hK.out _ _ (fun _ => MS.keep hHeld hb) fun hHeld => ?_
         clear hK K
         try simp only [pU, pU0, pA, pB, pC]
         have hHeld := hHeld (by kernel_rfl)
         clear hb
         refine pu 40 ?_
         refine pu 41 ?_
         refine wpAnyG_done (by kernel_rfl) ?_ _
         refine NoPanic.normal ?_
         have hbel := hHeld.below
         have H9 := Lib.hid (And.intro (next HY.out.1 hbel) (And.intro (cells_keep HY.out.2.1 hbel) (cells_keep HY.out.2.2 hbel)))
         clear hbel
         go_wp2_with fail
         go_roundw
         case rel => exact ⟨j2 + 1, by simp, HJ2.out, H9.out⟩
         case measure => simp [intOf]; have := HJ2.out; omega
        | true =>
         as_aux_lemma =>
         refine wp_region_noPanic ?_
         refine wp_heldG (fun V => MS wr none [⟨none, [], 0⟩] [(g9, #[.int .i64 nv, .int .i64 kv, .slice none 0 0])] V) [] (by kernel_rfl) ?hs0 ?rg0
         case hs0 => exact L1.out.keep (nextN (Mem.start w9) 1)
         case rg0 =>
         intro hHeld
         generalize w9.drew = wd at *
         refine pu 0 ?_
         refine pu 1 ?_
         refine pu 2 ?_
         refine pu 3 ?_
         refine pu 4 ?_
         refine pu 5 ?_
         refine pu 6 ?_
         refine tk 7 rfl (by intro w hSw; obtain ⟨k0, k1, k2⟩ := MS.cells hSw mm0; go_simp; try with_reducible rfl) ?_
         refine on 8 rfl fun K hK => ?_
         go_simp
         refine (one_l (mt_of hHeld mm0 rfl (h1 := ns5_in HNV.out) (h2 := kn5_in HKV.out))).mono ?_
         rintro e w71 ⟨rfl, hb⟩
         try dsimp only
         refine hK.out _ _ (fun _ => MS.keep hHeld hb) fun hHeld => ?_
         clear hK K
         try simp only [pU, pU0, pA, pB, pC]
         have hHeld := hHeld (by kernel_rfl)
         clear hb
         refine pu 9 ?_
         refine pu 10 ?_
         refine tk 11 rfl (by intro w hSw; obtain ⟨k0, k1, k2⟩ := MS.cells hSw mm0; go_simp; try with_reducible rfl) ?_
         refine tk 12 rfl (by intro w hSw; obtain ⟨k0, k1, k2⟩ := MS.cells hSw mm0; go_simp; try with_reducible rfl) ?_
         refine on 13 rfl fun K hK => ?_
         go_simp
         refine (two_l (mt_of hHeld mm0 rfl (h1 := ns5_in HNV.out) (h2 := kn5_in HKV.out)) (mt_of hHeld mm0 rfl (h1 := ns5_in HNV.out) (h2 := kn5_in HKV.out))).mono ?_
         rintro e w72 ⟨rfl, hb⟩
         try dsimp only
         refine hK.out _ _ (fun _ => MS.keep hHeld hb) fun hHeld => ?_
         clear hK K
         try simp only [pU, pU0, pA, pB, pC]
         have hHeld := hHeld (by kernel_rfl)
         clear hb
         refine pu 14 ?_
         refine pu 15 ?_
         refine pu 16 ?_
         refine tk 17 rfl (by intro w hSw; obtain ⟨k0, k1, k2⟩ := MS.cells hSw mm0; go_simp; try with_reducible rfl) ?_
         refine tk 18 rfl (by intro w hSw; obtain ⟨k0, k1, k2⟩ := MS.cells hSw mm0; go_simp; try with_reducible rfl) ?_
         refine tk 19 rfl (by intro w hSw; obtain ⟨k0, k1, k2⟩ := MS.cells hSw mm0; go_simp; try with_reducible rfl) ?_
         refine on 20 rfl fun K hK => ?_
         go_simp
         refine (solves_l (mt_of hHeld mm0 rfl (h1 := ns5_in HNV.out) (h2 := kn5_in HKV.out)) (mt_of hHeld mm0 rfl (h1 := ns5_in HNV.out) (h2 := kn5_in HKV.out)) (mt_of hHeld mm0 rfl (h1 := ns5_in HNV.out) (h2 := kn5_in HKV.out))).mono ?_
         rintro e w73 ⟨rfl, hb⟩
         try dsimp only
         refine hK.out _ _ (fun _ => MS.keep hHeld hb) fun hHeld => ?_
         clear hK K
         try simp only [pU, pU0, pA, pB, pC]
         have hHeld := hHeld (by kernel_rfl)
         clear hb
         refine pu 21 ?_
         refine pu 22 ?_
         refine pu 23 ?_
         refine pu 24 ?_
         apply via3 (H := fun a b c W => MS wr none [⟨none, [], 0⟩] [(g9, #[.int .i64 nv, .int .i64 kv, .slice none 0 0])] W ∧ Bytes W W.heap.size (some ⟨a, 0, none⟩) [7] ∧ Cells W W.heap.size (some ⟨b, 0, none⟩) ([0, kv].map i64v) ∧ Bytes W W.heap.size (some ⟨c, 0, none⟩) [5, 6])
         case main =>
          intro REST
          refine pu 27 ?_
          refine pu 30 ?_
          refine th 25 28 29 rfl rfl rfl (fun K hK => ?_) (fun K hK => ?_) (fun K hK => ?_)
          ·skip
           go_simp
           have hn25 := bytes_lit w73 #[.int .u8 7] [7] (by simp [maxLen]) rfl
           have hb := nextA (Mem.start w73) (.cells #[.int .u8 7] 5)
           obtain ⟨v25, hv25⟩ : ∃ x, w73.heap.size = x := ⟨_, rfl⟩
           rw [hv25] at hn25 ⊢
           generalize w73.alloc (.cells #[.int .u8 7] 5) = w74 at *
           try dsimp only
           refine hK.out _ _ (fun _ => MS.keep hHeld hb) fun hHeld => ?_
           clear hK K
           try simp only [pU, pU0, pA, pB, pC]
           have hHeld := hHeld (by kernel_rfl)
           have HN25 := Lib.hid hn25
           clear hn25 hv25 hb
           refine pu 26 ?_
           refine tw 28 29 rfl rfl (fun K hK => ?_) (fun K hK => ?_)
           ·skip
            go_simp
            have hn28 := ints_lit w74 #[.int .i64 0, .int .i64 kv] [0, kv] (by simp [maxLen]) rfl
            have hb := nextA (Mem.start w74) (.cells #[.int .i64 0, .int .i64 kv] 3)
            obtain ⟨v28, hv28⟩ : ∃ x, w74.heap.size = x := ⟨_, rfl⟩
            rw [hv28] at hn28 ⊢
            generalize w74.alloc (.cells #[.int .i64 0, .int .i64 kv] 3) = w75 at *
            try dsimp only
            refine hK.out _ _ (fun _ => MS.keep hHeld hb) fun hHeld => ?_
            clear hK K
            try simp only [pU, pU0, pA, pB, pC]
            have hHeld := hHeld (by kernel_rfl)
            have HN28 := Lib.hid hn28
            have HN25 := Lib.hid (cells_keep HN25.out hb)
            clear hn28 hv28 hb
            refine on 29 rfl fun K hK => ?_
            go_simp
            have hn29 := bytes_lit w75 #[.int .u8 5, .int .u8 6] [5, 6] (by simp [maxLen]) rfl
            have hb := nextA (Mem.start w75) (.cells #[.int .u8 5, .int .u8 6] 5)
            obtain ⟨v29, hv29⟩ : ∃ x, w75.heap.size = x := ⟨_, rfl⟩
            rw [hv29] at hn29 ⊢
            generalize w75.alloc (.cells #[.int .u8 5, .int .u8 6] 5) = w76 at *
            try dsimp only
            refine hK.out _ _ (fun _ => MS.keep hHeld hb) fun hHeld => ?_
            clear hK K
            try simp only [pU, pU0, pA, pB, pC]
            have hHeld := hHeld (by kernel_rfl)
            have HN29 := Lib.hid hn29
            have HN25 := Lib.hid (cells_keep HN25.out hb)
            have HN28 := Lib.hid (cells_keep HN28.out hb)
            clear hn29 hv29 hb
            exact REST v25 v28 v29 w76 ⟨hHeld, HN25.out, HN28.out, HN29.out⟩
           ·skip
            go_simp
            have hn29 := bytes_lit w74 #[.int .u8 5, .int .u8 6] [5, 6] (by simp [maxLen]) rfl
            have hb := nextA (Mem.start w74) (.cells #[.int .u8 5, .int .u8 6] 5)
            obtain ⟨v29, hv29⟩ : ∃ x, w74.heap.size = x := ⟨_, rfl⟩
            rw [hv29] at hn29 ⊢
            generalize w74.alloc (.cells #[.int .u8 5, .int .u8 6] 5) = w75 at *
            try dsimp only
            refine hK.out _ _ (fun _ => MS.keep hHeld hb) fun hHeld => ?_
            clear hK K
            try simp only [pU, pU0, pA, pB, pC]
            have hHeld := hHeld (by kernel_rfl)
            have HN29 := Lib.hid hn29
            have HN25 := Lib.hid (cells_keep HN25.out hb)
            clear hn29 hv29 hb
            refine on 28 rfl fun K hK => ?_
            go_simp
            have hn28 := ints_lit w75 #[.int .i64 0, .int .i64 kv] [0, kv] (by simp [maxLen]) rfl
            have hb := nextA (Mem.start w75) (.cells #[.int .i64 0, .int .i64 kv] 3)
            obtain ⟨v28, hv28⟩ : ∃ x, w75.heap.size = x := ⟨_, rfl⟩
            rw [hv28] at hn28 ⊢
            generalize w75.alloc (.cells #[.int .i64 0, .int .i64 kv] 3) = w76 at *
            try dsimp only
            refine hK.out _ _ (fun _ => MS.keep hHeld hb) fun hHeld => ?_
            clear hK K
            try simp only [pU, pU0, pA, pB, pC]
            have hHeld := hHeld (by kernel_rfl)
            have HN28 := Lib.hid hn28
            have HN25 := Lib.hid (cells_keep HN25.out hb)
            have HN29 := Lib.hid (cells_keep HN29.out hb)
            clear hn28 hv28 hb
            exact REST v25 v28 v29 w76 ⟨hHeld, HN25.out, HN28.out, HN29.out⟩
          ·skip
           go_simp
           have hn28 := ints_lit w73 #[.int .i64 0, .int .i64 kv] [0, kv] (by simp [maxLen]) rfl
           have hb := nextA (Mem.start w73) (.cells #[.int .i64 0, .int .i64 kv] 3)
           obtain ⟨v28, hv28⟩ : ∃ x, w73.heap.size = x := ⟨_, rfl⟩
           rw [hv28] at hn28 ⊢
           generalize w73.alloc (.cells #[.int .i64 0, .int .i64 kv] 3) = w74 at *
           try dsimp only
           refine hK.out _ _ (fun _ => MS.keep hHeld hb) fun hHeld => ?_
           clear hK K
           try simp only [pU, pU0, pA, pB, pC]
           have hHeld := hHeld (by kernel_rfl)
           have HN28 := Lib.hid hn28
           clear hn28 hv28 hb
           refine tw 25 29 rfl rfl (fun K hK => ?_) (fun K hK => ?_)
           ·skip
            go_simp
            have hn25 := bytes_lit w74 #[.int .u8 7] [7] (by simp [maxLen]) rfl
            have hb := nextA (Mem.start w74) (.cells #[.int .u8 7] 5)
            obtain ⟨v25, hv25⟩ : ∃ x, w74.heap.size = x := ⟨_, rfl⟩
            rw [hv25] at hn25 ⊢
            generalize w74.alloc (.cells #[.int .u8 7] 5) = w75 at *
            try dsimp only
            refine hK.out _ _ (fun _ => MS.keep hHeld hb) fun hHeld => ?_
            clear hK K
            try simp only [pU, pU0, pA, pB, pC]
            have hHeld := hHeld (by kernel_rfl)
            have HN25 := Lib.hid hn25
            have HN28 := Lib.hid (cells_keep HN28.out hb)
            clear hn25 hv25 hb
            refine pu 26 ?_
            refine on 29 rfl fun K hK => ?_
            go_simp
            have hn29 := bytes_lit w75 #[.int .u8 5, .int .u8 6] [5, 6] (by simp [maxLen]) rfl
            have hb := nextA (Mem.start w75) (.cells #[.int .u8 5, .int .u8 6] 5)
            obtain ⟨v29, hv29⟩ : ∃ x, w75.heap.size = x := ⟨_, rfl⟩
            rw [hv29] at hn29 ⊢
            generalize w75.alloc (.cells #[.int .u8 5, .int .u8 6] 5) = w76 at *
            try dsimp only
            refine hK.out _ _ (fun _ => MS.keep hHeld hb) fun hHeld => ?_
            clear hK K
            try simp only [pU, pU0, pA, pB, pC]
            have hHeld := hHeld (by kernel_rfl)
            have HN29 := Lib.hid hn29
            have HN28 := Lib.hid (cells_keep HN28.out hb)
            have HN25 := Lib.hid (cells_keep HN25.out hb)
            clear hn29 hv29 hb
            exact REST v25 v28 v29 w76 ⟨hHeld, HN25.out, HN28.out, HN29.out⟩
           ·skip
            go_simp
            have hn29 := bytes_lit w74 #[.int .u8 5, .int .u8 6] [5, 6] (by simp [maxLen]) rfl
            have hb := nextA (Mem.start w74) (.cells #[.int .u8 5, .int .u8 6] 5)
            obtain ⟨v29, hv29⟩ : ∃ x, w74.heap.size = x := ⟨_, rfl⟩
            rw [hv29] at hn29 ⊢
            generalize w74.alloc (.cells #[.int .u8 5, .int .u8 6] 5) = w75 at *
            try dsimp only
            refine hK.out _ _ (fun _ => MS.keep hHeld hb) fun hHeld => ?_
            clear hK K
            try simp only [pU, pU0, pA, pB, pC]
            have hHeld := hHeld (by kernel_rfl)
            have HN29 := Lib.hid hn29
            have HN28 := Lib.hid (cells_keep HN28.out hb)
            clear hn29 hv29 hb
            refine on 25 rfl fun K hK => ?_
            go_simp
            have hn25 := bytes_lit w75 #[.int .u8 7] [7] (by simp [maxLen]) rfl
            have hb := nextA (Mem.start w75) (.cells #[.int .u8 7] 5)
            obtain ⟨v25, hv25⟩ : ∃ x, w75.heap.size = x := ⟨_, rfl⟩
            rw [hv25] at hn25 ⊢
            generalize w75.alloc (.cells #[.int .u8 7] 5) = w76 at *
            try dsimp only
            refine hK.out _ _ (fun _ => MS.keep hHeld hb) fun hHeld => ?_
            clear hK K
            try simp only [pU, pU0, pA, pB, pC]
            have hHeld := hHeld (by kernel_rfl)
            have HN25 := Lib.hid hn25
            have HN28 := Lib.hid (cells_keep HN28.out hb)
            have HN29 := Lib.hid (cells_keep HN29.out hb)
            clear hn25 hv25 hb
            refine pu 26 ?_
            exact REST v25 v28 v29 w76 ⟨hHeld, HN25.out, HN28.out, HN29.out⟩
          ·skip
           go_simp
           have hn29 := bytes_lit w73 #[.int .u8 5, .int .u8 6] [5, 6] (by simp [maxLen]) rfl
           have hb := nextA (Mem.start w73) (.cells #[.int .u8 5, .int .u8 6] 5)
           obtain ⟨v29, hv29⟩ : ∃ x, w73.heap.size = x := ⟨_, rfl⟩
           rw [hv29] at hn29 ⊢
           generalize w73.alloc (.cells #[.int .u8 5, .int .u8 6] 5) = w74 at *
           try dsimp only
           refine hK.out _ _ (fun _ => MS.keep hHeld hb) fun hHeld => ?_
           clear hK K
           try simp only [pU, pU0, pA, pB, pC]
           have hHeld := hHeld (by kernel_rfl)
           have HN29 := Lib.hid hn29
           clear hn29 hv29 hb
           refine tw 25 28 rfl rfl (fun K hK => ?_) (fun K hK => ?_)
           ·skip
            go_simp
            have hn25 := bytes_lit w74 #[.int .u8 7] [7] (by simp [maxLen]) rfl
            have hb := nextA (Mem.start w74) (.cells #[.int .u8 7] 5)
            obtain ⟨v25, hv25⟩ : ∃ x, w74.heap.size = x := ⟨_, rfl⟩
            rw [hv25] at hn25 ⊢
            generalize w74.alloc (.cells #[.int .u8 7] 5) = w75 at *
            try dsimp only
            refine hK.out _ _ (fun _ => MS.keep hHeld hb) fun hHeld => ?_
            clear hK K
            try simp only [pU, pU0, pA, pB, pC]
            have hHeld := hHeld (by kernel_rfl)
            have HN25 := Lib.hid hn25
            have HN29 := Lib.hid (cells_keep HN29.out hb)
            clear hn25 hv25 hb
            refine pu 26 ?_
            refine on 28 rfl fun K hK => ?_
            go_simp
            have hn28 := ints_lit w75 #[.int .i64 0, .int .i64 kv] [0, kv] (by simp [maxLen]) rfl
            have hb := nextA (Mem.start w75) (.cells #[.int .i64 0, .int .i64 kv] 3)
            obtain ⟨v28, hv28⟩ : ∃ x, w75.heap.size = x := ⟨_, rfl⟩
            rw [hv28] at hn28 ⊢
            generalize w75.alloc (.cells #[.int .i64 0, .int .i64 kv] 3) = w76 at *
            try dsimp only
            refine hK.out _ _ (fun _ => MS.keep hHeld hb) fun hHeld => ?_
            clear hK K
            try simp only [pU, pU0, pA, pB, pC]
            have hHeld := hHeld (by kernel_rfl)
            have HN28 := Lib.hid hn28
            have HN29 := Lib.hid (cells_keep HN29.out hb)
            have HN25 := Lib.hid (cells_keep HN25.out hb)
            clear hn28 hv28 hb
            exact REST v25 v28 v29 w76 ⟨hHeld, HN25.out, HN28.out, HN29.out⟩
           ·skip
            go_simp
            have hn28 := ints_lit w74 #[.int .i64 0, .int .i64 kv] [0, kv] (by simp [maxLen]) rfl
            have hb := nextA (Mem.start w74) (.cells #[.int .i64 0, .int .i64 kv] 3)
            obtain ⟨v28, hv28⟩ : ∃ x, w74.heap.size = x := ⟨_, rfl⟩
            rw [hv28] at hn28 ⊢
            generalize w74.alloc (.cells #[.int .i64 0, .int .i64 kv] 3) = w75 at *
            try dsimp only
            refine hK.out _ _ (fun _ => MS.keep hHeld hb) fun hHeld => ?_
            clear hK K
            try simp only [pU, pU0, pA, pB, pC]
            have hHeld := hHeld (by kernel_rfl)
            have HN28 := Lib.hid hn28
            have HN29 := Lib.hid (cells_keep HN29.out hb)
            clear hn28 hv28 hb
            refine on 25 rfl fun K hK => ?_
            go_simp
            have hn25 := bytes_lit w75 #[.int .u8 7] [7] (by simp [maxLen]) rfl
            have hb := nextA (Mem.start w75) (.cells #[.int .u8 7] 5)
            obtain ⟨v25, hv25⟩ : ∃ x, w75.heap.size = x := ⟨_, rfl⟩
            rw [hv25] at hn25 ⊢
            generalize w75.alloc (.cells #[.int .u8 7] 5) = w76 at *
            try dsimp only
            refine hK.out _ _ (fun _ => MS.keep hHeld hb) fun hHeld => ?_
            clear hK K
            try simp only [pU, pU0, pA, pB, pC]
            have hHeld := hHeld (by kernel_rfl)
            have HN25 := Lib.hid hn25
            have HN29 := Lib.hid (cells_keep HN29.out hb)
            have HN28 := Lib.hid (cells_keep HN28.out hb)
            clear hn25 hv25 hb
            refine pu 26 ?_
            exact REST v25 v28 v29 w76 ⟨hHeld, HN25.out, HN28.out, HN29.out⟩
         case rest =>
         intro v25 v28 v29 w69 h
         have hHeld := h.1
         have HN25 := Lib.hid h.2.1
         have HN28 := Lib.hid h.2.2.1
         have HN29 := Lib.hid h.2.2.2
         clear h
         refine on 31 rfl fun K hK => ?_
         go_simp
         refine (makes_l (⟨rfl, HN25.out, by decide, by unfold maxLen; decide, by decide, by decide⟩ : Mt w69 1 1 (some ⟨v25, 0, none⟩) [7] 1 1) HN28.out rfl (Nat.le_refl _) (show 2 ≤ maxLen by unfold maxLen; decide) (zk_in HKV.out) HN29.out rfl (Nat.le_refl _) (show 2 ≤ maxLen by unfold maxLen; decide) nv (ns5_in HNV.out)).mono ?_
         rintro e w74 ⟨rfl, hb⟩
         try dsimp only
         refine hK.out _ _ (fun _ => MS.keep hHeld hb) fun hHeld => ?_
         clear hK K
         try simp only [pU, pU0, pA, pB, pC]
         have hHeld := hHeld (by kernel_rfl)
         clear hb
         refine pu 32 ?_
         refine pu 33 ?_
         refine pu 34 ?_
         refine tk 35 rfl (by intro w hSw; obtain ⟨k0, k1, k2⟩ := MS.cells hSw mm0; go_simp; try with_reducible rfl) ?_
         refine tk 37 rfl (by intro w hSw; obtain ⟨k0, k1, k2⟩ := MS.cells hSw mm0; go_simp; try with_reducible rfl) ?_
         refine on 36 rfl fun K hK => ?_
         go_simp
         refine (right_any w74 nv kv none 0 0).mono ?_
         rintro e w75 ⟨rfl, hb⟩
         obtain ⟨rb, hrb⟩ : ∃ x, rightB nv kv 0 = x := ⟨_, rfl⟩
         rw [hrb]
         try dsimp only
         refine hK.out _ _ (fun _ => MS.keep hHeld hb) fun hHeld => ?_
         clear hK K
         try simp only [pU, pU0, pA, pB, pC]
         have hHeld := hHeld (by kernel_rfl)
         clear hb
         refine on 38 rfl fun K hK => ?_
         go_simp
         refine (plain_any w75 nv kv none 0 0).mono ?_
         rintro e w76 ⟨rfl, hb⟩
         try dsimp only
         refine hK.out _ _ (fun _ => MS.keep hHeld hb) fun hHeld => ?_
         clear hK K
         try simp only [pU, pU0, pA, pB, pC]
         have hHeld := hHeld (by kernel_rfl)
         clear hb
         refine on 39 rfl fun K hK => ?_
         go_simp
         refine (rright_any w76 nv kv none 0 0).mono ?_
         rintro e w77 ⟨rfl, hb⟩
         rw [hrb]
         try dsimp only
         refine hK.out _ _ (fun _ => MS.keep hHeld hb) fun hHeld => ?_
         clear hK K
         try simp only [pU, pU0, pA, pB, pC]
         have hHeld := hHeld (by kernel_rfl)
         clear hb
         refine pu 40 ?_
         refine pu 41 ?_
         refine wpAnyG_done (by kernel_rfl) ?_ _
         refine NoPanic.normal ?_
         have hbel := hHeld.below
         have H9 := Lib.hid (And.intro (next HY.out.1 hbel) (And.intro (cells_keep HY.out.2.1 hbel) (cells_keep HY.out.2.2 hbel)))
         clear hbel
         go_wp2_with fail
         go_roundw
         case rel => exact ⟨j2 + 1, by simp, HJ2.out, H9.out⟩
         case measure => simp [intOf]; have := HJ2.out; omega
      ·obtain rfl : j2 = 5 := by omega
       clear hjl hj2
       go_wp2_with fail
       go_roundw
       case rel => exact ⟨j + 1, by simp, HJ.out, HY.out.1, HY.out.2.1⟩
       case measure => simp [intOf]; have := HJ.out; omega
    ·obtain rfl : j = 7 := by omega
     clear hjl hj
     clear d81
     have HB := Lib.hid HX.out.1
     obtain ⟨w70, hw70⟩ : ∃ x : World, wr = x := ⟨_, rfl⟩
     rw [hw70] at HB ⊢
     clear hw70 HX
     have HM := Lib.hid (show ∃ x, x = ((w70.alloc (.cells #[.int .u8 1, .int .u8 2, .int .u8 3, .int .u8 4, .int .u8 5, .int .u8 6] 5)).alloc (.cells #[.int .i64 1, .int .i64 0, .int .i64 1] 3)).alloc (.cells #[.int .u8 0, .int .u8 1, .int .u8 2] 5) ∧ Bytes x x.heap.size (some ⟨w70.heap.size, 0, none⟩) [1, 2, 3, 4, 5, 6] ∧ Cells x x.heap.size (some ⟨w70.heap.size + 1, 0, none⟩) ([1, 0, 1].map i64v) ∧ Bytes x x.heap.size (some ⟨w70.heap.size + 1 + 1, 0, none⟩) [0, 1, 2] ∧ Below w.heap.size w x from by
      have n1 := bytes_lit w70 #[.int .u8 1, .int .u8 2, .int .u8 3, .int .u8 4, .int .u8 5, .int .u8 6] [1, 2, 3, 4, 5, 6] (by simp [maxLen]) rfl
      have n2 := ints_lit (w70.alloc (.cells #[.int .u8 1, .int .u8 2, .int .u8 3, .int .u8 4, .int .u8 5, .int .u8 6] 5)) #[.int .i64 1, .int .i64 0, .int .i64 1] [1, 0, 1] (by simp [maxLen]) rfl
      have n3 := bytes_lit ((w70.alloc (.cells #[.int .u8 1, .int .u8 2, .int .u8 3, .int .u8 4, .int .u8 5, .int .u8 6] 5)).alloc (.cells #[.int .i64 1, .int .i64 0, .int .i64 1] 3)) #[.int .u8 0, .int .u8 1, .int .u8 2] [0, 1, 2] (by simp [maxLen]) rfl
      refine ⟨_, rfl, cells_keep (cells_keep n1 (nextA (Mem.start _) _)) (nextA (Mem.start _) _), ?_, ?_, nextA (nextA (nextA HB.out _) _) _⟩
      ·have k := cells_keep n2 (nextA (Mem.start _) (.cells #[.int .u8 0, .int .u8 1, .int .u8 2] 5))
       rw [World.size_alloc w70] at k; exact k
      ·have e : ((w70.alloc (.cells #[.int .u8 1, .int .u8 2, .int .u8 3, .int .u8 4, .int .u8 5, .int .u8 6] 5)).alloc (.cells #[.int .i64 1, .int .i64 0, .int .i64 1] 3)).heap.size = w70.heap.size + 1 + 1 := by rw [World.size_alloc, World.size_alloc]
       rw [e] at n3; exact n3)
     obtain ⟨w71, hw71, hm⟩ := HM.out
     have H71 := Lib.hid hm
     clear hm HM
     go_wp2_with fail
     rw [← hw71]
     clear hw71
     refine (makes_l (⟨rfl, H71.out.1, by decide, by unfold maxLen; decide, by decide, by decide⟩ : Mt w71 2 3 (some ⟨w70.heap.size, 0, none⟩) [1, 2, 3, 4, 5, 6] 6 6) (ks := [1, 0, 1]) H71.out.2.1 rfl (Nat.le_refl _) (by unfold maxLen; decide) (by decide) H71.out.2.2.1 rfl (Nat.le_refl _) (by unfold maxLen; decide) 3 (by decide)).mono ?_
     rintro e w72 ⟨rfl, hb⟩
     have H72 := Lib.hid (next H71.out.2.2.2 hb)
     clear hb H71
     go_wp2_with fail
     refine (makes_l (⟨rfl, Bytes.nil, by decide, by unfold maxLen; decide, by decide, by decide⟩ : Mt w72 0 0 none [] 0 0) (ks := []) Cells.nil rfl (Nat.le_refl _) (by unfold maxLen; decide) (by decide) (lc := []) Bytes.nil rfl (Nat.le_refl _) (by unfold maxLen; decide) 0 (by decide)).mono ?_
     rintro e w73 ⟨rfl, hb⟩
     have H73 := Lib.hid (next H72.out hb)
     clear hb
     go_wp2_with fail
     refine (bounds_any w73).mono ?_
     rintro e w74 ⟨rfl, hb⟩
     have H74 := Lib.hid (next H73.out hb)
     clear hb
     go_wp2_with fail
     refine (works_any w74).mono ?_
     rintro e w75 ⟨rfl, hb⟩
     have H75 := Lib.hid (next H74.out hb)
     clear hb
     go_wp2_with fail
     go_ret
     exact ⟨rfl, H75.out⟩
end Go.Proofs.Ythdapoipfnnaeaa.MxW
/- The law MatrixKnown of chapter 05 holds for every input. It has no conditions. -/
namespace Go.Proofs.Ythdapoipfnnaeaa.lawMatrixKnown
open Go.ChangeShapes Go.WideShapes Go.ChangeAt Go.RowKit
open Go.ChangeMaps (open_string shut_string)

theorem own : ownKnob Try.prog.godebug = none := by kernel_rfl
theorem laidOut : laidOutB Try.prog = true := by kernel_rfl

set_option maxRecDepth 100000 in
theorem lifted (os : Os) (started : os.Started) (H : Type) (enc : TypeId × Value → H) :
    ReturnsInHanded {} Try.checked os 10 .any (Rows.matrixKnownSpec.pre6 enc Try.prog Try.f10 Rows.matrixKnownRow.domain false) (Rows.matrixKnownSpec.post enc Try.prog Try.f10 false true false false) := by
 refine returnsInHanded_of_change (C := Try.checked) own started (by kernel_rfl) Try.func10
  (ChangeSpec.witness6 (enc := enc) (C := Try.checked) false ⟨#[], #[], []⟩ 8 (by kernel_rfl) (by kernel_rfl) (by kernel_rfl) (by kernel_rfl)) ?_
 intro W base args ds gs before hval0 hW hcnd _
 have hval : ∀ (j : Nat) t v, Try.f10.params[j]? = some t → args[j]? = some v → Value.okWide Try.prog W .any base t v := hval0
 have hW' := hW
 obtain ⟨p, q, hA0, hV, rfl, hfz, hnd⟩ := hW
 have hA : DataW.TrodAll enc Try.prog W 0 (fun _ => true) true Try.f10.params.toList args.toList ds p := hA0
 rw [Try.params10] at hA hval
 obtain ⟨hargs, rfl, rfl⟩ := trodAll_nil hA
 obtain rfl : args = #[] := by cases args; simp_all
 obtain ⟨rfl, rfl⟩ := trodVars_none hV
 clear hA0 hval0
 refine (MxW.known_law W ).mono fun e W' ⟨he, bel⟩ => ?_
 subst he
 exact ⟨_, rfl, _, _, _, [], _, [], hW', trodAll_mk1 (shut_bool Try.underlying4 _), trodAll_mk0, rfl, bel.frame _, fun h => by cases h⟩

theorem over : Rows.matrixKnownRow.holds Try.pinned (OpenSpec.ofChange Rows.matrixKnownSpec) :=
 OpenClaim.holds_of_wide 10 Try.f10 rfl rfl rfl rfl rfl rfl rfl ⟨rfl, rfl, rfl, rfl, rfl⟩ rfl rfl rfl rfl rfl (by kernel_rfl) Try.func10 (by kernel_rfl)
  (of_decide_eq_true (by kernel_rfl)) (by unfold Func.isWrapper; rw [if_neg (by decide +kernel)]; exact ⟨rfl, rfl⟩)
  (fun os started H enc _ => lifted os started H enc)

theorem proved : Rows.MatrixKnownSaid := over
#print axioms proved
end Go.Proofs.Ythdapoipfnnaeaa.lawMatrixKnown
