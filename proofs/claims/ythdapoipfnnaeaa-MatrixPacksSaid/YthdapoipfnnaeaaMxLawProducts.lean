/- The law MatrixProducts: its walk. -/
import Derived.Test.YthdapoipfnnaeaaTwo
import Derived.Test.YthdapoipfnnaeaaOpenMx
import Derived.Test.YthdapoipfnnaeaaMxPl
import Derived.Test.YthdapoipfnnaeaaMxLawPowers
namespace Go.Proofs.Ythdapoipfnnaeaa.MxW
open Go.RowKit Go.Shelf Mem Gf FdW Mx Rng
open PlW (In)
set_option linter.unusedVariables false
set_option linter.unusedSectionVars false
attribute [local go_sem] Oper.semAt_some wide_fn
open Mx (mulM_assoc id_mulM mulM_turn)
theorem small8 {r s : Nat} (hr : r ≤ 8) (hs : s ≤ 8) : smallB 8 r s (r * s) = true := by
  have h : r * s ≤ 8 * 8 := Nat.mul_le_mul hr hs
  unfold smallB
  rw [decide_eq_true_iff]
  exact ⟨by omega, by omega, by omega⟩
theorem sameB_self (R C : Int) (a : List UInt8) : sameB R C R C a a = true := by unfold sameB; exact decide_eq_true ⟨rfl, rfl, rfl⟩
set_option maxRecDepth 100000 in
set_option maxHeartbeats 4000000 in
theorem products_out0 (w : World)  (Ra Ca : Int) (A : Option Addr) (la : List UInt8) (na ca : Nat) (hla : la.length = na) (hA : Bytes w w.heap.size A la) (hca : la.length ≤ ca) (Rb Cb : Int) (B : Option Addr) (lb : List UInt8) (nb cb : Nat) (hlb : lb.length = nb) (hB : Bytes w w.heap.size B lb) (hcb : lb.length ≤ cb) (Rc Cc : Int) (C : Option Addr) (lc : List UInt8) (nc cc : Nat) (hlc : lc.length = nc) (hC : Bytes w w.heap.size C lc) (hcc : lc.length ≤ cc) (hsa : smallB 8 Ra Ca na = false) :
    Calls Try.prog 7 #[.agg #[.int .i64 Ra, .int .i64 Ca, .slice A na ca], .agg #[.int .i64 Rb, .int .i64 Cb, .slice B nb cb], .agg #[.int .i64 Rc, .int .i64 Cc, .slice C nc cc]] w fun e w' => e = .returned (.bool true) ∧ Below w.heap.size w w' := by
  have H0 := Lib.hid ((((MS.start w).arg hA hca).arg hB hcb).arg hC hcc)
  have HLNa := Lib.hid hla
  have HLNb := Lib.hid hlb
  have HLNc := Lib.hid hlc
  have HSa := Lib.hid hsa
  clear hA hca hla hB hcb hlb hC hcc hlc hsa
  go_enter Try.func7, Try.ntmps7
  have L1 := Lib.hid (show MS _ _ _ ((w.heap.size, #[.int .i64 Ra, .int .i64 Ca, .slice A na ca]) :: _) (w.alloc (.cells #[.int .i64 Ra, .int .i64 Ca, .slice A na ca] 27)) from by have h := H0.out.put #[.int .i64 Ra, .int .i64 Ca, .slice A na ca]; (try simp only [World.size_alloc] at h); exact h)
  have L2 := Lib.hid (show MS _ _ _ ((w.heap.size + 1, #[.int .i64 Rb, .int .i64 Cb, .slice B nb cb]) :: _) ((w.alloc (.cells #[.int .i64 Ra, .int .i64 Ca, .slice A na ca] 27)).alloc (.cells #[.int .i64 Rb, .int .i64 Cb, .slice B nb cb] 27)) from by have h := L1.out.put #[.int .i64 Rb, .int .i64 Cb, .slice B nb cb]; (try simp only [World.size_alloc] at h); exact h)
  have L3 := Lib.hid (show MS _ _ _ ((w.heap.size + 1 + 1, #[.int .i64 Rc, .int .i64 Cc, .slice C nc cc]) :: _) (((w.alloc (.cells #[.int .i64 Ra, .int .i64 Ca, .slice A na ca] 27)).alloc (.cells #[.int .i64 Rb, .int .i64 Cb, .slice B nb cb] 27)).alloc (.cells #[.int .i64 Rc, .int .i64 Cc, .slice C nc cc] 27)) from by have h := L2.out.put #[.int .i64 Rc, .int .i64 Cc, .slice C nc cc]; (try simp only [World.size_alloc] at h); exact h)
  obtain ⟨a4, b4, d4⟩ := L3.out.cells (.tail _ (.tail _ (.head _)))
  go_wp2_with fail
  clear a4 b4 d4
  have H1 := L3
  clear L1 L2 L3
  generalize (((w.alloc (.cells #[.int .i64 Ra, .int .i64 Ca, .slice A na ca] 27)).alloc (.cells #[.int .i64 Rb, .int .i64 Cb, .slice B nb cb] 27)).alloc (.cells #[.int .i64 Rc, .int .i64 Cc, .slice C nc cc] 27)) = w1 at *
  refine (smallR H1.out 8 (by decide) (v := false) HSa.out).mono ?_
  rintro e w2 ⟨rfl, h⟩
  have H2 := Lib.hid h
  clear h
  go_wp2_with fail
  refine (works_any _).mono ?_
  rintro e w3 ⟨rfl, hb⟩
  have H3 := Lib.hid (MS.keep H2.out hb)
  clear hb
  go_wp2_with fail
  go_ret
  exact ⟨rfl, H3.out.below⟩
set_option maxRecDepth 100000 in
set_option maxHeartbeats 4000000 in
theorem products_out1 (w : World)  (Ra Ca : Int) (A : Option Addr) (la : List UInt8) (na ca : Nat) (hla : la.length = na) (hA : Bytes w w.heap.size A la) (hca : la.length ≤ ca) (Rb Cb : Int) (B : Option Addr) (lb : List UInt8) (nb cb : Nat) (hlb : lb.length = nb) (hB : Bytes w w.heap.size B lb) (hcb : lb.length ≤ cb) (Rc Cc : Int) (C : Option Addr) (lc : List UInt8) (nc cc : Nat) (hlc : lc.length = nc) (hC : Bytes w w.heap.size C lc) (hcc : lc.length ≤ cc) (hsa : smallB 8 Ra Ca na = true) (hsb : smallB 8 Rb Cb nb = false) :
    Calls Try.prog 7 #[.agg #[.int .i64 Ra, .int .i64 Ca, .slice A na ca], .agg #[.int .i64 Rb, .int .i64 Cb, .slice B nb cb], .agg #[.int .i64 Rc, .int .i64 Cc, .slice C nc cc]] w fun e w' => e = .returned (.bool true) ∧ Below w.heap.size w w' := by
  have H0 := Lib.hid ((((MS.start w).arg hA hca).arg hB hcb).arg hC hcc)
  have HLNa := Lib.hid hla
  have HLNb := Lib.hid hlb
  have HLNc := Lib.hid hlc
  have HSa := Lib.hid hsa
  have HSb := Lib.hid hsb
  clear hA hca hla hB hcb hlb hC hcc hlc hsa hsb
  go_enter Try.func7, Try.ntmps7
  have L1 := Lib.hid (show MS _ _ _ ((w.heap.size, #[.int .i64 Ra, .int .i64 Ca, .slice A na ca]) :: _) (w.alloc (.cells #[.int .i64 Ra, .int .i64 Ca, .slice A na ca] 27)) from by have h := H0.out.put #[.int .i64 Ra, .int .i64 Ca, .slice A na ca]; (try simp only [World.size_alloc] at h); exact h)
  have L2 := Lib.hid (show MS _ _ _ ((w.heap.size + 1, #[.int .i64 Rb, .int .i64 Cb, .slice B nb cb]) :: _) ((w.alloc (.cells #[.int .i64 Ra, .int .i64 Ca, .slice A na ca] 27)).alloc (.cells #[.int .i64 Rb, .int .i64 Cb, .slice B nb cb] 27)) from by have h := L1.out.put #[.int .i64 Rb, .int .i64 Cb, .slice B nb cb]; (try simp only [World.size_alloc] at h); exact h)
  have L3 := Lib.hid (show MS _ _ _ ((w.heap.size + 1 + 1, #[.int .i64 Rc, .int .i64 Cc, .slice C nc cc]) :: _) (((w.alloc (.cells #[.int .i64 Ra, .int .i64 Ca, .slice A na ca] 27)).alloc (.cells #[.int .i64 Rb, .int .i64 Cb, .slice B nb cb] 27)).alloc (.cells #[.int .i64 Rc, .int .i64 Cc, .slice C nc cc] 27)) from by have h := L2.out.put #[.int .i64 Rc, .int .i64 Cc, .slice C nc cc]; (try simp only [World.size_alloc] at h); exact h)
  obtain ⟨a4, b4, d4⟩ := L3.out.cells (.tail _ (.tail _ (.head _)))
  go_wp2_with fail
  clear a4 b4 d4
  have H1 := L3
  clear L1 L2 L3
  generalize (((w.alloc (.cells #[.int .i64 Ra, .int .i64 Ca, .slice A na ca] 27)).alloc (.cells #[.int .i64 Rb, .int .i64 Cb, .slice B nb cb] 27)).alloc (.cells #[.int .i64 Rc, .int .i64 Cc, .slice C nc cc] 27)) = w1 at *
  refine (smallR H1.out 8 (by decide) (v := true) HSa.out).mono ?_
  rintro e w2 ⟨rfl, h⟩
  have H2 := Lib.hid h
  clear h
  obtain ⟨a5, b5, d5⟩ := H2.out.cells (.tail _ (.head _))
  go_wp2_with fail
  clear a5 b5 d5
  refine (smallR H2.out 8 (by decide) (v := false) HSb.out).mono ?_
  rintro e w3 ⟨rfl, h⟩
  have H3 := Lib.hid h
  clear h
  go_wp2_with fail
  refine (works_any _).mono ?_
  rintro e w4 ⟨rfl, hb⟩
  have H4 := Lib.hid (MS.keep H3.out hb)
  clear hb
  go_wp2_with fail
  go_ret
  exact ⟨rfl, H4.out.below⟩
set_option maxRecDepth 100000 in
set_option maxHeartbeats 4000000 in
theorem products_out2 (w : World)  (Ra Ca : Int) (A : Option Addr) (la : List UInt8) (na ca : Nat) (hla : la.length = na) (hA : Bytes w w.heap.size A la) (hca : la.length ≤ ca) (Rb Cb : Int) (B : Option Addr) (lb : List UInt8) (nb cb : Nat) (hlb : lb.length = nb) (hB : Bytes w w.heap.size B lb) (hcb : lb.length ≤ cb) (Rc Cc : Int) (C : Option Addr) (lc : List UInt8) (nc cc : Nat) (hlc : lc.length = nc) (hC : Bytes w w.heap.size C lc) (hcc : lc.length ≤ cc) (hsa : smallB 8 Ra Ca na = true) (hsb : smallB 8 Rb Cb nb = true) (hsc : smallB 8 Rc Cc nc = false) :
    Calls Try.prog 7 #[.agg #[.int .i64 Ra, .int .i64 Ca, .slice A na ca], .agg #[.int .i64 Rb, .int .i64 Cb, .slice B nb cb], .agg #[.int .i64 Rc, .int .i64 Cc, .slice C nc cc]] w fun e w' => e = .returned (.bool true) ∧ Below w.heap.size w w' := by
  have H0 := Lib.hid ((((MS.start w).arg hA hca).arg hB hcb).arg hC hcc)
  have HLNa := Lib.hid hla
  have HLNb := Lib.hid hlb
  have HLNc := Lib.hid hlc
  have HSa := Lib.hid hsa
  have HSb := Lib.hid hsb
  have HSc := Lib.hid hsc
  clear hA hca hla hB hcb hlb hC hcc hlc hsa hsb hsc
  go_enter Try.func7, Try.ntmps7
  have L1 := Lib.hid (show MS _ _ _ ((w.heap.size, #[.int .i64 Ra, .int .i64 Ca, .slice A na ca]) :: _) (w.alloc (.cells #[.int .i64 Ra, .int .i64 Ca, .slice A na ca] 27)) from by have h := H0.out.put #[.int .i64 Ra, .int .i64 Ca, .slice A na ca]; (try simp only [World.size_alloc] at h); exact h)
  have L2 := Lib.hid (show MS _ _ _ ((w.heap.size + 1, #[.int .i64 Rb, .int .i64 Cb, .slice B nb cb]) :: _) ((w.alloc (.cells #[.int .i64 Ra, .int .i64 Ca, .slice A na ca] 27)).alloc (.cells #[.int .i64 Rb, .int .i64 Cb, .slice B nb cb] 27)) from by have h := L1.out.put #[.int .i64 Rb, .int .i64 Cb, .slice B nb cb]; (try simp only [World.size_alloc] at h); exact h)
  have L3 := Lib.hid (show MS _ _ _ ((w.heap.size + 1 + 1, #[.int .i64 Rc, .int .i64 Cc, .slice C nc cc]) :: _) (((w.alloc (.cells #[.int .i64 Ra, .int .i64 Ca, .slice A na ca] 27)).alloc (.cells #[.int .i64 Rb, .int .i64 Cb, .slice B nb cb] 27)).alloc (.cells #[.int .i64 Rc, .int .i64 Cc, .slice C nc cc] 27)) from by have h := L2.out.put #[.int .i64 Rc, .int .i64 Cc, .slice C nc cc]; (try simp only [World.size_alloc] at h); exact h)
  obtain ⟨a4, b4, d4⟩ := L3.out.cells (.tail _ (.tail _ (.head _)))
  go_wp2_with fail
  clear a4 b4 d4
  have H1 := L3
  clear L1 L2 L3
  generalize (((w.alloc (.cells #[.int .i64 Ra, .int .i64 Ca, .slice A na ca] 27)).alloc (.cells #[.int .i64 Rb, .int .i64 Cb, .slice B nb cb] 27)).alloc (.cells #[.int .i64 Rc, .int .i64 Cc, .slice C nc cc] 27)) = w1 at *
  refine (smallR H1.out 8 (by decide) (v := true) HSa.out).mono ?_
  rintro e w2 ⟨rfl, h⟩
  have H2 := Lib.hid h
  clear h
  obtain ⟨a5, b5, d5⟩ := H2.out.cells (.tail _ (.head _))
  go_wp2_with fail
  clear a5 b5 d5
  refine (smallR H2.out 8 (by decide) (v := true) HSb.out).mono ?_
  rintro e w3 ⟨rfl, h⟩
  have H3 := Lib.hid h
  clear h
  obtain ⟨a6, b6, d6⟩ := H3.out.cells (.head _)
  go_wp2_with fail
  clear a6 b6 d6
  refine (smallR H3.out 8 (by decide) (v := false) HSc.out).mono ?_
  rintro e w4 ⟨rfl, h⟩
  have H4 := Lib.hid h
  clear h
  go_wp2_with fail
  refine (works_any _).mono ?_
  rintro e w5 ⟨rfl, hb⟩
  have H5 := Lib.hid (MS.keep H4.out hb)
  clear hb
  go_wp2_with fail
  go_ret
  exact ⟨rfl, H5.out.below⟩
set_option maxRecDepth 100000 in
set_option maxHeartbeats 4000000 in
theorem products_bad0 (w : World)  (Ra Ca : Int) (A : Option Addr) (la : List UInt8) (na ca : Nat) (hla : la.length = na) (hA : Bytes w w.heap.size A la) (hca : la.length ≤ ca) (Rb Cb : Int) (B : Option Addr) (lb : List UInt8) (nb cb : Nat) (hlb : lb.length = nb) (hB : Bytes w w.heap.size B lb) (hcb : lb.length ≤ cb) (Rc Cc : Int) (C : Option Addr) (lc : List UInt8) (nc cc : Nat) (hlc : lc.length = nc) (hC : Bytes w w.heap.size C lc) (hcc : lc.length ≤ cc) (hsa : smallB 8 Ra Ca na = true) (hsb : smallB 8 Rb Cb nb = true) (hsc : smallB 8 Rc Cc nc = true) (hm0 : mulB Ra Ca na Rb Cb nb = false) (hm1 : mulB Rb Cb nb Rc Cc nc = false)  :
    Calls Try.prog 7 #[.agg #[.int .i64 Ra, .int .i64 Ca, .slice A na ca], .agg #[.int .i64 Rb, .int .i64 Cb, .slice B nb cb], .agg #[.int .i64 Rc, .int .i64 Cc, .slice C nc cc]] w fun e w' => e = .returned (.bool true) ∧ Below w.heap.size w w' := by
  have H0 := Lib.hid ((((MS.start w).arg hA hca).arg hB hcb).arg hC hcc)
  have HLNa := Lib.hid hla
  have HLNb := Lib.hid hlb
  have HLNc := Lib.hid hlc
  have HSa := Lib.hid hsa
  have HSb := Lib.hid hsb
  have HSc := Lib.hid hsc
  have HM0 := Lib.hid hm0
  have HM1 := Lib.hid hm1
  clear hA hca hla hB hcb hlb hC hcc hlc hsa hsb hsc hm0 hm1
  go_enter Try.func7, Try.ntmps7
  have L1 := Lib.hid (show MS _ _ _ ((w.heap.size, #[.int .i64 Ra, .int .i64 Ca, .slice A na ca]) :: _) (w.alloc (.cells #[.int .i64 Ra, .int .i64 Ca, .slice A na ca] 27)) from by have h := H0.out.put #[.int .i64 Ra, .int .i64 Ca, .slice A na ca]; (try simp only [World.size_alloc] at h); exact h)
  have L2 := Lib.hid (show MS _ _ _ ((w.heap.size + 1, #[.int .i64 Rb, .int .i64 Cb, .slice B nb cb]) :: _) ((w.alloc (.cells #[.int .i64 Ra, .int .i64 Ca, .slice A na ca] 27)).alloc (.cells #[.int .i64 Rb, .int .i64 Cb, .slice B nb cb] 27)) from by have h := L1.out.put #[.int .i64 Rb, .int .i64 Cb, .slice B nb cb]; (try simp only [World.size_alloc] at h); exact h)
  have L3 := Lib.hid (show MS _ _ _ ((w.heap.size + 1 + 1, #[.int .i64 Rc, .int .i64 Cc, .slice C nc cc]) :: _) (((w.alloc (.cells #[.int .i64 Ra, .int .i64 Ca, .slice A na ca] 27)).alloc (.cells #[.int .i64 Rb, .int .i64 Cb, .slice B nb cb] 27)).alloc (.cells #[.int .i64 Rc, .int .i64 Cc, .slice C nc cc] 27)) from by have h := L2.out.put #[.int .i64 Rc, .int .i64 Cc, .slice C nc cc]; (try simp only [World.size_alloc] at h); exact h)
  obtain ⟨a4, b4, d4⟩ := L3.out.cells (.tail _ (.tail _ (.head _)))
  go_wp2_with fail
  clear a4 b4 d4
  have H1 := L3
  clear L1 L2 L3
  generalize (((w.alloc (.cells #[.int .i64 Ra, .int .i64 Ca, .slice A na ca] 27)).alloc (.cells #[.int .i64 Rb, .int .i64 Cb, .slice B nb cb] 27)).alloc (.cells #[.int .i64 Rc, .int .i64 Cc, .slice C nc cc] 27)) = w1 at *
  refine (smallR H1.out 8 (by decide) (v := true) HSa.out).mono ?_
  rintro e w2 ⟨rfl, h⟩
  have H2 := Lib.hid h
  clear h
  obtain ⟨a5, b5, d5⟩ := H2.out.cells (.tail _ (.head _))
  go_wp2_with fail
  clear a5 b5 d5
  refine (smallR H2.out 8 (by decide) (v := true) HSb.out).mono ?_
  rintro e w3 ⟨rfl, h⟩
  have H3 := Lib.hid h
  clear h
  obtain ⟨a6, b6, d6⟩ := H3.out.cells (.head _)
  go_wp2_with fail
  clear a6 b6 d6
  refine (smallR H3.out 8 (by decide) (v := true) HSc.out).mono ?_
  rintro e w4 ⟨rfl, h⟩
  have H4 := Lib.hid h
  clear h
  go_wp2_with fail
  refine (newR H4.out).mono ?_
  rintro e w5 ⟨rfl, h⟩
  have H5 := Lib.hid h
  clear h
  obtain ⟨a7, b7, d7⟩ := H5.out.cells (.tail _ (.tail _ (.head _)))
  obtain ⟨a8, b8, d8⟩ := H5.out.cells (.tail _ (.head _))
  go_wp2_with fail
  clear a7 b7 d7 a8 b8 d8
  refine (mul0R H5.out HM0.out).mono ?_
  rintro e w6 ⟨rfl, h⟩
  have H6 := Lib.hid h
  clear h
  have L9 := Lib.hid (show MS _ _ _ ((w6.heap.size, #[.int .i64 0, .int .i64 0, .slice none 0 0]) :: _) (w6.alloc (.cells #[.int .i64 0, .int .i64 0, .slice none 0 0] 27)) from by have h := H6.out.put #[.int .i64 0, .int .i64 0, .slice none 0 0]; (try simp only [World.size_alloc] at h); exact h)
  obtain ⟨a10, b10, d10⟩ := L9.out.cells (.tail _ (.tail _ (.head _)))
  obtain ⟨a11, b11, d11⟩ := L9.out.cells (.tail _ (.head _))
  go_wp2_with fail
  clear a10 b10 d10 a11 b11 d11
  have H7 := L9
  clear L9
  generalize (w6.alloc (.cells #[.int .i64 0, .int .i64 0, .slice none 0 0] 27)) = w7 at *
  refine (mul0R H7.out HM1.out).mono ?_
  rintro e w8 ⟨rfl, h⟩
  have H8 := Lib.hid h
  clear h
  have L12 := Lib.hid (show MS _ _ _ ((w8.heap.size, #[.int .i64 0, .int .i64 0, .slice none 0 0]) :: _) (w8.alloc (.cells #[.int .i64 0, .int .i64 0, .slice none 0 0] 27)) from by have h := H8.out.put #[.int .i64 0, .int .i64 0, .slice none 0 0]; (try simp only [World.size_alloc] at h); exact h)
  go_wp2_with fail
  have H9 := L12
  clear L12
  generalize (w8.alloc (.cells #[.int .i64 0, .int .i64 0, .slice none 0 0] 27)) = w9 at *
  refine (works_any _).mono ?_
  rintro e w10 ⟨rfl, hb⟩
  have H10 := Lib.hid (MS.keep H9.out hb)
  clear hb
  go_wp2_with fail
  go_ret
  exact ⟨rfl, H10.out.below⟩
set_option maxRecDepth 100000 in
set_option maxHeartbeats 4000000 in
theorem products_bad1 (w : World) (s t u : Nat) (hd : s ≤ 8 ∧ t ≤ 8 ∧ u ≤ 8) (Ra Ca : Int) (A : Option Addr) (la : List UInt8) (na ca : Nat) (hla : la.length = na) (hA : Bytes w w.heap.size A la) (hca : la.length ≤ ca) (B : Option Addr) (cb : Nat) (mb : M) (hB : Bytes w w.heap.size B (flat s t mb)) (hcb : (flat s t mb).length ≤ cb) (C : Option Addr) (cc : Nat) (mc : M) (hC : Bytes w w.heap.size C (flat t u mc)) (hcc : (flat t u mc).length ≤ cc) (hsa : smallB 8 Ra Ca na = true) (hm0 : mulB Ra Ca na (s : Int) (t : Int) (s * t) = false)  :
    Calls Try.prog 7 #[.agg #[.int .i64 Ra, .int .i64 Ca, .slice A na ca], .agg #[.int .i64 (s : Int), .int .i64 (t : Int), .slice B (s * t) cb], .agg #[.int .i64 (t : Int), .int .i64 (u : Int), .slice C (t * u) cc]] w fun e w' => e = .returned (.bool true) ∧ Below w.heap.size w w' := by
  have H0 := Lib.hid ((((MS.start w).arg hA hca).arg hB hcb).arg hC hcc)
  have HLNa := Lib.hid hla
  have HM0 := Lib.hid hm0
  have HSc := Lib.hid (small8 (r := t) (s := u) (by omega) (by omega))
  have HSb := Lib.hid (small8 (r := s) (s := t) (by omega) (by omega))
  have HSa := Lib.hid hsa
  have HD := Lib.hid hd
  clear hA hca hla hB hcb hC hcc hd hsa hm0
  go_enter Try.func7, Try.ntmps7
  have L1 := Lib.hid (show MS _ _ _ ((w.heap.size, #[.int .i64 Ra, .int .i64 Ca, .slice A na ca]) :: _) (w.alloc (.cells #[.int .i64 Ra, .int .i64 Ca, .slice A na ca] 27)) from by have h := H0.out.put #[.int .i64 Ra, .int .i64 Ca, .slice A na ca]; (try simp only [World.size_alloc] at h); exact h)
  have L2 := Lib.hid (show MS _ _ _ ((w.heap.size + 1, #[.int .i64 (s : Int), .int .i64 (t : Int), .slice B (s * t) cb]) :: _) ((w.alloc (.cells #[.int .i64 Ra, .int .i64 Ca, .slice A na ca] 27)).alloc (.cells #[.int .i64 (s : Int), .int .i64 (t : Int), .slice B (s * t) cb] 27)) from by have h := L1.out.put #[.int .i64 (s : Int), .int .i64 (t : Int), .slice B (s * t) cb]; (try simp only [World.size_alloc] at h); exact h)
  have L3 := Lib.hid (show MS _ _ _ ((w.heap.size + 1 + 1, #[.int .i64 (t : Int), .int .i64 (u : Int), .slice C (t * u) cc]) :: _) (((w.alloc (.cells #[.int .i64 Ra, .int .i64 Ca, .slice A na ca] 27)).alloc (.cells #[.int .i64 (s : Int), .int .i64 (t : Int), .slice B (s * t) cb] 27)).alloc (.cells #[.int .i64 (t : Int), .int .i64 (u : Int), .slice C (t * u) cc] 27)) from by have h := L2.out.put #[.int .i64 (t : Int), .int .i64 (u : Int), .slice C (t * u) cc]; (try simp only [World.size_alloc] at h); exact h)
  obtain ⟨a4, b4, d4⟩ := L3.out.cells (.tail _ (.tail _ (.head _)))
  go_wp2_with fail
  clear a4 b4 d4
  have H1 := L3
  clear L1 L2 L3
  generalize (((w.alloc (.cells #[.int .i64 Ra, .int .i64 Ca, .slice A na ca] 27)).alloc (.cells #[.int .i64 (s : Int), .int .i64 (t : Int), .slice B (s * t) cb] 27)).alloc (.cells #[.int .i64 (t : Int), .int .i64 (u : Int), .slice C (t * u) cc] 27)) = w1 at *
  refine (smallR H1.out 8 (by decide) (v := true) HSa.out).mono ?_
  rintro e w2 ⟨rfl, h⟩
  have H2 := Lib.hid h
  clear h
  obtain ⟨a5, b5, d5⟩ := H2.out.cells (.tail _ (.head _))
  go_wp2_with fail
  clear a5 b5 d5
  refine (smallR H2.out 8 (by decide) (v := true) HSb.out).mono ?_
  rintro e w3 ⟨rfl, h⟩
  have H3 := Lib.hid h
  clear h
  obtain ⟨a6, b6, d6⟩ := H3.out.cells (.head _)
  go_wp2_with fail
  clear a6 b6 d6
  refine (smallR H3.out 8 (by decide) (v := true) HSc.out).mono ?_
  rintro e w4 ⟨rfl, h⟩
  have H4 := Lib.hid h
  clear h
  go_wp2_with fail
  refine (newR H4.out).mono ?_
  rintro e w5 ⟨rfl, h⟩
  have H5 := Lib.hid h
  clear h
  obtain ⟨a7, b7, d7⟩ := H5.out.cells (.tail _ (.tail _ (.head _)))
  obtain ⟨a8, b8, d8⟩ := H5.out.cells (.tail _ (.head _))
  go_wp2_with fail
  clear a7 b7 d7 a8 b8 d8
  refine (mul0R H5.out HM0.out).mono ?_
  rintro e w6 ⟨rfl, h⟩
  have H6 := Lib.hid h
  clear h
  have L9 := Lib.hid (show MS _ _ _ ((w6.heap.size, #[.int .i64 0, .int .i64 0, .slice none 0 0]) :: _) (w6.alloc (.cells #[.int .i64 0, .int .i64 0, .slice none 0 0] 27)) from by have h := H6.out.put #[.int .i64 0, .int .i64 0, .slice none 0 0]; (try simp only [World.size_alloc] at h); exact h)
  obtain ⟨a10, b10, d10⟩ := L9.out.cells (.tail _ (.tail _ (.head _)))
  obtain ⟨a11, b11, d11⟩ := L9.out.cells (.tail _ (.head _))
  go_wp2_with fail
  clear a10 b10 d10 a11 b11 d11
  have H7 := L9
  clear L9
  generalize (w6.alloc (.cells #[.int .i64 0, .int .i64 0, .slice none 0 0] 27)) = w7 at *
  refine (mulR H7.out (r := s) (c := t) (d := u) (.tail _ (.head _)) (.head _) rfl rfl ⟨rfl, rfl, rfl, rfl⟩ (by have := HD.out; omega) rfl rfl s u (s * u) ⟨rfl, rfl, rfl⟩ rfl).mono ?_
  rintro e w8 ⟨A8, c8, rfl, h⟩
  have H8 := Lib.hid h
  clear h
  have L12 := Lib.hid (show MS _ _ _ ((w8.heap.size, #[.int .i64 (s : Int), .int .i64 (u : Int), .slice A8 (s * u) c8]) :: _) (w8.alloc (.cells #[.int .i64 (s : Int), .int .i64 (u : Int), .slice A8 (s * u) c8] 27)) from by have h := H8.out.put #[.int .i64 (s : Int), .int .i64 (u : Int), .slice A8 (s * u) c8]; (try simp only [World.size_alloc] at h); exact h)
  go_wp2_with fail
  have H9 := L12
  clear L12
  generalize (w8.alloc (.cells #[.int .i64 (s : Int), .int .i64 (u : Int), .slice A8 (s * u) c8] 27)) = w9 at *
  refine (works_any _).mono ?_
  rintro e w10 ⟨rfl, hb⟩
  have H10 := Lib.hid (MS.keep H9.out hb)
  clear hb
  go_wp2_with fail
  go_ret
  exact ⟨rfl, H10.out.below⟩
set_option maxRecDepth 100000 in
set_option maxHeartbeats 4000000 in
theorem products_bad2 (w : World) (r s t : Nat) (hd : r ≤ 8 ∧ s ≤ 8 ∧ t ≤ 8) (A : Option Addr) (ca : Nat) (ma : M) (hA : Bytes w w.heap.size A (flat r s ma)) (hca : (flat r s ma).length ≤ ca) (B : Option Addr) (cb : Nat) (mb : M) (hB : Bytes w w.heap.size B (flat s t mb)) (hcb : (flat s t mb).length ≤ cb) (Rc Cc : Int) (C : Option Addr) (lc : List UInt8) (nc cc : Nat) (hlc : lc.length = nc) (hC : Bytes w w.heap.size C lc) (hcc : lc.length ≤ cc) (hsc : smallB 8 Rc Cc nc = true) (hm1 : mulB (s : Int) (t : Int) (s * t) Rc Cc nc = false)  :
    Calls Try.prog 7 #[.agg #[.int .i64 (r : Int), .int .i64 (s : Int), .slice A (r * s) ca], .agg #[.int .i64 (s : Int), .int .i64 (t : Int), .slice B (s * t) cb], .agg #[.int .i64 Rc, .int .i64 Cc, .slice C nc cc]] w fun e w' => e = .returned (.bool true) ∧ Below w.heap.size w w' := by
  have H0 := Lib.hid ((((MS.start w).arg hA hca).arg hB hcb).arg hC hcc)
  have HLNc := Lib.hid hlc
  have HM1 := Lib.hid hm1
  have HSc := Lib.hid hsc
  have HSb := Lib.hid (small8 (r := s) (s := t) (by omega) (by omega))
  have HSa := Lib.hid (small8 (r := r) (s := s) (by omega) (by omega))
  have HD := Lib.hid hd
  clear hA hca hB hcb hC hcc hlc hd hsc hm1
  go_enter Try.func7, Try.ntmps7
  have L1 := Lib.hid (show MS _ _ _ ((w.heap.size, #[.int .i64 (r : Int), .int .i64 (s : Int), .slice A (r * s) ca]) :: _) (w.alloc (.cells #[.int .i64 (r : Int), .int .i64 (s : Int), .slice A (r * s) ca] 27)) from by have h := H0.out.put #[.int .i64 (r : Int), .int .i64 (s : Int), .slice A (r * s) ca]; (try simp only [World.size_alloc] at h); exact h)
  have L2 := Lib.hid (show MS _ _ _ ((w.heap.size + 1, #[.int .i64 (s : Int), .int .i64 (t : Int), .slice B (s * t) cb]) :: _) ((w.alloc (.cells #[.int .i64 (r : Int), .int .i64 (s : Int), .slice A (r * s) ca] 27)).alloc (.cells #[.int .i64 (s : Int), .int .i64 (t : Int), .slice B (s * t) cb] 27)) from by have h := L1.out.put #[.int .i64 (s : Int), .int .i64 (t : Int), .slice B (s * t) cb]; (try simp only [World.size_alloc] at h); exact h)
  have L3 := Lib.hid (show MS _ _ _ ((w.heap.size + 1 + 1, #[.int .i64 Rc, .int .i64 Cc, .slice C nc cc]) :: _) (((w.alloc (.cells #[.int .i64 (r : Int), .int .i64 (s : Int), .slice A (r * s) ca] 27)).alloc (.cells #[.int .i64 (s : Int), .int .i64 (t : Int), .slice B (s * t) cb] 27)).alloc (.cells #[.int .i64 Rc, .int .i64 Cc, .slice C nc cc] 27)) from by have h := L2.out.put #[.int .i64 Rc, .int .i64 Cc, .slice C nc cc]; (try simp only [World.size_alloc] at h); exact h)
  obtain ⟨a4, b4, d4⟩ := L3.out.cells (.tail _ (.tail _ (.head _)))
  go_wp2_with fail
  clear a4 b4 d4
  have H1 := L3
  clear L1 L2 L3
  generalize (((w.alloc (.cells #[.int .i64 (r : Int), .int .i64 (s : Int), .slice A (r * s) ca] 27)).alloc (.cells #[.int .i64 (s : Int), .int .i64 (t : Int), .slice B (s * t) cb] 27)).alloc (.cells #[.int .i64 Rc, .int .i64 Cc, .slice C nc cc] 27)) = w1 at *
  refine (smallR H1.out 8 (by decide) (v := true) HSa.out).mono ?_
  rintro e w2 ⟨rfl, h⟩
  have H2 := Lib.hid h
  clear h
  obtain ⟨a5, b5, d5⟩ := H2.out.cells (.tail _ (.head _))
  go_wp2_with fail
  clear a5 b5 d5
  refine (smallR H2.out 8 (by decide) (v := true) HSb.out).mono ?_
  rintro e w3 ⟨rfl, h⟩
  have H3 := Lib.hid h
  clear h
  obtain ⟨a6, b6, d6⟩ := H3.out.cells (.head _)
  go_wp2_with fail
  clear a6 b6 d6
  refine (smallR H3.out 8 (by decide) (v := true) HSc.out).mono ?_
  rintro e w4 ⟨rfl, h⟩
  have H4 := Lib.hid h
  clear h
  go_wp2_with fail
  refine (newR H4.out).mono ?_
  rintro e w5 ⟨rfl, h⟩
  have H5 := Lib.hid h
  clear h
  obtain ⟨a7, b7, d7⟩ := H5.out.cells (.tail _ (.tail _ (.head _)))
  obtain ⟨a8, b8, d8⟩ := H5.out.cells (.tail _ (.head _))
  go_wp2_with fail
  clear a7 b7 d7 a8 b8 d8
  refine (mulR H5.out (r := r) (c := s) (d := t) (.tail _ (.tail _ (.head _))) (.tail _ (.head _)) rfl rfl ⟨rfl, rfl, rfl, rfl⟩ (by have := HD.out; omega) rfl rfl r t (r * t) ⟨rfl, rfl, rfl⟩ rfl).mono ?_
  rintro e w6 ⟨A6, c6, rfl, h⟩
  have H6 := Lib.hid h
  clear h
  have L9 := Lib.hid (show MS _ _ _ ((w6.heap.size, #[.int .i64 (r : Int), .int .i64 (t : Int), .slice A6 (r * t) c6]) :: _) (w6.alloc (.cells #[.int .i64 (r : Int), .int .i64 (t : Int), .slice A6 (r * t) c6] 27)) from by have h := H6.out.put #[.int .i64 (r : Int), .int .i64 (t : Int), .slice A6 (r * t) c6]; (try simp only [World.size_alloc] at h); exact h)
  obtain ⟨a10, b10, d10⟩ := L9.out.cells (.tail _ (.tail _ (.head _)))
  obtain ⟨a11, b11, d11⟩ := L9.out.cells (.tail _ (.head _))
  go_wp2_with fail
  clear a10 b10 d10 a11 b11 d11
  have H7 := L9
  clear L9
  generalize (w6.alloc (.cells #[.int .i64 (r : Int), .int .i64 (t : Int), .slice A6 (r * t) c6] 27)) = w7 at *
  refine (mul0R H7.out HM1.out).mono ?_
  rintro e w8 ⟨rfl, h⟩
  have H8 := Lib.hid h
  clear h
  have L12 := Lib.hid (show MS _ _ _ ((w8.heap.size, #[.int .i64 0, .int .i64 0, .slice none 0 0]) :: _) (w8.alloc (.cells #[.int .i64 0, .int .i64 0, .slice none 0 0] 27)) from by have h := H8.out.put #[.int .i64 0, .int .i64 0, .slice none 0 0]; (try simp only [World.size_alloc] at h); exact h)
  go_wp2_with fail
  have H9 := L12
  clear L12
  generalize (w8.alloc (.cells #[.int .i64 0, .int .i64 0, .slice none 0 0] 27)) = w9 at *
  refine (works_any _).mono ?_
  rintro e w10 ⟨rfl, hb⟩
  have H10 := Lib.hid (MS.keep H9.out hb)
  clear hb
  go_wp2_with fail
  go_ret
  exact ⟨rfl, H10.out.below⟩
set_option maxRecDepth 100000 in
set_option maxHeartbeats 4000000 in
theorem products_ok (w : World) (r s t u : Nat) (hd : r ≤ 8 ∧ s ≤ 8 ∧ t ≤ 8 ∧ u ≤ 8) (A : Option Addr) (ca : Nat) (ma : M) (hA : Bytes w w.heap.size A (flat r s ma)) (hca : (flat r s ma).length ≤ ca) (B : Option Addr) (cb : Nat) (mb : M) (hB : Bytes w w.heap.size B (flat s t mb)) (hcb : (flat s t mb).length ≤ cb) (C : Option Addr) (cc : Nat) (mc : M) (hC : Bytes w w.heap.size C (flat t u mc)) (hcc : (flat t u mc).length ≤ cc)  :
    Calls Try.prog 7 #[.agg #[.int .i64 (r : Int), .int .i64 (s : Int), .slice A (r * s) ca], .agg #[.int .i64 (s : Int), .int .i64 (t : Int), .slice B (s * t) cb], .agg #[.int .i64 (t : Int), .int .i64 (u : Int), .slice C (t * u) cc]] w fun e w' => e = .returned (.bool true) ∧ Below w.heap.size w w' := by
  have H0 := Lib.hid ((((MS.start w).arg hA hca).arg hB hcb).arg hC hcc)
  have HSa := Lib.hid (small8 (r := r) (s := s) (by omega) (by omega))
  have HSb := Lib.hid (small8 (r := s) (s := t) (by omega) (by omega))
  have HSc := Lib.hid (small8 (r := t) (s := u) (by omega) (by omega))
  have HD := Lib.hid hd
  clear hA hca hB hcb hC hcc hd
  go_enter Try.func7, Try.ntmps7
  have L1 := Lib.hid (show MS _ _ _ ((w.heap.size, #[.int .i64 (r : Int), .int .i64 (s : Int), .slice A (r * s) ca]) :: _) (w.alloc (.cells #[.int .i64 (r : Int), .int .i64 (s : Int), .slice A (r * s) ca] 27)) from by have h := H0.out.put #[.int .i64 (r : Int), .int .i64 (s : Int), .slice A (r * s) ca]; (try simp only [World.size_alloc] at h); exact h)
  have L2 := Lib.hid (show MS _ _ _ ((w.heap.size + 1, #[.int .i64 (s : Int), .int .i64 (t : Int), .slice B (s * t) cb]) :: _) ((w.alloc (.cells #[.int .i64 (r : Int), .int .i64 (s : Int), .slice A (r * s) ca] 27)).alloc (.cells #[.int .i64 (s : Int), .int .i64 (t : Int), .slice B (s * t) cb] 27)) from by have h := L1.out.put #[.int .i64 (s : Int), .int .i64 (t : Int), .slice B (s * t) cb]; (try simp only [World.size_alloc] at h); exact h)
  have L3 := Lib.hid (show MS _ _ _ ((w.heap.size + 1 + 1, #[.int .i64 (t : Int), .int .i64 (u : Int), .slice C (t * u) cc]) :: _) (((w.alloc (.cells #[.int .i64 (r : Int), .int .i64 (s : Int), .slice A (r * s) ca] 27)).alloc (.cells #[.int .i64 (s : Int), .int .i64 (t : Int), .slice B (s * t) cb] 27)).alloc (.cells #[.int .i64 (t : Int), .int .i64 (u : Int), .slice C (t * u) cc] 27)) from by have h := L2.out.put #[.int .i64 (t : Int), .int .i64 (u : Int), .slice C (t * u) cc]; (try simp only [World.size_alloc] at h); exact h)
  obtain ⟨a4, b4, d4⟩ := L3.out.cells (.tail _ (.tail _ (.head _)))
  go_wp2_with fail
  clear a4 b4 d4
  have H1 := L3
  clear L1 L2 L3
  generalize (((w.alloc (.cells #[.int .i64 (r : Int), .int .i64 (s : Int), .slice A (r * s) ca] 27)).alloc (.cells #[.int .i64 (s : Int), .int .i64 (t : Int), .slice B (s * t) cb] 27)).alloc (.cells #[.int .i64 (t : Int), .int .i64 (u : Int), .slice C (t * u) cc] 27)) = w1 at *
  refine (smallR H1.out 8 (by decide) (v := true) HSa.out).mono ?_
  rintro e w2 ⟨rfl, h⟩
  have H2 := Lib.hid h
  clear h
  obtain ⟨a5, b5, d5⟩ := H2.out.cells (.tail _ (.head _))
  go_wp2_with fail
  clear a5 b5 d5
  refine (smallR H2.out 8 (by decide) (v := true) HSb.out).mono ?_
  rintro e w3 ⟨rfl, h⟩
  have H3 := Lib.hid h
  clear h
  obtain ⟨a6, b6, d6⟩ := H3.out.cells (.head _)
  go_wp2_with fail
  clear a6 b6 d6
  refine (smallR H3.out 8 (by decide) (v := true) HSc.out).mono ?_
  rintro e w4 ⟨rfl, h⟩
  have H4 := Lib.hid h
  clear h
  go_wp2_with fail
  refine (newR H4.out).mono ?_
  rintro e w5 ⟨rfl, h⟩
  have H5 := Lib.hid h
  clear h
  obtain ⟨a7, b7, d7⟩ := H5.out.cells (.tail _ (.tail _ (.head _)))
  obtain ⟨a8, b8, d8⟩ := H5.out.cells (.tail _ (.head _))
  go_wp2_with fail
  clear a7 b7 d7 a8 b8 d8
  refine (mulR H5.out (r := r) (c := s) (d := t) (.tail _ (.tail _ (.head _))) (.tail _ (.head _)) rfl rfl ⟨rfl, rfl, rfl, rfl⟩ (by have := HD.out; omega) rfl rfl r t (r * t) ⟨rfl, rfl, rfl⟩ (l := _) (rfl)).mono ?_
  rintro e w6 ⟨A6, c6, rfl, h⟩
  have H6 := Lib.hid h
  clear h
  have L9 := Lib.hid (show MS _ _ _ ((w6.heap.size, #[.int .i64 (r : Int), .int .i64 (t : Int), .slice A6 (r * t) c6]) :: _) (w6.alloc (.cells #[.int .i64 (r : Int), .int .i64 (t : Int), .slice A6 (r * t) c6] 27)) from by have h := H6.out.put #[.int .i64 (r : Int), .int .i64 (t : Int), .slice A6 (r * t) c6]; (try simp only [World.size_alloc] at h); exact h)
  obtain ⟨a10, b10, d10⟩ := L9.out.cells (.tail _ (.tail _ (.head _)))
  obtain ⟨a11, b11, d11⟩ := L9.out.cells (.tail _ (.head _))
  go_wp2_with fail
  clear a10 b10 d10 a11 b11 d11
  have H7 := L9
  clear L9
  generalize (w6.alloc (.cells #[.int .i64 (r : Int), .int .i64 (t : Int), .slice A6 (r * t) c6] 27)) = w7 at *
  refine (mulR H7.out (r := s) (c := t) (d := u) (.tail _ (.tail _ (.head _))) (.tail _ (.head _)) rfl rfl ⟨rfl, rfl, rfl, rfl⟩ (by have := HD.out; omega) rfl rfl s u (s * u) ⟨rfl, rfl, rfl⟩ (l := _) (rfl)).mono ?_
  rintro e w8 ⟨A8, c8, rfl, h⟩
  have H8 := Lib.hid h
  clear h
  have L12 := Lib.hid (show MS _ _ _ ((w8.heap.size, #[.int .i64 (s : Int), .int .i64 (u : Int), .slice A8 (s * u) c8]) :: _) (w8.alloc (.cells #[.int .i64 (s : Int), .int .i64 (u : Int), .slice A8 (s * u) c8] 27)) from by have h := H8.out.put #[.int .i64 (s : Int), .int .i64 (u : Int), .slice A8 (s * u) c8]; (try simp only [World.size_alloc] at h); exact h)
  obtain ⟨a13, b13, d13⟩ := L12.out.cells (.tail _ (.head _))
  obtain ⟨a14, b14, d14⟩ := L12.out.cells (.tail _ (.tail _ (.head _)))
  go_wp2_with fail
  clear a13 b13 d13 a14 b14 d14
  have H9 := L12
  clear L12
  generalize (w8.alloc (.cells #[.int .i64 (s : Int), .int .i64 (u : Int), .slice A8 (s * u) c8] 27)) = w9 at *
  refine (mulR H9.out (r := r) (c := t) (d := u) (.tail _ (.head _)) (.tail _ (.tail _ (.head _))) rfl rfl ⟨rfl, rfl, rfl, rfl⟩ (by have := HD.out; omega) rfl rfl r u (r * u) ⟨rfl, rfl, rfl⟩ (l := flat r u (mulM s ma (mulM t mb mc))) (flat_congr fun i _ k _ => mulM_assoc s t ma mb mc i k)).mono ?_
  rintro e w10 ⟨A10, c10, rfl, h⟩
  have H10 := Lib.hid h
  clear h
  have L15 := Lib.hid (show MS _ _ _ ((w10.heap.size, #[.int .i64 (r : Int), .int .i64 (u : Int), .slice A10 (r * u) c10]) :: _) (w10.alloc (.cells #[.int .i64 (r : Int), .int .i64 (u : Int), .slice A10 (r * u) c10] 27)) from by have h := H10.out.put #[.int .i64 (r : Int), .int .i64 (u : Int), .slice A10 (r * u) c10]; (try simp only [World.size_alloc] at h); exact h)
  obtain ⟨a16, b16, d16⟩ := L15.out.cells (.tail _ (.tail _ (.tail _ (.tail _ (.tail _ (.head _))))))
  obtain ⟨a17, b17, d17⟩ := L15.out.cells (.tail _ (.head _))
  go_wp2_with fail
  clear a16 b16 d16 a17 b17 d17
  have H11 := L15
  clear L15
  generalize (w10.alloc (.cells #[.int .i64 (r : Int), .int .i64 (u : Int), .slice A10 (r * u) c10] 27)) = w11 at *
  refine (mulR H11.out (r := r) (c := s) (d := u) (.tail _ (.tail _ (.tail _ (.tail _ (.tail _ (.head _)))))) (.tail _ (.head _)) rfl rfl ⟨rfl, rfl, rfl, rfl⟩ (by have := HD.out; omega) rfl rfl r u (r * u) ⟨rfl, rfl, rfl⟩ (l := _) (rfl)).mono ?_
  rintro e w12 ⟨A12, c12, rfl, h⟩
  have H12 := Lib.hid h
  clear h
  have L18 := Lib.hid (show MS _ _ _ ((w12.heap.size, #[.int .i64 (r : Int), .int .i64 (u : Int), .slice A12 (r * u) c12]) :: _) (w12.alloc (.cells #[.int .i64 (r : Int), .int .i64 (u : Int), .slice A12 (r * u) c12] 27)) from by have h := H12.out.put #[.int .i64 (r : Int), .int .i64 (u : Int), .slice A12 (r * u) c12]; (try simp only [World.size_alloc] at h); exact h)
  go_wp2_with fail
  have H13 := L18
  clear L18
  generalize (w12.alloc (.cells #[.int .i64 (r : Int), .int .i64 (u : Int), .slice A12 (r * u) c12] 27)) = w13 at *
  refine wp_region_noPanic ?_
  refine wp_heldG (fun w' => w'.cell? ⟨w.heap.size, 0, none⟩ = some (.int .i64 (r : Int)) ∧ w'.cell? ⟨w.heap.size, 1, none⟩ = some (.int .i64 (s : Int)) ∧ w'.cell? ⟨w.heap.size, 2, none⟩ = some (.slice A (r * s) ca)) [10] (by kernel_rfl) ?hs0 ?rg0
  case hs0 =>
    have h := H13.out.keep (nextN (Mem.start w13) 1)
    exact h.cells (.tail _ (.tail _ (.tail _ (.tail _ (.tail _ (.tail _ (.head _)))))))
  case rg0 =>
  intro hHeld
  have HD13 := Lib.hid (show MS _ _ _ _ w13.drew from H13.out.keep (nextN (Mem.start w13) 1))
  generalize w13.drew = wd13 at *
  refine wpAnyG_pure (i := 0) (oi := { dst := some 79, op := Op.move (Operand.tmp 7), type := 24, pos := _, after := #[], guard := none }) (v := ?_) rfl (by kernel_rfl) (by kernel_rfl) (by kernel_rfl) (by kernel_rfl) (fun _ _ _ h => h) (Or.inl ⟨by rfl, ?_⟩) (fun _ => by assumption) ?_
  rotate_left
  · intro w hSw
    try dsimp only at hSw
    go_simp
    try with_reducible rfl
  try simp only [Act.put, List.setIfInBounds_toArray, List.set_cons_zero, List.set_cons_succ]
  refine wpAnyG_pure (i := 1) (oi := { dst := some 80, op := Op.fieldAddr 27 (Operand.tmp 3) 0, type := 0, pos := _, after := #[], guard := none }) (v := ?_) rfl (by kernel_rfl) (by kernel_rfl) (by kernel_rfl) (by kernel_rfl) (fun _ _ _ h => h) (Or.inl ⟨by rfl, ?_⟩) (fun _ => by assumption) ?_
  rotate_left
  · intro w hSw
    try dsimp only at hSw
    go_simp
    try with_reducible rfl
  try simp only [Act.put, List.setIfInBounds_toArray, List.set_cons_zero, List.set_cons_succ]
  refine wpAnyG_take (i := 2) (oi := { dst := some 81, op := Op.load 3 (Operand.tmp 80), type := 3, pos := _, after := #[{ on := 1, ground := Ground.data }], guard := none }) (v := ?_) rfl (by kernel_rfl) (by kernel_rfl) (by kernel_rfl) (by kernel_rfl) (fun _ _ _ h => h) (Or.inl ⟨by rfl, ?_⟩) (by assumption) ?_
  rotate_left
  · intro w hSw
    try dsimp only at hSw
    obtain ⟨k0, k1, k2⟩ := hSw
    go_simp
    try with_reducible rfl
  try simp only [Act.put, List.setIfInBounds_toArray, List.set_cons_zero, List.set_cons_succ]
  refine wpAnyG_take (i := 4) (oi := { dst := some 83, op := Op.load 27 (Operand.tmp 3), type := 27, pos := _, after := #[], guard := none }) (v := ?_) rfl (by kernel_rfl) (by kernel_rfl) (by kernel_rfl) (by kernel_rfl) (fun _ _ _ h => h) (Or.inl ⟨by rfl, ?_⟩) (by assumption) ?_
  rotate_left
  · intro w hSw
    try dsimp only at hSw
    obtain ⟨k0, k1, k2⟩ := hSw
    go_simp
    try with_reducible rfl
  try simp only [Act.put, List.setIfInBounds_toArray, List.set_cons_zero, List.set_cons_succ]
  refine wpAnyG_two (i := 3) (j := 9) (o := { dst := some 82, op := Op.call { callee := Callee.value (Operand.func 27), args := #[Operand.tmp 81], argTypes := #[3] }, type := 27, pos := _, after := #[{ on := 2, ground := Ground.data }], guard := none }) (u := { dst := some 16, op := Op.alloc 27, type := 0, pos := _, after := #[], guard := none }) (by kernel_rfl) rfl rfl (fun K hK => ?_) (fun K hK => ?_)
  · skip
    go_simp
    refine (oneR HD13.out (r := r) rfl (by have := HD.out; omega) (r * r) rfl rfl).mono ?_
    rintro e w14 ⟨A14, c14, rfl, h⟩
    have H14 := Lib.hid h
    clear h
    try dsimp only
    refine hK.out _ _ ?_ (fun hHeld => ?_)
    · intro _
      try dsimp only
      have h := H14.out
      exact h.cells (.tail _ (.tail _ (.tail _ (.tail _ (.tail _ (.tail _ (.head _)))))))
    clear hK K
    try simp only [Act.put, List.setIfInBounds_toArray, List.set_cons_zero, List.set_cons_succ]
    have hHeld := hHeld (by kernel_rfl)
    refine wpAnyG_two (i := 5) (j := 9) (o := { dst := some 84, op := Op.call { callee := Callee.value (Operand.func 18), args := #[Operand.tmp 79, Operand.tmp 82, Operand.tmp 83], argTypes := #[24, 27, 27] }, type := 32, pos := _, after := #[{ on := 0, ground := Ground.data }, { on := 3, ground := Ground.data }, { on := 4, ground := Ground.data }, { on := 3, ground := Ground.chain }], guard := none }) (u := { dst := some 16, op := Op.alloc 27, type := 0, pos := _, after := #[], guard := none }) (by kernel_rfl) rfl rfl (fun K hK => ?_) (fun K hK => ?_)
    · skip
      go_simp
      refine (mulR H14.out (r := r) (c := r) (d := s) (.head _) (.tail _ (.tail _ (.tail _ (.tail _ (.tail _ (.tail _ (.tail _ (.head _)))))))) rfl rfl ⟨rfl, rfl, rfl, rfl⟩ (by have := HD.out; omega) rfl rfl r s (r * s) ⟨rfl, rfl, rfl⟩ (l := flat r s ma) (flat_congr fun i hi k _ => id_mulM ma hi k)).mono ?_
      rintro e w15 ⟨A15, c15, rfl, h⟩
      have H15 := Lib.hid h
      clear h
      try dsimp only
      refine hK.out _ _ ?_ (fun hHeld => ?_)
      · intro _
        try dsimp only
        have h := H15.out
        exact h.cells (.tail _ (.tail _ (.tail _ (.tail _ (.tail _ (.tail _ (.head _)))))))
      clear hK K
      try simp only [Act.put, List.setIfInBounds_toArray, List.set_cons_zero, List.set_cons_succ]
      have hHeld := hHeld (by kernel_rfl)
      refine wpAnyG_pure (i := 6) (oi := { dst := some 78, op := Op.move (Operand.tmp 84), type := 32, pos := _, after := #[{ on := 5, ground := Ground.data }], guard := none }) (v := ?_) rfl (by kernel_rfl) (by kernel_rfl) (by kernel_rfl) (by kernel_rfl) (fun _ _ _ h => h) (Or.inl ⟨by rfl, ?_⟩) (fun _ => by assumption) ?_
      rotate_left
      · intro w hSw
        try dsimp only at hSw
        go_simp
        try with_reducible rfl
      try simp only [Act.put, List.setIfInBounds_toArray, List.set_cons_zero, List.set_cons_succ]
      refine wpAnyG_pure (i := 7) (oi := { dst := some 85, op := Op.extract (Operand.tmp 78) 0, type := 27, pos := _, after := #[{ on := 6, ground := Ground.data }], guard := none }) (v := ?_) rfl (by kernel_rfl) (by kernel_rfl) (by kernel_rfl) (by kernel_rfl) (fun _ _ _ h => h) (Or.inl ⟨by rfl, ?_⟩) (fun _ => by assumption) ?_
      rotate_left
      · intro w hSw
        try dsimp only at hSw
        go_simp
        try with_reducible rfl
      try simp only [Act.put, List.setIfInBounds_toArray, List.set_cons_zero, List.set_cons_succ]
      refine wpAnyG_pure (i := 8) (oi := { dst := some 86, op := Op.extract (Operand.tmp 78) 1, type := 29, pos := _, after := #[{ on := 6, ground := Ground.data }, { on := 10, ground := Ground.gcOnly Departure.lateStores }], guard := none }) (v := ?_) rfl (by kernel_rfl) (by kernel_rfl) (by kernel_rfl) (by kernel_rfl) (fun _ _ _ h => h) (Or.inl ⟨by rfl, ?_⟩) (fun _ => by assumption) ?_
      rotate_left
      · intro w hSw
        try dsimp only at hSw
        go_simp
        try with_reducible rfl
      try simp only [Act.put, List.setIfInBounds_toArray, List.set_cons_zero, List.set_cons_succ]
      refine wpAnyG_one (i := 9) (o := { dst := some 16, op := Op.alloc 27, type := 0, pos := _, after := #[], guard := none }) (by kernel_rfl) rfl (fun K hK => ?_)
      refine step_new (P := Try.prog) _ ⟨rfl, rfl, rfl⟩ newMx ?_
      have H16 := Lib.hid (H15.out.put #[.int .i64 0, .int .i64 0, .slice none 0 0])
      have HB16 := Lib.hid (And.intro H15.out.below.size H15.out.far)
      obtain ⟨g16, hg16⟩ : ∃ x, w15.heap.size = x := ⟨_, rfl⟩
      rw [hg16] at H16 HB16 ⊢
      clear hg16
      generalize w15.alloc (.cells #[.int .i64 0, .int .i64 0, .slice none 0 0] 27) = w16 at *
      try dsimp only
      refine hK.out _ _ ?_ (fun hHeld => ?_)
      · intro _
        try dsimp only
        have h := H16.out
        exact h.cells (.tail _ (.tail _ (.tail _ (.tail _ (.tail _ (.tail _ (.tail _ (.head _))))))))
      clear hK K
      try simp only [Act.put, List.setIfInBounds_toArray, List.set_cons_zero, List.set_cons_succ]
      have hHeld := hHeld (by kernel_rfl)
      refine wpAnyG_one (i := 10) (o := { dst := none, op := Op.store 27 (Operand.tmp 16) (Operand.tmp 85), type := 0, pos := _, after := #[{ on := 9, ground := Ground.data }, { on := 7, ground := Ground.data }, { on := 5, ground := Ground.chain }, { on := 0, ground := Ground.phase }, { on := 1, ground := Ground.phase }, { on := 2, ground := Ground.phase }, { on := 3, ground := Ground.phase }, { on := 4, ground := Ground.phase }, { on := 5, ground := Ground.phase }, { on := 6, ground := Ground.phase }, { on := 7, ground := Ground.phase }, { on := 8, ground := Ground.textOnly Departure.lateStores }, { on := 9, ground := Ground.phase }], guard := none }) (by kernel_rfl) rfl (fun K hK => ?_)
      obtain ⟨⟨z0, z1, z2⟩, f0, f1, f2⟩ := cells3 (H16.out.box _ (.head _)).1
      go_simp
      have H17 := Lib.hid (H16.out.set HB16.out.1 HB16.out.2 (.int .i64 (r : Int)) (.int .i64 (s : Int)) (.slice A15 (r * s) c15))
      clear z0 z1 z2 f0 f1 f2 HB16
      generalize ((w16.setCell ⟨g16, 0, none⟩ (.int .i64 (r : Int))).setCell ⟨g16, 1, none⟩ (.int .i64 (s : Int))).setCell ⟨g16, 2, none⟩ (.slice A15 (r * s) c15) = w17 at *
      try dsimp only
      refine hK.out _ _ ?_ (fun hHeld => ?_)
      · exact fun h => (st_no (by kernel_rfl) h).elim
      clear hK K
      try simp only [Act.put, List.setIfInBounds_toArray, List.set_cons_zero, List.set_cons_succ]
      clear hHeld
      refine wpAnyG_pure (i := 11) (oi := { dst := some 17, op := Op.assign (Operand.tmp 86), type := 29, pos := _, after := #[{ on := 8, ground := Ground.data }, { on := 10, ground := Ground.chain }, { on := 0, ground := Ground.phase }, { on := 1, ground := Ground.phase }, { on := 2, ground := Ground.phase }, { on := 3, ground := Ground.phase }, { on := 4, ground := Ground.phase }, { on := 5, ground := Ground.phase }, { on := 6, ground := Ground.phase }, { on := 7, ground := Ground.phase }, { on := 8, ground := Ground.phase }, { on := 9, ground := Ground.phase }, { on := 10, ground := Ground.phase }], guard := none }) (v := ?_) rfl (by kernel_rfl) (by kernel_rfl) (by kernel_rfl) (by kernel_rfl) (fun _ _ _ h => h) (Or.inl ⟨by rfl, ?_⟩) (fun h => (st_no (by kernel_rfl) h).elim) ?_
      rotate_left
      · intro w hSw
        try dsimp only at hSw
        go_simp
        try with_reducible rfl
      try simp only [Act.put, List.setIfInBounds_toArray, List.set_cons_zero, List.set_cons_succ]
      refine wpAnyG_done (by kernel_rfl) ?_ _
      refine NoPanic.normal ?_
      obtain ⟨a19, b19, d19⟩ := H17.out.cells (.tail _ (.tail _ (.tail _ (.tail _ (.tail _ (.tail _ (.tail _ (.head _))))))))
      go_wp2_with fail
      clear a19 b19 d19
      refine (turnR H17.out (r := r) (c := s) (.tail _ (.tail _ (.tail _ (.tail _ (.tail _ (.tail _ (.tail _ (.tail _ (.head _))))))))) rfl ⟨rfl, rfl⟩ (by have := HD.out; omega) rfl s r (s * r) ⟨rfl, rfl, rfl⟩ (l := _) (rfl)).mono ?_
      rintro e w18 ⟨A18, c18, rfl, h⟩
      have H18 := Lib.hid h
      clear h
      have L20 := Lib.hid (show MS _ _ _ ((w18.heap.size, #[.int .i64 (s : Int), .int .i64 (r : Int), .slice A18 (s * r) c18]) :: _) (w18.alloc (.cells #[.int .i64 (s : Int), .int .i64 (r : Int), .slice A18 (s * r) c18] 27)) from by have h := H18.out.put #[.int .i64 (s : Int), .int .i64 (r : Int), .slice A18 (s * r) c18]; (try simp only [World.size_alloc] at h); exact h)
      obtain ⟨a21, b21, d21⟩ := L20.out.cells (.tail _ (.tail _ (.tail _ (.tail _ (.tail _ (.tail _ (.tail _ (.head _))))))))
      go_wp2_with fail
      clear a21 b21 d21
      have H19 := L20
      clear L20
      generalize (w18.alloc (.cells #[.int .i64 (s : Int), .int .i64 (r : Int), .slice A18 (s * r) c18] 27)) = w19 at *
      refine (turnR H19.out (r := s) (c := t) (.tail _ (.tail _ (.tail _ (.tail _ (.tail _ (.tail _ (.tail _ (.tail _ (.head _))))))))) rfl ⟨rfl, rfl⟩ (by have := HD.out; omega) rfl t s (t * s) ⟨rfl, rfl, rfl⟩ (l := _) (rfl)).mono ?_
      rintro e w20 ⟨A20, c20, rfl, h⟩
      have H20 := Lib.hid h
      clear h
      have L22 := Lib.hid (show MS _ _ _ ((w20.heap.size, #[.int .i64 (t : Int), .int .i64 (s : Int), .slice A20 (t * s) c20]) :: _) (w20.alloc (.cells #[.int .i64 (t : Int), .int .i64 (s : Int), .slice A20 (t * s) c20] 27)) from by have h := H20.out.put #[.int .i64 (t : Int), .int .i64 (s : Int), .slice A20 (t * s) c20]; (try simp only [World.size_alloc] at h); exact h)
      obtain ⟨a23, b23, d23⟩ := L22.out.cells (.tail _ (.tail _ (.tail _ (.tail _ (.tail _ (.tail _ (.head _)))))))
      go_wp2_with fail
      clear a23 b23 d23
      have H21 := L22
      clear L22
      generalize (w20.alloc (.cells #[.int .i64 (t : Int), .int .i64 (s : Int), .slice A20 (t * s) c20] 27)) = w21 at *
      refine (turnR H21.out (r := r) (c := t) (.tail _ (.tail _ (.tail _ (.tail _ (.tail _ (.tail _ (.tail _ (.head _)))))))) rfl ⟨rfl, rfl⟩ (by have := HD.out; omega) rfl t r (t * r) ⟨rfl, rfl, rfl⟩ (l := _) (rfl)).mono ?_
      rintro e w22 ⟨A22, c22, rfl, h⟩
      have H22 := Lib.hid h
      clear h
      have L24 := Lib.hid (show MS _ _ _ ((w22.heap.size, #[.int .i64 (t : Int), .int .i64 (r : Int), .slice A22 (t * r) c22]) :: _) (w22.alloc (.cells #[.int .i64 (t : Int), .int .i64 (r : Int), .slice A22 (t * r) c22] 27)) from by have h := H22.out.put #[.int .i64 (t : Int), .int .i64 (r : Int), .slice A22 (t * r) c22]; (try simp only [World.size_alloc] at h); exact h)
      obtain ⟨a25, b25, d25⟩ := L24.out.cells (.tail _ (.head _))
      obtain ⟨a26, b26, d26⟩ := L24.out.cells (.tail _ (.tail _ (.head _)))
      go_wp2_with fail
      clear a25 b25 d25 a26 b26 d26
      have H23 := L24
      clear L24
      generalize (w22.alloc (.cells #[.int .i64 (t : Int), .int .i64 (r : Int), .slice A22 (t * r) c22] 27)) = w23 at *
      refine (mulR H23.out (r := t) (c := s) (d := r) (.tail _ (.head _)) (.tail _ (.tail _ (.head _))) rfl rfl ⟨rfl, rfl, rfl, rfl⟩ (by have := HD.out; omega) rfl rfl t r (t * r) ⟨rfl, rfl, rfl⟩ (l := flat t r (fun x y => mulM s ma mb y x)) (flat_congr fun i _ k _ => (mulM_turn s ma mb i k).symm)).mono ?_
      rintro e w24 ⟨A24, c24, rfl, h⟩
      have H24 := Lib.hid h
      clear h
      have L27 := Lib.hid (show MS _ _ _ ((w24.heap.size, #[.int .i64 (t : Int), .int .i64 (r : Int), .slice A24 (t * r) c24]) :: _) (w24.alloc (.cells #[.int .i64 (t : Int), .int .i64 (r : Int), .slice A24 (t * r) c24] 27)) from by have h := H24.out.put #[.int .i64 (t : Int), .int .i64 (r : Int), .slice A24 (t * r) c24]; (try simp only [World.size_alloc] at h); exact h)
      obtain ⟨a28, b28, d28⟩ := L27.out.cells (.tail _ (.tail _ (.tail _ (.head _))))
      go_wp2_with fail
      clear a28 b28 d28
      have H25 := L27
      clear L27
      generalize (w24.alloc (.cells #[.int .i64 (t : Int), .int .i64 (r : Int), .slice A24 (t * r) c24] 27)) = w25 at *
      refine (turnR H25.out (r := s) (c := r) (.tail _ (.tail _ (.tail _ (.head _)))) rfl ⟨rfl, rfl⟩ (by have := HD.out; omega) rfl r s (r * s) ⟨rfl, rfl, rfl⟩ (l := flat r s ma) (rfl)).mono ?_
      rintro e w26 ⟨A26, c26, rfl, h⟩
      have H26 := Lib.hid h
      clear h
      have L29 := Lib.hid (show MS _ _ _ ((w26.heap.size, #[.int .i64 (r : Int), .int .i64 (s : Int), .slice A26 (r * s) c26]) :: _) (w26.alloc (.cells #[.int .i64 (r : Int), .int .i64 (s : Int), .slice A26 (r * s) c26] 27)) from by have h := H26.out.put #[.int .i64 (r : Int), .int .i64 (s : Int), .slice A26 (r * s) c26]; (try simp only [World.size_alloc] at h); exact h)
      obtain ⟨a30, b30, d30⟩ := L29.out.cells (.tail _ (.tail _ (.tail _ (.tail _ (.tail _ (.tail _ (.tail _ (.head _))))))))
      obtain ⟨a31, b31, d31⟩ := L29.out.cells (.tail _ (.tail _ (.tail _ (.tail _ (.tail _ (.tail _ (.head _)))))))
      go_wp2_with fail
      clear a30 b30 d30 a31 b31 d31
      have H27 := L29
      clear L29
      generalize (w26.alloc (.cells #[.int .i64 (r : Int), .int .i64 (s : Int), .slice A26 (r * s) c26] 27)) = w27 at *
      refine (sameR H27.out (.tail _ (.tail _ (.tail _ (.tail _ (.tail _ (.tail _ (.tail _ (.tail _ (.head _))))))))) (flat_len _ _ _) (.tail _ (.tail _ (.tail _ (.tail _ (.tail _ (.tail _ (.tail _ (.head _)))))))) (flat_len _ _ _) (v := true) (sameB_self _ _ _)).mono ?_
      rintro e w28 ⟨rfl, h⟩
      have H28 := Lib.hid h
      clear h
      obtain ⟨a32, b32, d32⟩ := H28.out.cells (.tail _ (.tail _ (.tail _ (.tail _ (.tail _ (.head _))))))
      obtain ⟨a33, b33, d33⟩ := H28.out.cells (.tail _ (.tail _ (.tail _ (.tail _ (.tail _ (.tail _ (.tail _ (.tail _ (.tail _ (.tail _ (.tail _ (.tail _ (.head _)))))))))))))
      go_wp2_with fail
      clear a32 b32 d32 a33 b33 d33
      refine (sameR H28.out (.tail _ (.tail _ (.tail _ (.tail _ (.tail _ (.head _)))))) (flat_len _ _ _) (.tail _ (.tail _ (.tail _ (.tail _ (.tail _ (.tail _ (.tail _ (.tail _ (.tail _ (.tail _ (.tail _ (.tail _ (.tail _ (.head _)))))))))))))) (flat_len _ _ _) (v := true) (sameB_self _ _ _)).mono ?_
      rintro e w29 ⟨rfl, h⟩
      have H29 := Lib.hid h
      clear h
      obtain ⟨a34, b34, d34⟩ := H29.out.cells (.tail _ (.head _))
      obtain ⟨a35, b35, d35⟩ := H29.out.cells (.tail _ (.tail _ (.head _)))
      go_wp2_with fail
      clear a34 b34 d34 a35 b35 d35
      refine (sameR H29.out (.tail _ (.head _)) (flat_len _ _ _) (.tail _ (.tail _ (.head _))) (flat_len _ _ _) (v := true) (sameB_self _ _ _)).mono ?_
      rintro e w30 ⟨rfl, h⟩
      have H30 := Lib.hid h
      clear h
      obtain ⟨a36, b36, d36⟩ := H30.out.cells (.head _)
      obtain ⟨a37, b37, d37⟩ := H30.out.cells (.tail _ (.tail _ (.tail _ (.tail _ (.tail _ (.tail _ (.tail _ (.tail _ (.tail _ (.tail _ (.tail _ (.tail _ (.head _)))))))))))))
      go_wp2_with fail
      clear a36 b36 d36 a37 b37 d37
      refine (sameR H30.out (.head _) (flat_len _ _ _) (.tail _ (.tail _ (.tail _ (.tail _ (.tail _ (.tail _ (.tail _ (.tail _ (.tail _ (.tail _ (.tail _ (.tail _ (.tail _ (.head _)))))))))))))) (flat_len _ _ _) (v := true) (sameB_self _ _ _)).mono ?_
      rintro e w31 ⟨rfl, h⟩
      have H31 := Lib.hid h
      clear h
      go_wp2_with fail
      refine (works_any _).mono ?_
      rintro e w32 ⟨rfl, hb⟩
      have H32 := Lib.hid (MS.keep H31.out hb)
      clear hb
      go_wp2_with fail
      go_ret
      exact ⟨rfl, H32.out.below⟩
    · skip
      refine step_new (P := Try.prog) _ ⟨rfl, rfl, rfl⟩ newMx ?_
      have H15 := Lib.hid (H14.out.put #[.int .i64 0, .int .i64 0, .slice none 0 0])
      have HB15 := Lib.hid (And.intro H14.out.below.size H14.out.far)
      obtain ⟨g15, hg15⟩ : ∃ x, w14.heap.size = x := ⟨_, rfl⟩
      rw [hg15] at H15 HB15 ⊢
      clear hg15
      generalize w14.alloc (.cells #[.int .i64 0, .int .i64 0, .slice none 0 0] 27) = w15 at *
      try dsimp only
      refine hK.out _ _ ?_ (fun hHeld => ?_)
      · intro _
        try dsimp only
        have h := H15.out
        exact h.cells (.tail _ (.tail _ (.tail _ (.tail _ (.tail _ (.tail _ (.tail _ (.head _))))))))
      clear hK K
      try simp only [Act.put, List.setIfInBounds_toArray, List.set_cons_zero, List.set_cons_succ]
      have hHeld := hHeld (by kernel_rfl)
      refine wpAnyG_one (i := 5) (o := { dst := some 84, op := Op.call { callee := Callee.value (Operand.func 18), args := #[Operand.tmp 79, Operand.tmp 82, Operand.tmp 83], argTypes := #[24, 27, 27] }, type := 32, pos := _, after := #[{ on := 0, ground := Ground.data }, { on := 3, ground := Ground.data }, { on := 4, ground := Ground.data }, { on := 3, ground := Ground.chain }], guard := none }) (by kernel_rfl) rfl (fun K hK => ?_)
      go_simp
      refine (mulR H15.out (r := r) (c := r) (d := s) (.head _) (.tail _ (.tail _ (.tail _ (.tail _ (.tail _ (.tail _ (.tail _ (.head _)))))))) rfl rfl ⟨rfl, rfl, rfl, rfl⟩ (by have := HD.out; omega) rfl rfl r s (r * s) ⟨rfl, rfl, rfl⟩ (l := flat r s ma) (flat_congr fun i hi k _ => id_mulM ma hi k)).mono ?_
      rintro e w16 ⟨A16, c16, rfl, h⟩
      have H16 := Lib.hid h
      clear h
      try dsimp only
      refine hK.out _ _ ?_ (fun hHeld => ?_)
      · intro _
        try dsimp only
        have h := H16.out
        exact h.cells (.tail _ (.tail _ (.tail _ (.tail _ (.tail _ (.tail _ (.tail _ (.head _))))))))
      clear hK K
      try simp only [Act.put, List.setIfInBounds_toArray, List.set_cons_zero, List.set_cons_succ]
      have hHeld := hHeld (by kernel_rfl)
      refine wpAnyG_pure (i := 6) (oi := { dst := some 78, op := Op.move (Operand.tmp 84), type := 32, pos := _, after := #[{ on := 5, ground := Ground.data }], guard := none }) (v := ?_) rfl (by kernel_rfl) (by kernel_rfl) (by kernel_rfl) (by kernel_rfl) (fun _ _ _ h => h) (Or.inl ⟨by rfl, ?_⟩) (fun _ => by assumption) ?_
      rotate_left
      · intro w hSw
        try dsimp only at hSw
        go_simp
        try with_reducible rfl
      try simp only [Act.put, List.setIfInBounds_toArray, List.set_cons_zero, List.set_cons_succ]
      refine wpAnyG_pure (i := 7) (oi := { dst := some 85, op := Op.extract (Operand.tmp 78) 0, type := 27, pos := _, after := #[{ on := 6, ground := Ground.data }], guard := none }) (v := ?_) rfl (by kernel_rfl) (by kernel_rfl) (by kernel_rfl) (by kernel_rfl) (fun _ _ _ h => h) (Or.inl ⟨by rfl, ?_⟩) (fun _ => by assumption) ?_
      rotate_left
      · intro w hSw
        try dsimp only at hSw
        go_simp
        try with_reducible rfl
      try simp only [Act.put, List.setIfInBounds_toArray, List.set_cons_zero, List.set_cons_succ]
      refine wpAnyG_pure (i := 8) (oi := { dst := some 86, op := Op.extract (Operand.tmp 78) 1, type := 29, pos := _, after := #[{ on := 6, ground := Ground.data }, { on := 10, ground := Ground.gcOnly Departure.lateStores }], guard := none }) (v := ?_) rfl (by kernel_rfl) (by kernel_rfl) (by kernel_rfl) (by kernel_rfl) (fun _ _ _ h => h) (Or.inl ⟨by rfl, ?_⟩) (fun _ => by assumption) ?_
      rotate_left
      · intro w hSw
        try dsimp only at hSw
        go_simp
        try with_reducible rfl
      try simp only [Act.put, List.setIfInBounds_toArray, List.set_cons_zero, List.set_cons_succ]
      refine wpAnyG_one (i := 10) (o := { dst := none, op := Op.store 27 (Operand.tmp 16) (Operand.tmp 85), type := 0, pos := _, after := #[{ on := 9, ground := Ground.data }, { on := 7, ground := Ground.data }, { on := 5, ground := Ground.chain }, { on := 0, ground := Ground.phase }, { on := 1, ground := Ground.phase }, { on := 2, ground := Ground.phase }, { on := 3, ground := Ground.phase }, { on := 4, ground := Ground.phase }, { on := 5, ground := Ground.phase }, { on := 6, ground := Ground.phase }, { on := 7, ground := Ground.phase }, { on := 8, ground := Ground.textOnly Departure.lateStores }, { on := 9, ground := Ground.phase }], guard := none }) (by kernel_rfl) rfl (fun K hK => ?_)
      obtain ⟨⟨z0, z1, z2⟩, f0, f1, f2⟩ := cells3 (H16.out.box _ (.head _)).1
      go_simp
      have H17 := Lib.hid (H16.out.set HB15.out.1 HB15.out.2 (.int .i64 (r : Int)) (.int .i64 (s : Int)) (.slice A16 (r * s) c16))
      clear z0 z1 z2 f0 f1 f2 HB15
      generalize ((w16.setCell ⟨g15, 0, none⟩ (.int .i64 (r : Int))).setCell ⟨g15, 1, none⟩ (.int .i64 (s : Int))).setCell ⟨g15, 2, none⟩ (.slice A16 (r * s) c16) = w17 at *
      try dsimp only
      refine hK.out _ _ ?_ (fun hHeld => ?_)
      · exact fun h => (st_no (by kernel_rfl) h).elim
      clear hK K
      try simp only [Act.put, List.setIfInBounds_toArray, List.set_cons_zero, List.set_cons_succ]
      clear hHeld
      refine wpAnyG_pure (i := 11) (oi := { dst := some 17, op := Op.assign (Operand.tmp 86), type := 29, pos := _, after := #[{ on := 8, ground := Ground.data }, { on := 10, ground := Ground.chain }, { on := 0, ground := Ground.phase }, { on := 1, ground := Ground.phase }, { on := 2, ground := Ground.phase }, { on := 3, ground := Ground.phase }, { on := 4, ground := Ground.phase }, { on := 5, ground := Ground.phase }, { on := 6, ground := Ground.phase }, { on := 7, ground := Ground.phase }, { on := 8, ground := Ground.phase }, { on := 9, ground := Ground.phase }, { on := 10, ground := Ground.phase }], guard := none }) (v := ?_) rfl (by kernel_rfl) (by kernel_rfl) (by kernel_rfl) (by kernel_rfl) (fun _ _ _ h => h) (Or.inl ⟨by rfl, ?_⟩) (fun h => (st_no (by kernel_rfl) h).elim) ?_
      rotate_left
      · intro w hSw
        try dsimp only at hSw
        go_simp
        try with_reducible rfl
      try simp only [Act.put, List.setIfInBounds_toArray, List.set_cons_zero, List.set_cons_succ]
      refine wpAnyG_done (by kernel_rfl) ?_ _
      refine NoPanic.normal ?_
      obtain ⟨a19, b19, d19⟩ := H17.out.cells (.tail _ (.tail _ (.tail _ (.tail _ (.tail _ (.tail _ (.tail _ (.head _))))))))
      go_wp2_with fail
      clear a19 b19 d19
      refine (turnR H17.out (r := r) (c := s) (.tail _ (.tail _ (.tail _ (.tail _ (.tail _ (.tail _ (.tail _ (.tail _ (.head _))))))))) rfl ⟨rfl, rfl⟩ (by have := HD.out; omega) rfl s r (s * r) ⟨rfl, rfl, rfl⟩ (l := _) (rfl)).mono ?_
      rintro e w18 ⟨A18, c18, rfl, h⟩
      have H18 := Lib.hid h
      clear h
      have L20 := Lib.hid (show MS _ _ _ ((w18.heap.size, #[.int .i64 (s : Int), .int .i64 (r : Int), .slice A18 (s * r) c18]) :: _) (w18.alloc (.cells #[.int .i64 (s : Int), .int .i64 (r : Int), .slice A18 (s * r) c18] 27)) from by have h := H18.out.put #[.int .i64 (s : Int), .int .i64 (r : Int), .slice A18 (s * r) c18]; (try simp only [World.size_alloc] at h); exact h)
      obtain ⟨a21, b21, d21⟩ := L20.out.cells (.tail _ (.tail _ (.tail _ (.tail _ (.tail _ (.tail _ (.tail _ (.head _))))))))
      go_wp2_with fail
      clear a21 b21 d21
      have H19 := L20
      clear L20
      generalize (w18.alloc (.cells #[.int .i64 (s : Int), .int .i64 (r : Int), .slice A18 (s * r) c18] 27)) = w19 at *
      refine (turnR H19.out (r := s) (c := t) (.tail _ (.tail _ (.tail _ (.tail _ (.tail _ (.tail _ (.tail _ (.tail _ (.head _))))))))) rfl ⟨rfl, rfl⟩ (by have := HD.out; omega) rfl t s (t * s) ⟨rfl, rfl, rfl⟩ (l := _) (rfl)).mono ?_
      rintro e w20 ⟨A20, c20, rfl, h⟩
      have H20 := Lib.hid h
      clear h
      have L22 := Lib.hid (show MS _ _ _ ((w20.heap.size, #[.int .i64 (t : Int), .int .i64 (s : Int), .slice A20 (t * s) c20]) :: _) (w20.alloc (.cells #[.int .i64 (t : Int), .int .i64 (s : Int), .slice A20 (t * s) c20] 27)) from by have h := H20.out.put #[.int .i64 (t : Int), .int .i64 (s : Int), .slice A20 (t * s) c20]; (try simp only [World.size_alloc] at h); exact h)
      obtain ⟨a23, b23, d23⟩ := L22.out.cells (.tail _ (.tail _ (.tail _ (.tail _ (.tail _ (.tail _ (.head _)))))))
      go_wp2_with fail
      clear a23 b23 d23
      have H21 := L22
      clear L22
      generalize (w20.alloc (.cells #[.int .i64 (t : Int), .int .i64 (s : Int), .slice A20 (t * s) c20] 27)) = w21 at *
      refine (turnR H21.out (r := r) (c := t) (.tail _ (.tail _ (.tail _ (.tail _ (.tail _ (.tail _ (.tail _ (.head _)))))))) rfl ⟨rfl, rfl⟩ (by have := HD.out; omega) rfl t r (t * r) ⟨rfl, rfl, rfl⟩ (l := _) (rfl)).mono ?_
      rintro e w22 ⟨A22, c22, rfl, h⟩
      have H22 := Lib.hid h
      clear h
      have L24 := Lib.hid (show MS _ _ _ ((w22.heap.size, #[.int .i64 (t : Int), .int .i64 (r : Int), .slice A22 (t * r) c22]) :: _) (w22.alloc (.cells #[.int .i64 (t : Int), .int .i64 (r : Int), .slice A22 (t * r) c22] 27)) from by have h := H22.out.put #[.int .i64 (t : Int), .int .i64 (r : Int), .slice A22 (t * r) c22]; (try simp only [World.size_alloc] at h); exact h)
      obtain ⟨a25, b25, d25⟩ := L24.out.cells (.tail _ (.head _))
      obtain ⟨a26, b26, d26⟩ := L24.out.cells (.tail _ (.tail _ (.head _)))
      go_wp2_with fail
      clear a25 b25 d25 a26 b26 d26
      have H23 := L24
      clear L24
      generalize (w22.alloc (.cells #[.int .i64 (t : Int), .int .i64 (r : Int), .slice A22 (t * r) c22] 27)) = w23 at *
      refine (mulR H23.out (r := t) (c := s) (d := r) (.tail _ (.head _)) (.tail _ (.tail _ (.head _))) rfl rfl ⟨rfl, rfl, rfl, rfl⟩ (by have := HD.out; omega) rfl rfl t r (t * r) ⟨rfl, rfl, rfl⟩ (l := flat t r (fun x y => mulM s ma mb y x)) (flat_congr fun i _ k _ => (mulM_turn s ma mb i k).symm)).mono ?_
      rintro e w24 ⟨A24, c24, rfl, h⟩
      have H24 := Lib.hid h
      clear h
      have L27 := Lib.hid (show MS _ _ _ ((w24.heap.size, #[.int .i64 (t : Int), .int .i64 (r : Int), .slice A24 (t * r) c24]) :: _) (w24.alloc (.cells #[.int .i64 (t : Int), .int .i64 (r : Int), .slice A24 (t * r) c24] 27)) from by have h := H24.out.put #[.int .i64 (t : Int), .int .i64 (r : Int), .slice A24 (t * r) c24]; (try simp only [World.size_alloc] at h); exact h)
      obtain ⟨a28, b28, d28⟩ := L27.out.cells (.tail _ (.tail _ (.tail _ (.head _))))
      go_wp2_with fail
      clear a28 b28 d28
      have H25 := L27
      clear L27
      generalize (w24.alloc (.cells #[.int .i64 (t : Int), .int .i64 (r : Int), .slice A24 (t * r) c24] 27)) = w25 at *
      refine (turnR H25.out (r := s) (c := r) (.tail _ (.tail _ (.tail _ (.head _)))) rfl ⟨rfl, rfl⟩ (by have := HD.out; omega) rfl r s (r * s) ⟨rfl, rfl, rfl⟩ (l := flat r s ma) (rfl)).mono ?_
      rintro e w26 ⟨A26, c26, rfl, h⟩
      have H26 := Lib.hid h
      clear h
      have L29 := Lib.hid (show MS _ _ _ ((w26.heap.size, #[.int .i64 (r : Int), .int .i64 (s : Int), .slice A26 (r * s) c26]) :: _) (w26.alloc (.cells #[.int .i64 (r : Int), .int .i64 (s : Int), .slice A26 (r * s) c26] 27)) from by have h := H26.out.put #[.int .i64 (r : Int), .int .i64 (s : Int), .slice A26 (r * s) c26]; (try simp only [World.size_alloc] at h); exact h)
      obtain ⟨a30, b30, d30⟩ := L29.out.cells (.tail _ (.tail _ (.tail _ (.tail _ (.tail _ (.tail _ (.tail _ (.head _))))))))
      obtain ⟨a31, b31, d31⟩ := L29.out.cells (.tail _ (.tail _ (.tail _ (.tail _ (.tail _ (.tail _ (.head _)))))))
      go_wp2_with fail
      clear a30 b30 d30 a31 b31 d31
      have H27 := L29
      clear L29
      generalize (w26.alloc (.cells #[.int .i64 (r : Int), .int .i64 (s : Int), .slice A26 (r * s) c26] 27)) = w27 at *
      refine (sameR H27.out (.tail _ (.tail _ (.tail _ (.tail _ (.tail _ (.tail _ (.tail _ (.tail _ (.head _))))))))) (flat_len _ _ _) (.tail _ (.tail _ (.tail _ (.tail _ (.tail _ (.tail _ (.tail _ (.head _)))))))) (flat_len _ _ _) (v := true) (sameB_self _ _ _)).mono ?_
      rintro e w28 ⟨rfl, h⟩
      have H28 := Lib.hid h
      clear h
      obtain ⟨a32, b32, d32⟩ := H28.out.cells (.tail _ (.tail _ (.tail _ (.tail _ (.tail _ (.head _))))))
      obtain ⟨a33, b33, d33⟩ := H28.out.cells (.tail _ (.tail _ (.tail _ (.tail _ (.tail _ (.tail _ (.tail _ (.tail _ (.tail _ (.tail _ (.tail _ (.tail _ (.head _)))))))))))))
      go_wp2_with fail
      clear a32 b32 d32 a33 b33 d33
      refine (sameR H28.out (.tail _ (.tail _ (.tail _ (.tail _ (.tail _ (.head _)))))) (flat_len _ _ _) (.tail _ (.tail _ (.tail _ (.tail _ (.tail _ (.tail _ (.tail _ (.tail _ (.tail _ (.tail _ (.tail _ (.tail _ (.tail _ (.head _)))))))))))))) (flat_len _ _ _) (v := true) (sameB_self _ _ _)).mono ?_
      rintro e w29 ⟨rfl, h⟩
      have H29 := Lib.hid h
      clear h
      obtain ⟨a34, b34, d34⟩ := H29.out.cells (.tail _ (.head _))
      obtain ⟨a35, b35, d35⟩ := H29.out.cells (.tail _ (.tail _ (.head _)))
      go_wp2_with fail
      clear a34 b34 d34 a35 b35 d35
      refine (sameR H29.out (.tail _ (.head _)) (flat_len _ _ _) (.tail _ (.tail _ (.head _))) (flat_len _ _ _) (v := true) (sameB_self _ _ _)).mono ?_
      rintro e w30 ⟨rfl, h⟩
      have H30 := Lib.hid h
      clear h
      obtain ⟨a36, b36, d36⟩ := H30.out.cells (.head _)
      obtain ⟨a37, b37, d37⟩ := H30.out.cells (.tail _ (.tail _ (.tail _ (.tail _ (.tail _ (.tail _ (.tail _ (.tail _ (.tail _ (.tail _ (.tail _ (.tail _ (.head _)))))))))))))
      go_wp2_with fail
      clear a36 b36 d36 a37 b37 d37
      refine (sameR H30.out (.head _) (flat_len _ _ _) (.tail _ (.tail _ (.tail _ (.tail _ (.tail _ (.tail _ (.tail _ (.tail _ (.tail _ (.tail _ (.tail _ (.tail _ (.tail _ (.head _)))))))))))))) (flat_len _ _ _) (v := true) (sameB_self _ _ _)).mono ?_
      rintro e w31 ⟨rfl, h⟩
      have H31 := Lib.hid h
      clear h
      go_wp2_with fail
      refine (works_any _).mono ?_
      rintro e w32 ⟨rfl, hb⟩
      have H32 := Lib.hid (MS.keep H31.out hb)
      clear hb
      go_wp2_with fail
      go_ret
      exact ⟨rfl, H32.out.below⟩
  · skip
    refine step_new (P := Try.prog) _ ⟨rfl, rfl, rfl⟩ newMx ?_
    have H14 := Lib.hid (HD13.out.put #[.int .i64 0, .int .i64 0, .slice none 0 0])
    have HB14 := Lib.hid (And.intro HD13.out.below.size HD13.out.far)
    obtain ⟨g14, hg14⟩ : ∃ x, wd13.heap.size = x := ⟨_, rfl⟩
    rw [hg14] at H14 HB14 ⊢
    clear hg14
    generalize wd13.alloc (.cells #[.int .i64 0, .int .i64 0, .slice none 0 0] 27) = w14 at *
    try dsimp only
    refine hK.out _ _ ?_ (fun hHeld => ?_)
    · intro _
      try dsimp only
      have h := H14.out
      exact h.cells (.tail _ (.tail _ (.tail _ (.tail _ (.tail _ (.tail _ (.tail _ (.head _))))))))
    clear hK K
    try simp only [Act.put, List.setIfInBounds_toArray, List.set_cons_zero, List.set_cons_succ]
    have hHeld := hHeld (by kernel_rfl)
    refine wpAnyG_one (i := 3) (o := { dst := some 82, op := Op.call { callee := Callee.value (Operand.func 27), args := #[Operand.tmp 81], argTypes := #[3] }, type := 27, pos := _, after := #[{ on := 2, ground := Ground.data }], guard := none }) (by kernel_rfl) rfl (fun K hK => ?_)
    go_simp
    refine (oneR H14.out (r := r) rfl (by have := HD.out; omega) (r * r) rfl rfl).mono ?_
    rintro e w15 ⟨A15, c15, rfl, h⟩
    have H15 := Lib.hid h
    clear h
    try dsimp only
    refine hK.out _ _ ?_ (fun hHeld => ?_)
    · intro _
      try dsimp only
      have h := H15.out
      exact h.cells (.tail _ (.tail _ (.tail _ (.tail _ (.tail _ (.tail _ (.tail _ (.head _))))))))
    clear hK K
    try simp only [Act.put, List.setIfInBounds_toArray, List.set_cons_zero, List.set_cons_succ]
    have hHeld := hHeld (by kernel_rfl)
    refine wpAnyG_one (i := 5) (o := { dst := some 84, op := Op.call { callee := Callee.value (Operand.func 18), args := #[Operand.tmp 79, Operand.tmp 82, Operand.tmp 83], argTypes := #[24, 27, 27] }, type := 32, pos := _, after := #[{ on := 0, ground := Ground.data }, { on := 3, ground := Ground.data }, { on := 4, ground := Ground.data }, { on := 3, ground := Ground.chain }], guard := none }) (by kernel_rfl) rfl (fun K hK => ?_)
    go_simp
    refine (mulR H15.out (r := r) (c := r) (d := s) (.head _) (.tail _ (.tail _ (.tail _ (.tail _ (.tail _ (.tail _ (.tail _ (.head _)))))))) rfl rfl ⟨rfl, rfl, rfl, rfl⟩ (by have := HD.out; omega) rfl rfl r s (r * s) ⟨rfl, rfl, rfl⟩ (l := flat r s ma) (flat_congr fun i hi k _ => id_mulM ma hi k)).mono ?_
    rintro e w16 ⟨A16, c16, rfl, h⟩
    have H16 := Lib.hid h
    clear h
    try dsimp only
    refine hK.out _ _ ?_ (fun hHeld => ?_)
    · intro _
      try dsimp only
      have h := H16.out
      exact h.cells (.tail _ (.tail _ (.tail _ (.tail _ (.tail _ (.tail _ (.tail _ (.head _))))))))
    clear hK K
    try simp only [Act.put, List.setIfInBounds_toArray, List.set_cons_zero, List.set_cons_succ]
    have hHeld := hHeld (by kernel_rfl)
    refine wpAnyG_pure (i := 6) (oi := { dst := some 78, op := Op.move (Operand.tmp 84), type := 32, pos := _, after := #[{ on := 5, ground := Ground.data }], guard := none }) (v := ?_) rfl (by kernel_rfl) (by kernel_rfl) (by kernel_rfl) (by kernel_rfl) (fun _ _ _ h => h) (Or.inl ⟨by rfl, ?_⟩) (fun _ => by assumption) ?_
    rotate_left
    · intro w hSw
      try dsimp only at hSw
      go_simp
      try with_reducible rfl
    try simp only [Act.put, List.setIfInBounds_toArray, List.set_cons_zero, List.set_cons_succ]
    refine wpAnyG_pure (i := 7) (oi := { dst := some 85, op := Op.extract (Operand.tmp 78) 0, type := 27, pos := _, after := #[{ on := 6, ground := Ground.data }], guard := none }) (v := ?_) rfl (by kernel_rfl) (by kernel_rfl) (by kernel_rfl) (by kernel_rfl) (fun _ _ _ h => h) (Or.inl ⟨by rfl, ?_⟩) (fun _ => by assumption) ?_
    rotate_left
    · intro w hSw
      try dsimp only at hSw
      go_simp
      try with_reducible rfl
    try simp only [Act.put, List.setIfInBounds_toArray, List.set_cons_zero, List.set_cons_succ]
    refine wpAnyG_pure (i := 8) (oi := { dst := some 86, op := Op.extract (Operand.tmp 78) 1, type := 29, pos := _, after := #[{ on := 6, ground := Ground.data }, { on := 10, ground := Ground.gcOnly Departure.lateStores }], guard := none }) (v := ?_) rfl (by kernel_rfl) (by kernel_rfl) (by kernel_rfl) (by kernel_rfl) (fun _ _ _ h => h) (Or.inl ⟨by rfl, ?_⟩) (fun _ => by assumption) ?_
    rotate_left
    · intro w hSw
      try dsimp only at hSw
      go_simp
      try with_reducible rfl
    try simp only [Act.put, List.setIfInBounds_toArray, List.set_cons_zero, List.set_cons_succ]
    refine wpAnyG_one (i := 10) (o := { dst := none, op := Op.store 27 (Operand.tmp 16) (Operand.tmp 85), type := 0, pos := _, after := #[{ on := 9, ground := Ground.data }, { on := 7, ground := Ground.data }, { on := 5, ground := Ground.chain }, { on := 0, ground := Ground.phase }, { on := 1, ground := Ground.phase }, { on := 2, ground := Ground.phase }, { on := 3, ground := Ground.phase }, { on := 4, ground := Ground.phase }, { on := 5, ground := Ground.phase }, { on := 6, ground := Ground.phase }, { on := 7, ground := Ground.phase }, { on := 8, ground := Ground.textOnly Departure.lateStores }, { on := 9, ground := Ground.phase }], guard := none }) (by kernel_rfl) rfl (fun K hK => ?_)
    obtain ⟨⟨z0, z1, z2⟩, f0, f1, f2⟩ := cells3 (H16.out.box _ (.head _)).1
    go_simp
    have H17 := Lib.hid (H16.out.set HB14.out.1 HB14.out.2 (.int .i64 (r : Int)) (.int .i64 (s : Int)) (.slice A16 (r * s) c16))
    clear z0 z1 z2 f0 f1 f2 HB14
    generalize ((w16.setCell ⟨g14, 0, none⟩ (.int .i64 (r : Int))).setCell ⟨g14, 1, none⟩ (.int .i64 (s : Int))).setCell ⟨g14, 2, none⟩ (.slice A16 (r * s) c16) = w17 at *
    try dsimp only
    refine hK.out _ _ ?_ (fun hHeld => ?_)
    · exact fun h => (st_no (by kernel_rfl) h).elim
    clear hK K
    try simp only [Act.put, List.setIfInBounds_toArray, List.set_cons_zero, List.set_cons_succ]
    clear hHeld
    refine wpAnyG_pure (i := 11) (oi := { dst := some 17, op := Op.assign (Operand.tmp 86), type := 29, pos := _, after := #[{ on := 8, ground := Ground.data }, { on := 10, ground := Ground.chain }, { on := 0, ground := Ground.phase }, { on := 1, ground := Ground.phase }, { on := 2, ground := Ground.phase }, { on := 3, ground := Ground.phase }, { on := 4, ground := Ground.phase }, { on := 5, ground := Ground.phase }, { on := 6, ground := Ground.phase }, { on := 7, ground := Ground.phase }, { on := 8, ground := Ground.phase }, { on := 9, ground := Ground.phase }, { on := 10, ground := Ground.phase }], guard := none }) (v := ?_) rfl (by kernel_rfl) (by kernel_rfl) (by kernel_rfl) (by kernel_rfl) (fun _ _ _ h => h) (Or.inl ⟨by rfl, ?_⟩) (fun h => (st_no (by kernel_rfl) h).elim) ?_
    rotate_left
    · intro w hSw
      try dsimp only at hSw
      go_simp
      try with_reducible rfl
    try simp only [Act.put, List.setIfInBounds_toArray, List.set_cons_zero, List.set_cons_succ]
    refine wpAnyG_done (by kernel_rfl) ?_ _
    refine NoPanic.normal ?_
    obtain ⟨a19, b19, d19⟩ := H17.out.cells (.tail _ (.tail _ (.tail _ (.tail _ (.tail _ (.tail _ (.tail _ (.head _))))))))
    go_wp2_with fail
    clear a19 b19 d19
    refine (turnR H17.out (r := r) (c := s) (.tail _ (.tail _ (.tail _ (.tail _ (.tail _ (.tail _ (.tail _ (.tail _ (.head _))))))))) rfl ⟨rfl, rfl⟩ (by have := HD.out; omega) rfl s r (s * r) ⟨rfl, rfl, rfl⟩ (l := _) (rfl)).mono ?_
    rintro e w18 ⟨A18, c18, rfl, h⟩
    have H18 := Lib.hid h
    clear h
    have L20 := Lib.hid (show MS _ _ _ ((w18.heap.size, #[.int .i64 (s : Int), .int .i64 (r : Int), .slice A18 (s * r) c18]) :: _) (w18.alloc (.cells #[.int .i64 (s : Int), .int .i64 (r : Int), .slice A18 (s * r) c18] 27)) from by have h := H18.out.put #[.int .i64 (s : Int), .int .i64 (r : Int), .slice A18 (s * r) c18]; (try simp only [World.size_alloc] at h); exact h)
    obtain ⟨a21, b21, d21⟩ := L20.out.cells (.tail _ (.tail _ (.tail _ (.tail _ (.tail _ (.tail _ (.tail _ (.head _))))))))
    go_wp2_with fail
    clear a21 b21 d21
    have H19 := L20
    clear L20
    generalize (w18.alloc (.cells #[.int .i64 (s : Int), .int .i64 (r : Int), .slice A18 (s * r) c18] 27)) = w19 at *
    refine (turnR H19.out (r := s) (c := t) (.tail _ (.tail _ (.tail _ (.tail _ (.tail _ (.tail _ (.tail _ (.tail _ (.head _))))))))) rfl ⟨rfl, rfl⟩ (by have := HD.out; omega) rfl t s (t * s) ⟨rfl, rfl, rfl⟩ (l := _) (rfl)).mono ?_
    rintro e w20 ⟨A20, c20, rfl, h⟩
    have H20 := Lib.hid h
    clear h
    have L22 := Lib.hid (show MS _ _ _ ((w20.heap.size, #[.int .i64 (t : Int), .int .i64 (s : Int), .slice A20 (t * s) c20]) :: _) (w20.alloc (.cells #[.int .i64 (t : Int), .int .i64 (s : Int), .slice A20 (t * s) c20] 27)) from by have h := H20.out.put #[.int .i64 (t : Int), .int .i64 (s : Int), .slice A20 (t * s) c20]; (try simp only [World.size_alloc] at h); exact h)
    obtain ⟨a23, b23, d23⟩ := L22.out.cells (.tail _ (.tail _ (.tail _ (.tail _ (.tail _ (.tail _ (.head _)))))))
    go_wp2_with fail
    clear a23 b23 d23
    have H21 := L22
    clear L22
    generalize (w20.alloc (.cells #[.int .i64 (t : Int), .int .i64 (s : Int), .slice A20 (t * s) c20] 27)) = w21 at *
    refine (turnR H21.out (r := r) (c := t) (.tail _ (.tail _ (.tail _ (.tail _ (.tail _ (.tail _ (.tail _ (.head _)))))))) rfl ⟨rfl, rfl⟩ (by have := HD.out; omega) rfl t r (t * r) ⟨rfl, rfl, rfl⟩ (l := _) (rfl)).mono ?_
    rintro e w22 ⟨A22, c22, rfl, h⟩
    have H22 := Lib.hid h
    clear h
    have L24 := Lib.hid (show MS _ _ _ ((w22.heap.size, #[.int .i64 (t : Int), .int .i64 (r : Int), .slice A22 (t * r) c22]) :: _) (w22.alloc (.cells #[.int .i64 (t : Int), .int .i64 (r : Int), .slice A22 (t * r) c22] 27)) from by have h := H22.out.put #[.int .i64 (t : Int), .int .i64 (r : Int), .slice A22 (t * r) c22]; (try simp only [World.size_alloc] at h); exact h)
    obtain ⟨a25, b25, d25⟩ := L24.out.cells (.tail _ (.head _))
    obtain ⟨a26, b26, d26⟩ := L24.out.cells (.tail _ (.tail _ (.head _)))
    go_wp2_with fail
    clear a25 b25 d25 a26 b26 d26
    have H23 := L24
    clear L24
    generalize (w22.alloc (.cells #[.int .i64 (t : Int), .int .i64 (r : Int), .slice A22 (t * r) c22] 27)) = w23 at *
    refine (mulR H23.out (r := t) (c := s) (d := r) (.tail _ (.head _)) (.tail _ (.tail _ (.head _))) rfl rfl ⟨rfl, rfl, rfl, rfl⟩ (by have := HD.out; omega) rfl rfl t r (t * r) ⟨rfl, rfl, rfl⟩ (l := flat t r (fun x y => mulM s ma mb y x)) (flat_congr fun i _ k _ => (mulM_turn s ma mb i k).symm)).mono ?_
    rintro e w24 ⟨A24, c24, rfl, h⟩
    have H24 := Lib.hid h
    clear h
    have L27 := Lib.hid (show MS _ _ _ ((w24.heap.size, #[.int .i64 (t : Int), .int .i64 (r : Int), .slice A24 (t * r) c24]) :: _) (w24.alloc (.cells #[.int .i64 (t : Int), .int .i64 (r : Int), .slice A24 (t * r) c24] 27)) from by have h := H24.out.put #[.int .i64 (t : Int), .int .i64 (r : Int), .slice A24 (t * r) c24]; (try simp only [World.size_alloc] at h); exact h)
    obtain ⟨a28, b28, d28⟩ := L27.out.cells (.tail _ (.tail _ (.tail _ (.head _))))
    go_wp2_with fail
    clear a28 b28 d28
    have H25 := L27
    clear L27
    generalize (w24.alloc (.cells #[.int .i64 (t : Int), .int .i64 (r : Int), .slice A24 (t * r) c24] 27)) = w25 at *
    refine (turnR H25.out (r := s) (c := r) (.tail _ (.tail _ (.tail _ (.head _)))) rfl ⟨rfl, rfl⟩ (by have := HD.out; omega) rfl r s (r * s) ⟨rfl, rfl, rfl⟩ (l := flat r s ma) (rfl)).mono ?_
    rintro e w26 ⟨A26, c26, rfl, h⟩
    have H26 := Lib.hid h
    clear h
    have L29 := Lib.hid (show MS _ _ _ ((w26.heap.size, #[.int .i64 (r : Int), .int .i64 (s : Int), .slice A26 (r * s) c26]) :: _) (w26.alloc (.cells #[.int .i64 (r : Int), .int .i64 (s : Int), .slice A26 (r * s) c26] 27)) from by have h := H26.out.put #[.int .i64 (r : Int), .int .i64 (s : Int), .slice A26 (r * s) c26]; (try simp only [World.size_alloc] at h); exact h)
    obtain ⟨a30, b30, d30⟩ := L29.out.cells (.tail _ (.tail _ (.tail _ (.tail _ (.tail _ (.tail _ (.tail _ (.head _))))))))
    obtain ⟨a31, b31, d31⟩ := L29.out.cells (.tail _ (.tail _ (.tail _ (.tail _ (.tail _ (.tail _ (.head _)))))))
    go_wp2_with fail
    clear a30 b30 d30 a31 b31 d31
    have H27 := L29
    clear L29
    generalize (w26.alloc (.cells #[.int .i64 (r : Int), .int .i64 (s : Int), .slice A26 (r * s) c26] 27)) = w27 at *
    refine (sameR H27.out (.tail _ (.tail _ (.tail _ (.tail _ (.tail _ (.tail _ (.tail _ (.tail _ (.head _))))))))) (flat_len _ _ _) (.tail _ (.tail _ (.tail _ (.tail _ (.tail _ (.tail _ (.tail _ (.head _)))))))) (flat_len _ _ _) (v := true) (sameB_self _ _ _)).mono ?_
    rintro e w28 ⟨rfl, h⟩
    have H28 := Lib.hid h
    clear h
    obtain ⟨a32, b32, d32⟩ := H28.out.cells (.tail _ (.tail _ (.tail _ (.tail _ (.tail _ (.head _))))))
    obtain ⟨a33, b33, d33⟩ := H28.out.cells (.tail _ (.tail _ (.tail _ (.tail _ (.tail _ (.tail _ (.tail _ (.tail _ (.tail _ (.tail _ (.tail _ (.tail _ (.head _)))))))))))))
    go_wp2_with fail
    clear a32 b32 d32 a33 b33 d33
    refine (sameR H28.out (.tail _ (.tail _ (.tail _ (.tail _ (.tail _ (.head _)))))) (flat_len _ _ _) (.tail _ (.tail _ (.tail _ (.tail _ (.tail _ (.tail _ (.tail _ (.tail _ (.tail _ (.tail _ (.tail _ (.tail _ (.tail _ (.head _)))))))))))))) (flat_len _ _ _) (v := true) (sameB_self _ _ _)).mono ?_
    rintro e w29 ⟨rfl, h⟩
    have H29 := Lib.hid h
    clear h
    obtain ⟨a34, b34, d34⟩ := H29.out.cells (.tail _ (.head _))
    obtain ⟨a35, b35, d35⟩ := H29.out.cells (.tail _ (.tail _ (.head _)))
    go_wp2_with fail
    clear a34 b34 d34 a35 b35 d35
    refine (sameR H29.out (.tail _ (.head _)) (flat_len _ _ _) (.tail _ (.tail _ (.head _))) (flat_len _ _ _) (v := true) (sameB_self _ _ _)).mono ?_
    rintro e w30 ⟨rfl, h⟩
    have H30 := Lib.hid h
    clear h
    obtain ⟨a36, b36, d36⟩ := H30.out.cells (.head _)
    obtain ⟨a37, b37, d37⟩ := H30.out.cells (.tail _ (.tail _ (.tail _ (.tail _ (.tail _ (.tail _ (.tail _ (.tail _ (.tail _ (.tail _ (.tail _ (.tail _ (.head _)))))))))))))
    go_wp2_with fail
    clear a36 b36 d36 a37 b37 d37
    refine (sameR H30.out (.head _) (flat_len _ _ _) (.tail _ (.tail _ (.tail _ (.tail _ (.tail _ (.tail _ (.tail _ (.tail _ (.tail _ (.tail _ (.tail _ (.tail _ (.tail _ (.head _)))))))))))))) (flat_len _ _ _) (v := true) (sameB_self _ _ _)).mono ?_
    rintro e w31 ⟨rfl, h⟩
    have H31 := Lib.hid h
    clear h
    go_wp2_with fail
    refine (works_any _).mono ?_
    rintro e w32 ⟨rfl, hb⟩
    have H32 := Lib.hid (MS.keep H31.out hb)
    clear hb
    go_wp2_with fail
    go_ret
    exact ⟨rfl, H32.out.below⟩
theorem mul_nat {R C R' C' : Int} {n n' : Nat} (h : mulB R C n R' C' n' = true) : ∃ r s t : Nat, R = r ∧ C = s ∧ R' = s ∧ C' = t ∧ n = r * s ∧ n' = s * t := by
  unfold mulB at h
  rw [Bool.and_eq_true, Bool.and_eq_true] at h
  obtain ⟨r, s, rfl, rfl, _, _, e1⟩ := right_nat h.1.1
  obtain ⟨s', t, rfl, rfl, _, _, e2⟩ := right_nat h.1.2
  have e3 : s = s' := by have := h.2; simp at this; omega
  subst e3
  exact ⟨r, s, t, rfl, rfl, rfl, rfl, e1, e2⟩
theorem small_nat {r s : Nat} {n : Nat} (h : smallB 8 r s n = true) : r ≤ 8 ∧ s ≤ 8 := by have := of_decide_eq_true h; omega
theorem products_law (w : World) (Ra Ca : Int) (A : Option Addr) (la : List UInt8) (ca : Nat) (ga : Open.MtOk w Ra Ca A la ca) (Rb Cb : Int) (B : Option Addr) (lb : List UInt8) (cb : Nat) (gb : Open.MtOk w Rb Cb B lb cb) (Rc Cc : Int) (C : Option Addr) (lc : List UInt8) (cc : Nat) (gc : Open.MtOk w Rc Cc C lc cc) :
    Calls Try.prog 7 #[.agg #[.int .i64 Ra, .int .i64 Ca, .slice A la.length ca], .agg #[.int .i64 Rb, .int .i64 Cb, .slice B lb.length cb], .agg #[.int .i64 Rc, .int .i64 Cc, .slice C lc.length cc]] w fun e w' => e = .returned (.bool true) ∧ Below w.heap.size w w' := by
  cases hsa : smallB 8 Ra Ca la.length with
  | false => exact products_out0 w Ra Ca A la _ ca rfl ga.row ga.le Rb Cb B lb _ cb rfl gb.row gb.le Rc Cc C lc _ cc rfl gc.row gc.le hsa
  | true =>
  cases hsb : smallB 8 Rb Cb lb.length with
  | false => exact products_out1 w Ra Ca A la _ ca rfl ga.row ga.le Rb Cb B lb _ cb rfl gb.row gb.le Rc Cc C lc _ cc rfl gc.row gc.le hsa hsb
  | true =>
  cases hsc : smallB 8 Rc Cc lc.length with
  | false => exact products_out2 w Ra Ca A la _ ca rfl ga.row ga.le Rb Cb B lb _ cb rfl gb.row gb.le Rc Cc C lc _ cc rfl gc.row gc.le hsa hsb hsc
  | true =>
  cases hm0 : mulB Ra Ca la.length Rb Cb lb.length with
  | false =>
    cases hm1 : mulB Rb Cb lb.length Rc Cc lc.length with
    | false => exact products_bad0 w Ra Ca A la _ ca rfl ga.row ga.le Rb Cb B lb _ cb rfl gb.row gb.le Rc Cc C lc _ cc rfl gc.row gc.le hsa hsb hsc hm0 hm1
    | true =>
      obtain ⟨s, t, u, rfl, rfl, rfl, rfl, e1, e2⟩ := mul_nat hm1
      have d1 := small_nat hsb; have d2 := small_nat hsc
      rw [e1] at hm0
      rw [e1, e2]
      exact products_bad1 w s t u ⟨d1.1, d1.2, d2.2⟩ Ra Ca A la _ ca rfl ga.row ga.le B cb (ent lb t) (by rw [flat_ent e1]; exact gb.row) (by rw [flat_ent e1]; exact gb.le) C cc (ent lc u) (by rw [flat_ent e2]; exact gc.row) (by rw [flat_ent e2]; exact gc.le) hsa hm0
  | true =>
    cases hm1 : mulB Rb Cb lb.length Rc Cc lc.length with
    | false =>
      obtain ⟨r, s, t, rfl, rfl, rfl, rfl, e1, e2⟩ := mul_nat hm0
      have d1 := small_nat hsa; have d2 := small_nat hsb
      rw [e2] at hm1
      rw [e1, e2]
      exact products_bad2 w r s t ⟨d1.1, d1.2, d2.2⟩ A ca (ent la s) (by rw [flat_ent e1]; exact ga.row) (by rw [flat_ent e1]; exact ga.le) B cb (ent lb t) (by rw [flat_ent e2]; exact gb.row) (by rw [flat_ent e2]; exact gb.le) Rc Cc C lc _ cc rfl gc.row gc.le hsc hm1
    | true =>
      obtain ⟨r, s, t, rfl, rfl, rfl, rfl, e1, e2⟩ := mul_nat hm0
      obtain ⟨s', t', u, k1, k2, k3, rfl, e3, e4⟩ := mul_nat hm1
      obtain rfl : s = s' := Int.ofNat.inj k1
      obtain rfl : t = t' := Int.ofNat.inj k2
      subst k3
      have d1 := small_nat hsa; have d2 := small_nat hsb; have d3 := small_nat hsc
      rw [e1, e2, e4]
      exact products_ok w r s t u ⟨d1.1, d1.2, d2.2, d3.2⟩ A ca (ent la s) (by rw [flat_ent e1]; exact ga.row) (by rw [flat_ent e1]; exact ga.le) B cb (ent lb t) (by rw [flat_ent e2]; exact gb.row) (by rw [flat_ent e2]; exact gb.le) C cc (ent lc u) (by rw [flat_ent e4]; exact gc.row) (by rw [flat_ent e4]; exact gc.le)
end Go.Proofs.Ythdapoipfnnaeaa.MxW
