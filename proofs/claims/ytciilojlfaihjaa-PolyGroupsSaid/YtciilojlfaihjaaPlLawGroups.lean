/- The law PolyGroups: its walk. -/
import Derived.Test.YtciilojlfaihjaaPlLawSt
namespace Go.Proofs.Ytciilojlfaihjaa.PlW
open Go.RowKit Mem Gf FdW Pl Rng
set_option linter.unusedVariables false
set_option maxRecDepth 100000 in
set_option maxHeartbeats 4000000 in
theorem polygroups_big0 (w : World) (A : Option Addr) (a : List UInt8) (ca : Nat) (hca : a.length ≤ ca) (hA : Bytes w w.heap.size A a) (B : Option Addr) (b : List UInt8) (cb : Nat) (hcb : b.length ≤ cb) (hB : Bytes w w.heap.size B b) (C : Option Addr) (c : List UInt8) (cc : Nat) (hcc : c.length ≤ cc) (hC : Bytes w w.heap.size C c) (x : UInt8) (h : 30 < a.length) :
    Calls Try.prog 9 #[.slice A a.length ca, .slice B b.length cb, .slice C c.length cc, .int .u8 (x.toNat : Int)] w fun e w' => e = .returned (.bool true) ∧ Below w.heap.size w w' := by
  have h0 : (30 : Int) < (a.length : Int) := by omega
  clear h
  go_enter Try.func9, Try.ntmps9
  go_wp2_with fail
  refine (works_any _).mono ?_
  rintro e w1 ⟨rfl, hb⟩
  have H1 := Lib.hid hb
  clear hb
  go_wp2_with fail
  go_ret
  exact ⟨rfl, H1.out⟩
set_option maxRecDepth 100000 in
set_option maxHeartbeats 4000000 in
theorem polygroups_big1 (w : World) (A : Option Addr) (a : List UInt8) (ca : Nat) (hca : a.length ≤ ca) (hA : Bytes w w.heap.size A a) (B : Option Addr) (b : List UInt8) (cb : Nat) (hcb : b.length ≤ cb) (hB : Bytes w w.heap.size B b) (C : Option Addr) (c : List UInt8) (cc : Nat) (hcc : c.length ≤ cc) (hC : Bytes w w.heap.size C c) (x : UInt8) (h : a.length ≤ 30 ∧ 30 < b.length) :
    Calls Try.prog 9 #[.slice A a.length ca, .slice B b.length cb, .slice C c.length cc, .int .u8 (x.toNat : Int)] w fun e w' => e = .returned (.bool true) ∧ Below w.heap.size w w' := by
  have h0 : ¬ (30 : Int) < (a.length : Int) := by omega
  have h1 : (30 : Int) < (b.length : Int) := by omega
  clear h
  go_enter Try.func9, Try.ntmps9
  go_wp2_with fail
  refine (works_any _).mono ?_
  rintro e w1 ⟨rfl, hb⟩
  have H1 := Lib.hid hb
  clear hb
  go_wp2_with fail
  go_ret
  exact ⟨rfl, H1.out⟩
set_option maxRecDepth 100000 in
set_option maxHeartbeats 4000000 in
theorem polygroups_big2 (w : World) (A : Option Addr) (a : List UInt8) (ca : Nat) (hca : a.length ≤ ca) (hA : Bytes w w.heap.size A a) (B : Option Addr) (b : List UInt8) (cb : Nat) (hcb : b.length ≤ cb) (hB : Bytes w w.heap.size B b) (C : Option Addr) (c : List UInt8) (cc : Nat) (hcc : c.length ≤ cc) (hC : Bytes w w.heap.size C c) (x : UInt8) (h : a.length ≤ 30 ∧ b.length ≤ 30 ∧ 30 < c.length) :
    Calls Try.prog 9 #[.slice A a.length ca, .slice B b.length cb, .slice C c.length cc, .int .u8 (x.toNat : Int)] w fun e w' => e = .returned (.bool true) ∧ Below w.heap.size w w' := by
  have h0 : ¬ (30 : Int) < (a.length : Int) := by omega
  have h1 : ¬ (30 : Int) < (b.length : Int) := by omega
  have h2 : (30 : Int) < (c.length : Int) := by omega
  clear h
  go_enter Try.func9, Try.ntmps9
  go_wp2_with fail
  refine (works_any _).mono ?_
  rintro e w1 ⟨rfl, hb⟩
  have H1 := Lib.hid hb
  clear hb
  go_wp2_with fail
  go_ret
  exact ⟨rfl, H1.out⟩
set_option maxRecDepth 100000 in
set_option maxHeartbeats 4000000 in
theorem groups_1 (w : World) (A : Option Addr) (a : List UInt8) (ca : Nat) (hca : a.length ≤ ca) (hA : Bytes w w.heap.size A a) (B : Option Addr) (b : List UInt8) (cb : Nat) (hcb : b.length ≤ cb) (hB : Bytes w w.heap.size B b) (C : Option Addr) (c : List UInt8) (cc : Nat) (hcc : c.length ≤ cc) (hC : Bytes w w.heap.size C c) (x : UInt8) (h : a.length ≤ 30 ∧ b.length ≤ 30 ∧ c.length ≤ 30) :
    Calls Try.prog 9 #[.slice A a.length ca, .slice B b.length cb, .slice C c.length cc, .int .u8 (x.toNat : Int)] w fun e w' => e = .returned (.bool true) ∧ Below w.heap.size w w' := by
  have hs0 : ¬ (30 : Int) < (a.length : Int) := by omega
  have hs1 : ¬ (30 : Int) < (b.length : Int) := by omega
  have hs2 : ¬ (30 : Int) < (c.length : Int) := by omega
  have H0 := Lib.hid ((((PB.start w).arg 30 hC hcc h.2.2).arg 30 hB hcb h.2.1).arg 30 hA hca h.1)
  clear h
  go_enter Try.func9, Try.ntmps9
  go_wp2_with fail
  refine (newP H0.out).mono ?_
  rintro e w1 ⟨rfl, h⟩
  have H1 := Lib.hid h
  clear h
  go_wp2_with fail
  refine (addR H1.out (a := a) (na := 30) (by simp) _ rfl (b := b) (nb := 30) (by simp) _ rfl (by decide) (by decide) 30 (by decide)).mono ?_
  rintro e w2 ⟨A2, c2, rfl, h⟩
  have H2 := Lib.hid h
  clear h
  go_wp2_with fail
  refine (addR H2.out (a := b) (na := 30) (by simp) _ rfl (b := a) (nb := 30) (by simp) _ rfl (by decide) (by decide) 30 (by decide)).mono ?_
  rintro e w3 ⟨A3, c3, rfl, h⟩
  have H3 := Lib.hid h
  clear h
  go_wp2_with fail
  refine (sameR H3.out (a := trim (add a b)) (na := 30) (by simp) _ (by first | rfl | simp) (b := trim (add b a)) (nb := 30) (by simp) _ (by first | rfl | simp) true (sameB_yes (trim_congr (Pl.add_comm a b)))).mono ?_
  rintro e w' ⟨rfl, rfl⟩
  go_wp2_with fail
  refine (addR H3.out (a := a) (na := 30) (by simp) _ rfl (b := b) (nb := 30) (by simp) _ rfl (by decide) (by decide) 30 (by decide)).mono ?_
  rintro e w4 ⟨A4, c4, rfl, h⟩
  have H4 := Lib.hid h
  clear h
  go_wp2_with fail
  refine (addR H4.out (a := trim (add a b)) (na := 30) (by simp) _ rfl (b := c) (nb := 30) (by simp) _ rfl (by decide) (by decide) 30 (by decide)).mono ?_
  rintro e w5 ⟨A5, c5, rfl, h⟩
  have H5 := Lib.hid h
  clear h
  go_wp2_with fail
  refine (addR H5.out (a := b) (na := 30) (by simp) _ rfl (b := c) (nb := 30) (by simp) _ rfl (by decide) (by decide) 30 (by decide)).mono ?_
  rintro e w6 ⟨A6, c6, rfl, h⟩
  have H6 := Lib.hid h
  clear h
  go_wp2_with fail
  refine (addR H6.out (a := a) (na := 30) (by simp) _ rfl (b := trim (add b c)) (nb := 30) (by simp) _ rfl (by decide) (by decide) 30 (by decide)).mono ?_
  rintro e w7 ⟨A7, c7, rfl, h⟩
  have H7 := Lib.hid h
  clear h
  go_wp2_with fail
  refine (sameR H7.out (a := trim (add (trim (add a b)) c)) (na := 30) (by simp) _ (by first | rfl | simp) (b := trim (add a (trim (add b c)))) (nb := 30) (by simp) _ (by first | rfl | simp) true (sameB_yes (trim_congr (((add_congr (trim_eqv _) (Eqv.refl _)).trans (Pl.add_assoc a b c)).trans (add_congr (Eqv.refl _) (trim_eqv _).symm))))).mono ?_
  rintro e w' ⟨rfl, rfl⟩
  go_wp2_with fail
  refine (addR H7.out (a := a) (na := 30) (by simp) _ rfl (b := a) (nb := 30) (by simp) _ rfl (by decide) (by decide) 30 (by decide)).mono ?_
  rintro e w8 ⟨A8, c8, rfl, h⟩
  rw [show trim (add a a) = [] from trim_congr (add_self a)] at h ⊢
  have H8 := Lib.hid h
  clear h
  go_wp2_with fail
  refine (mulR H8.out (a := a) (na := 30) (by simp) _ rfl (b := b) (nb := 30) (by simp) _ rfl (by decide) 60 (by decide)).mono ?_
  rintro e w9 ⟨A9, c9, rfl, h⟩
  have H9 := Lib.hid h
  clear h
  go_wp2_with fail
  refine (mulR H9.out (a := b) (na := 30) (by simp) _ rfl (b := c) (nb := 30) (by simp) _ rfl (by decide) 60 (by decide)).mono ?_
  rintro e w10 ⟨A10, c10, rfl, h⟩
  have H10 := Lib.hid h
  clear h
  go_wp2_with fail
  refine (mulR H10.out (a := b) (na := 30) (by simp) _ rfl (b := a) (nb := 30) (by simp) _ rfl (by decide) 60 (by decide)).mono ?_
  rintro e w11 ⟨A11, c11, rfl, h⟩
  have H11 := Lib.hid h
  clear h
  go_wp2_with fail
  refine (sameR H11.out (a := trim (mulP a b)) (na := 60) (by simp) _ (by first | rfl | simp) (b := trim (mulP b a)) (nb := 60) (by simp) _ (by first | rfl | simp) true (sameB_yes (trim_congr (mulP_comm a b)))).mono ?_
  rintro e w' ⟨rfl, rfl⟩
  go_wp2_with fail
  refine (mulR H11.out (a := trim (mulP a b)) (na := 60) (by simp) _ rfl (b := c) (nb := 30) (by simp) _ rfl (by decide) 90 (by decide)).mono ?_
  rintro e w12 ⟨A12, c12, rfl, h⟩
  have H12 := Lib.hid h
  clear h
  go_wp2_with fail
  refine (mulR H12.out (a := a) (na := 30) (by simp) _ rfl (b := trim (mulP b c)) (nb := 60) (by simp) _ rfl (by decide) 90 (by decide)).mono ?_
  rintro e w13 ⟨A13, c13, rfl, h⟩
  have H13 := Lib.hid h
  clear h
  go_wp2_with fail
  refine (sameR H13.out (a := trim (mulP (trim (mulP a b)) c)) (na := 90) (by simp) _ (by first | rfl | simp) (b := trim (mulP a (trim (mulP b c)))) (nb := 90) (by simp) _ (by first | rfl | simp) true (sameB_yes (trim_congr (((mulP_left (trim_eqv _) c).trans (mulP_assoc b c a)).trans (mulP_right (trim_eqv _).symm a))))).mono ?_
  rintro e w' ⟨rfl, rfl⟩
  go_wp2_with fail
  refine (addR H13.out (a := b) (na := 30) (by simp) _ rfl (b := c) (nb := 30) (by simp) _ rfl (by decide) (by decide) 30 (by decide)).mono ?_
  rintro e w14 ⟨A14, c14, rfl, h⟩
  have H14 := Lib.hid h
  clear h
  go_wp2_with fail
  refine (mulR H14.out (a := a) (na := 30) (by simp) _ rfl (b := trim (add b c)) (nb := 30) (by simp) _ rfl (by decide) 60 (by decide)).mono ?_
  rintro e w15 ⟨A15, c15, rfl, h⟩
  have H15 := Lib.hid h
  clear h
  go_wp2_with fail
  refine (mulR H15.out (a := a) (na := 30) (by simp) _ rfl (b := c) (nb := 30) (by simp) _ rfl (by decide) 60 (by decide)).mono ?_
  rintro e w16 ⟨A16, c16, rfl, h⟩
  have H16 := Lib.hid h
  clear h
  go_wp2_with fail
  refine (addR H16.out (a := trim (mulP a b)) (na := 60) (by simp) _ rfl (b := trim (mulP a c)) (nb := 60) (by simp) _ rfl (by decide) (by decide) 60 (by decide)).mono ?_
  rintro e w17 ⟨A17, c17, rfl, h⟩
  have H17 := Lib.hid h
  clear h
  go_wp2_with fail
  refine (sameR H17.out (a := trim (mulP a (trim (add b c)))) (na := 60) (by simp) _ (by first | rfl | simp) (b := trim (add (trim (mulP a b)) (trim (mulP a c)))) (nb := 60) (by simp) _ (by first | rfl | simp) true (sameB_yes (trim_congr (((mulP_right (trim_eqv _) a).trans (mulP_add b c a)).trans (add_congr (trim_eqv _).symm (trim_eqv _).symm))))).mono ?_
  rintro e w' ⟨rfl, rfl⟩
  obtain ⟨i0, hi0, hz0, hz1, hz2⟩ := info_parts u8info
  have hb18 := build1 w17 (x.toNat : Int)
  have hrow := (H17.out.2 ⟨A, a, ca, 30⟩ (by simp)).1.1
  have HRW := Lib.hid ((hrow.below (nextA (Mem.start w17) (.cells #[.int .u8 (x.toNat : Int)] 5))))
  clear hrow
  have hal : a.length ≤ 30 := by omega
  go_wp2_with ((with_reducible show wpList _ _ _ ((⟨some 104, _, _, _, _, _⟩ : Oper) :: _) _ _); refine wpList_app _ rfl _ _ _ rfl w17.heap.size 5 i0 _ 1 Try.underlying22 hi0 hz0 hz1 hz2 rfl (some ⟨w17.heap.size, 0, none⟩) 1 1 ([x].map u8v) rfl rfl (own1 w17 x) w17.heap.size A ca a.length (a.map u8v) rfl (by simp) HRW.out u8v_one (by simp [maxLen]; omega) (by simp; omega) (by simp) (x :: a).length (by simp; omega) ?_; intro A18 c18 w18 ho hb _ _)
  have hbb : Below w17.heap.size w17 w18 := (nextA (Mem.start w17) _).trans hb
  have h := (PS.keep H17.out hbb).row 31 (A := A18) (l := x :: a) (c := c18) (base := w17.heap.size) (by have := ho; rwa [← List.map_append] at this) (by simp; omega)
  clear ho hb hbb hb18 hi0 hz0 hz1 hz2 hal
  have H18 := Lib.hid h
  clear h
  go_wp2_with fail
  refine (rootsR H18.out (a := (x :: a)) (na := 31) (by simp) _ rfl (by decide) 32 (by decide)).mono ?_
  rintro e w19 ⟨A19, c19, rfl, h⟩
  have H19 := Lib.hid h
  clear h
  go_wp2_with fail
  refine (rootsR H19.out (a := a) (na := 30) (by simp) _ rfl (by decide) 31 (by decide)).mono ?_
  rintro e w20 ⟨A20, c20, rfl, h⟩
  have H20 := Lib.hid h
  clear h
  have hb21 := build2 w20 ((x.toNat : Int)) (1)
  have L21 := Lib.hid (show PS _ _ (⟨some ⟨w20.heap.size, 0, none⟩, [x, 1], 2, 2⟩ :: _) (w20.alloc (.cells #[.int .u8 (x.toNat : Int), .int .u8 1] 5)) from lit2 (H20.out) x 1)
  go_wp2_with fail
  generalize (w20.alloc (.cells #[.int .u8 (x.toNat : Int), .int .u8 1] 5)) = w22 at *
  have H22 := L21
  clear hb21 L21
  go_wp2_with fail
  refine (mulR H22.out (a := trim (rootsP a)) (na := 31) (by simp) _ rfl (b := [x, 1]) (nb := 2) (by simp) _ rfl (by decide) 33 (by decide)).mono ?_
  rintro e w23 ⟨A23, c23, rfl, h⟩
  have H23 := Lib.hid h
  clear h
  go_wp2_with fail
  refine (sameR H23.out (a := trim (rootsP (x :: a))) (na := 32) (by simp) _ (by first | rfl | simp) (b := trim (mulP (trim (rootsP a)) [x, 1])) (nb := 33) (by simp) _ (by first | rfl | simp) true (sameB_yes (trim_congr ((roots_cons x a).trans (mulP_left (trim_eqv _).symm _))))).mono ?_
  rintro e w' ⟨rfl, rfl⟩
  go_wp2_with fail
  refine (works_any _).mono ?_
  rintro e w24 ⟨rfl, hb⟩
  have H24 := Lib.hid (PS.keep H23.out hb)
  clear hb
  go_wp2_with fail
  go_ret
  exact ⟨rfl, PS.below H24.out⟩
theorem groups_any (w : World) (A : Option Addr) (a : List UInt8) (ca : Nat) (hca : a.length ≤ ca) (hA : Bytes w w.heap.size A a) (B : Option Addr) (b : List UInt8) (cb : Nat) (hcb : b.length ≤ cb) (hB : Bytes w w.heap.size B b) (C : Option Addr) (c : List UInt8) (cc : Nat) (hcc : c.length ≤ cc) (hC : Bytes w w.heap.size C c) (x : UInt8) :
    Calls Try.prog 9 #[.slice A a.length ca, .slice B b.length cb, .slice C c.length cc, .int .u8 (x.toNat : Int)] w fun e w' => e = .returned (.bool true) ∧ Below w.heap.size w w' := by
  by_cases hs0 : a.length ≤ 30
  · skip
    by_cases hs1 : b.length ≤ 30
    · skip
      by_cases hs2 : c.length ≤ 30
      · skip
        exact groups_1 w A a ca hca hA B b cb hcb hB C c cc hcc hC x ⟨hs0, hs1, hs2⟩
      · exact polygroups_big2 w A a ca hca hA B b cb hcb hB C c cc hcc hC x (by omega)
    · exact polygroups_big1 w A a ca hca hA B b cb hcb hB C c cc hcc hC x (by omega)
  · exact polygroups_big0 w A a ca hca hA B b cb hcb hB C c cc hcc hC x (by omega)
theorem groups_law (w : World) (A : Option Addr) (a : List UInt8) (ca : Nat) (hca : a.length ≤ ca) (_ : ca ≤ maxLen) (hA : Bytes w w.heap.size A a) (B : Option Addr) (b : List UInt8) (cb : Nat) (hcb : b.length ≤ cb) (_ : cb ≤ maxLen) (hB : Bytes w w.heap.size B b) (C : Option Addr) (c : List UInt8) (cc : Nat) (hcc : c.length ≤ cc) (_ : cc ≤ maxLen) (hC : Bytes w w.heap.size C c) (x : UInt8) :
    Calls Try.prog 9 #[.slice A a.length ca, .slice B b.length cb, .slice C c.length cc, .int .u8 (x.toNat : Int)] w fun e w' => e = .returned (.bool true) ∧ Below w.heap.size w w' := by
  exact groups_any w A a ca hca hA B b cb hcb hB C c cc hcc hC x
end Go.Proofs.Ytciilojlfaihjaa.PlW
