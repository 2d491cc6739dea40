/- The law PolyThrough: its walk. -/
import Derived.Test.YtciilojlfaihjaaPlLawSt
namespace Go.Proofs.Ytciilojlfaihjaa.PlW
open Go.RowKit Mem Gf FdW Pl Rng
set_option linter.unusedVariables false
set_option maxRecDepth 100000 in
set_option maxHeartbeats 4000000 in
theorem polythrough_big0 (w : World) (A : Option Addr) (a : List UInt8) (ca : Nat) (hca : a.length ≤ ca) (hA : Bytes w w.heap.size A a) (B : Option Addr) (b : List UInt8) (cb : Nat) (hcb : b.length ≤ cb) (hB : Bytes w w.heap.size B b) (C : Option Addr) (c : List UInt8) (cc : Nat) (hcc : c.length ≤ cc) (hC : Bytes w w.heap.size C c) (x : UInt8) (h : 16 < a.length) :
    Calls Try.prog 4 #[.slice A a.length ca, .slice B b.length cb, .slice C c.length cc, .int .u8 (x.toNat : Int)] w fun e w' => e = .returned (.bool true) ∧ Below w.heap.size w w' := by
  have h0 : (16 : Int) < (a.length : Int) := by omega
  clear h
  go_enter Try.func4, Try.ntmps4
  go_wp2_with fail
  refine (works_any _).mono ?_
  rintro e w1 ⟨rfl, hb⟩
  have H1 := Lib.hid hb
  clear hb
  go_wp2_with fail
  go_ret
  exact ⟨rfl, H1.out⟩
set_option maxRecDepth 100000 in
set_option maxHeartbeats 4000000 in
theorem polythrough_big1 (w : World) (A : Option Addr) (a : List UInt8) (ca : Nat) (hca : a.length ≤ ca) (hA : Bytes w w.heap.size A a) (B : Option Addr) (b : List UInt8) (cb : Nat) (hcb : b.length ≤ cb) (hB : Bytes w w.heap.size B b) (C : Option Addr) (c : List UInt8) (cc : Nat) (hcc : c.length ≤ cc) (hC : Bytes w w.heap.size C c) (x : UInt8) (h : a.length ≤ 16 ∧ 16 < b.length) :
    Calls Try.prog 4 #[.slice A a.length ca, .slice B b.length cb, .slice C c.length cc, .int .u8 (x.toNat : Int)] w fun e w' => e = .returned (.bool true) ∧ Below w.heap.size w w' := by
  have h0 : ¬ (16 : Int) < (a.length : Int) := by omega
  have h1 : (16 : Int) < (b.length : Int) := by omega
  clear h
  go_enter Try.func4, Try.ntmps4
  go_wp2_with fail
  refine (works_any _).mono ?_
  rintro e w1 ⟨rfl, hb⟩
  have H1 := Lib.hid hb
  clear hb
  go_wp2_with fail
  go_ret
  exact ⟨rfl, H1.out⟩
set_option maxRecDepth 100000 in
set_option maxHeartbeats 4000000 in
theorem polythrough_big2 (w : World) (A : Option Addr) (a : List UInt8) (ca : Nat) (hca : a.length ≤ ca) (hA : Bytes w w.heap.size A a) (B : Option Addr) (b : List UInt8) (cb : Nat) (hcb : b.length ≤ cb) (hB : Bytes w w.heap.size B b) (C : Option Addr) (c : List UInt8) (cc : Nat) (hcc : c.length ≤ cc) (hC : Bytes w w.heap.size C c) (x : UInt8) (h : a.length ≤ 16 ∧ b.length ≤ 16 ∧ 40 < c.length) :
    Calls Try.prog 4 #[.slice A a.length ca, .slice B b.length cb, .slice C c.length cc, .int .u8 (x.toNat : Int)] w fun e w' => e = .returned (.bool true) ∧ Below w.heap.size w w' := by
  have h0 : ¬ (16 : Int) < (a.length : Int) := by omega
  have h1 : ¬ (16 : Int) < (b.length : Int) := by omega
  have h2 : (40 : Int) < (c.length : Int) := by omega
  clear h
  go_enter Try.func4, Try.ntmps4
  go_wp2_with fail
  refine (works_any _).mono ?_
  rintro e w1 ⟨rfl, hb⟩
  have H1 := Lib.hid hb
  clear hb
  go_wp2_with fail
  go_ret
  exact ⟨rfl, H1.out⟩
set_option maxRecDepth 100000 in
set_option maxHeartbeats 4000000 in
theorem through_1 (w : World) (A : Option Addr) (a : List UInt8) (ca : Nat) (hca : a.length ≤ ca) (hA : Bytes w w.heap.size A a) (B : Option Addr) (b : List UInt8) (cb : Nat) (hcb : b.length ≤ cb) (hB : Bytes w w.heap.size B b) (C : Option Addr) (c : List UInt8) (cc : Nat) (hcc : c.length ≤ cc) (hC : Bytes w w.heap.size C c) (x : UInt8) (h : a.length ≤ 16 ∧ b.length ≤ 16 ∧ c.length ≤ 40) (hg : Good a b) :
    Calls Try.prog 4 #[.slice A a.length ca, .slice B b.length cb, .slice C c.length cc, .int .u8 (x.toNat : Int)] w fun e w' => e = .returned (.bool true) ∧ Below w.heap.size w w' := by
  have hs0 : ¬ (16 : Int) < (a.length : Int) := by omega
  have hs1 : ¬ (16 : Int) < (b.length : Int) := by omega
  have hs2 : ¬ (40 : Int) < (c.length : Int) := by omega
  have H0 := Lib.hid ((((PB.start w).arg 40 hC hcc h.2.2).arg 16 hB hcb h.2.1).arg 16 hA hca h.1)
  have HG := Lib.hid hg
  clear h hA hB hC hg
  go_enter Try.func4, Try.ntmps4
  go_wp2_with fail
  refine (newP H0.out).mono ?_
  rintro e w1 ⟨rfl, h⟩
  have H1 := Lib.hid h
  clear h
  go_wp2_with fail
  refine (thrR H1.out (a := a) (na := 16) (by simp) _ rfl (b := b) (nb := 16) (by simp) _ rfl (by decide) HG.out 16 (by decide)).mono ?_
  rintro e w2 ⟨P2, A2, c2, hd, ht, rfl, h⟩
  have HP := Lib.hid (And.intro hd ht)
  clear hd ht
  have H2 := Lib.hid h
  clear h
  go_wp2_with fail
  refine (rthrR H2.out (a := a) (na := 16) (by simp) _ rfl (b := b) (nb := 16) (by simp) _ rfl (by decide) HG.out 16 (by decide)).mono ?_
  rintro e w3 ⟨P3, A3, c3, hd, ht, rfl, h⟩
  have HQ := Lib.hid (And.intro hd ht)
  clear hd ht
  have H3 := Lib.hid h
  clear h
  go_wp2_with fail
  refine (sameR H3.out (a := P2) (na := 16) (by simp) _ (by first | rfl | simp) (b := P3) (nb := 16) (by simp) _ (by first | rfl | simp) true (sameB_yes (by rw [← HP.out.2, ← HQ.out.2]; exact trim_congr (thr_only HG.out.2 HG.out.1 HP.out.1 HQ.out.1)))).mono ?_
  rintro e w' ⟨rfl, rfl⟩
  go_wp2_with fail
  refine (atR H3.out (a := c) (na := 40) (by simp) _ rfl (by decide) _ x rfl).mono ?_
  rintro e w4 ⟨rfl, h⟩
  have H4 := Lib.hid h
  clear h
  go_wp2_with fail
  refine (ratR H4.out (a := c) (na := 40) (by simp) _ rfl (by decide) _ x rfl).mono ?_
  rintro e w' ⟨rfl, rfl⟩
  go_wp2_with fail
  refine (rootsR H4.out (a := a) (na := 16) (by simp) _ rfl (by decide) 17 (by decide)).mono ?_
  rintro e w5 ⟨A5, c5, rfl, h⟩
  have H5 := Lib.hid h
  clear h
  go_wp2_with fail
  refine (rrootsR H5.out (a := a) (na := 16) (by simp) _ rfl (by decide) 17 (by decide)).mono ?_
  rintro e w6 ⟨A6, c6, rfl, h⟩
  have H6 := Lib.hid h
  clear h
  go_wp2_with fail
  refine (sameR H6.out (a := trim (rootsP a)) (na := 17) (by simp) _ (by first | rfl | simp) (b := trim (rootsP a)) (nb := 17) (by simp) _ (by first | rfl | simp) true (sameB_yes rfl)).mono ?_
  rintro e w' ⟨rfl, rfl⟩
  go_wp2_with fail
  refine (works_any _).mono ?_
  rintro e w7 ⟨rfl, hb⟩
  have H7 := Lib.hid (PS.keep H6.out hb)
  clear hb
  go_wp2_with fail
  go_ret
  exact ⟨rfl, PS.below H7.out⟩
set_option maxRecDepth 100000 in
set_option maxHeartbeats 4000000 in
theorem through_0 (w : World) (A : Option Addr) (a : List UInt8) (ca : Nat) (hca : a.length ≤ ca) (hA : Bytes w w.heap.size A a) (B : Option Addr) (b : List UInt8) (cb : Nat) (hcb : b.length ≤ cb) (hB : Bytes w w.heap.size B b) (C : Option Addr) (c : List UInt8) (cc : Nat) (hcc : c.length ≤ cc) (hC : Bytes w w.heap.size C c) (x : UInt8) (h : a.length ≤ 16 ∧ b.length ≤ 16 ∧ c.length ≤ 40) (hg : ¬ Good a b) :
    Calls Try.prog 4 #[.slice A a.length ca, .slice B b.length cb, .slice C c.length cc, .int .u8 (x.toNat : Int)] w fun e w' => e = .returned (.bool true) ∧ Below w.heap.size w w' := by
  have hs0 : ¬ (16 : Int) < (a.length : Int) := by omega
  have hs1 : ¬ (16 : Int) < (b.length : Int) := by omega
  have hs2 : ¬ (40 : Int) < (c.length : Int) := by omega
  have H0 := Lib.hid ((((PB.start w).arg 40 hC hcc h.2.2).arg 16 hB hcb h.2.1).arg 16 hA hca h.1)
  have HG := Lib.hid hg
  clear h hA hB hC hg
  go_enter Try.func4, Try.ntmps4
  go_wp2_with fail
  refine (newP H0.out).mono ?_
  rintro e w1 ⟨rfl, h⟩
  have H1 := Lib.hid h
  clear h
  go_wp2_with fail
  refine (thr0R H1.out (a := a) (na := 16) (by simp) _ rfl (b := b) (nb := 16) (by simp) _ rfl (by decide) HG.out).mono ?_
  rintro e w2 ⟨rfl, h⟩
  have H2 := Lib.hid h
  clear h
  go_wp2_with fail
  refine (rthr0R H2.out (a := a) (na := 16) (by simp) _ rfl (b := b) (nb := 16) (by simp) _ rfl (by decide) HG.out).mono ?_
  rintro e w3 ⟨rfl, h⟩
  have H3 := Lib.hid h
  clear h
  have HN := Lib.hid (PS.nilR H3.out)
  go_wp2_with fail
  refine (sameR HN.out (a := []) (na := 0) (by simp) _ (by first | rfl | simp) (b := []) (nb := 0) (by simp) _ (by first | rfl | simp) true (sameB_yes rfl)).mono ?_
  rintro e w' ⟨rfl, rfl⟩
  go_wp2_with fail
  refine (atR HN.out (a := c) (na := 40) (by simp) _ rfl (by decide) _ x rfl).mono ?_
  rintro e w4 ⟨rfl, h⟩
  have H4 := Lib.hid h
  clear h
  go_wp2_with fail
  refine (ratR H4.out (a := c) (na := 40) (by simp) _ rfl (by decide) _ x rfl).mono ?_
  rintro e w' ⟨rfl, rfl⟩
  go_wp2_with fail
  refine (rootsR H4.out (a := a) (na := 16) (by simp) _ rfl (by decide) 17 (by decide)).mono ?_
  rintro e w5 ⟨A5, c5, rfl, h⟩
  have H5 := Lib.hid h
  clear h
  go_wp2_with fail
  refine (rrootsR H5.out (a := a) (na := 16) (by simp) _ rfl (by decide) 17 (by decide)).mono ?_
  rintro e w6 ⟨A6, c6, rfl, h⟩
  have H6 := Lib.hid h
  clear h
  go_wp2_with fail
  refine (sameR H6.out (a := trim (rootsP a)) (na := 17) (by simp) _ (by first | rfl | simp) (b := trim (rootsP a)) (nb := 17) (by simp) _ (by first | rfl | simp) true (sameB_yes rfl)).mono ?_
  rintro e w' ⟨rfl, rfl⟩
  go_wp2_with fail
  refine (works_any _).mono ?_
  rintro e w7 ⟨rfl, hb⟩
  have H7 := Lib.hid (PS.keep H6.out hb)
  clear hb
  go_wp2_with fail
  go_ret
  exact ⟨rfl, PS.below H7.out⟩
theorem through_any (w : World) (A : Option Addr) (a : List UInt8) (ca : Nat) (hca : a.length ≤ ca) (hA : Bytes w w.heap.size A a) (B : Option Addr) (b : List UInt8) (cb : Nat) (hcb : b.length ≤ cb) (hB : Bytes w w.heap.size B b) (C : Option Addr) (c : List UInt8) (cc : Nat) (hcc : c.length ≤ cc) (hC : Bytes w w.heap.size C c) (x : UInt8) :
    Calls Try.prog 4 #[.slice A a.length ca, .slice B b.length cb, .slice C c.length cc, .int .u8 (x.toNat : Int)] w fun e w' => e = .returned (.bool true) ∧ Below w.heap.size w w' := by
  by_cases hs0 : a.length ≤ 16
  · skip
    by_cases hs1 : b.length ≤ 16
    · skip
      by_cases hs2 : c.length ≤ 40
      · skip
        by_cases hg : Good a b
        · exact through_1 w A a ca hca hA B b cb hcb hB C c cc hcc hC x ⟨hs0, hs1, hs2⟩ hg
        · exact through_0 w A a ca hca hA B b cb hcb hB C c cc hcc hC x ⟨hs0, hs1, hs2⟩ hg
      · exact polythrough_big2 w A a ca hca hA B b cb hcb hB C c cc hcc hC x (by omega)
    · exact polythrough_big1 w A a ca hca hA B b cb hcb hB C c cc hcc hC x (by omega)
  · exact polythrough_big0 w A a ca hca hA B b cb hcb hB C c cc hcc hC x (by omega)
theorem through_law (w : World) (A : Option Addr) (a : List UInt8) (ca : Nat) (hca : a.length ≤ ca) (_ : ca ≤ maxLen) (hA : Bytes w w.heap.size A a) (B : Option Addr) (b : List UInt8) (cb : Nat) (hcb : b.length ≤ cb) (_ : cb ≤ maxLen) (hB : Bytes w w.heap.size B b) (C : Option Addr) (c : List UInt8) (cc : Nat) (hcc : c.length ≤ cc) (_ : cc ≤ maxLen) (hC : Bytes w w.heap.size C c) (x : UInt8) :
    Calls Try.prog 4 #[.slice A a.length ca, .slice B b.length cb, .slice C c.length cc, .int .u8 (x.toNat : Int)] w fun e w' => e = .returned (.bool true) ∧ Below w.heap.size w w' := by
  exact through_any w A a ca hca hA B b cb hcb hB C c cc hcc hC x
end Go.Proofs.Ytciilojlfaihjaa.PlW
