/- The law PolyValues: its walk. -/
import Derived.Test.YtciilojlfaihjaaPlLawSt
namespace Go.Proofs.Ytciilojlfaihjaa.PlW
open Go.RowKit Mem Gf FdW Pl Rng
set_option linter.unusedVariables false
set_option maxRecDepth 100000 in
set_option maxHeartbeats 4000000 in
theorem polyvalues_big0 (w : World) (A : Option Addr) (a : List UInt8) (ca : Nat) (hca : a.length ≤ ca) (hA : Bytes w w.heap.size A a) (B : Option Addr) (b : List UInt8) (cb : Nat) (hcb : b.length ≤ cb) (hB : Bytes w w.heap.size B b) (x : UInt8) (h : 40 < a.length) :
    Calls Try.prog 5 #[.slice A a.length ca, .slice B b.length cb, .int .u8 (x.toNat : Int)] w fun e w' => e = .returned (.bool true) ∧ Below w.heap.size w w' := by
  have h1 : (40 : Int) < (a.length : Int) := by omega
  clear h
  go_enter Try.func5, Try.ntmps5
  go_wp2_with fail
  refine (works_any _).mono ?_
  rintro e w1 ⟨rfl, hb⟩
  have H1 := Lib.hid hb
  clear hb
  go_wp2_with fail
  go_ret
  exact ⟨rfl, H1.out⟩
set_option maxRecDepth 100000 in
set_option maxHeartbeats 4000000 in
theorem polyvalues_big1 (w : World) (A : Option Addr) (a : List UInt8) (ca : Nat) (hca : a.length ≤ ca) (hA : Bytes w w.heap.size A a) (B : Option Addr) (b : List UInt8) (cb : Nat) (hcb : b.length ≤ cb) (hB : Bytes w w.heap.size B b) (x : UInt8) (h : a.length ≤ 40 ∧ 40 < b.length) :
    Calls Try.prog 5 #[.slice A a.length ca, .slice B b.length cb, .int .u8 (x.toNat : Int)] w fun e w' => e = .returned (.bool true) ∧ Below w.heap.size w w' := by
  have h1 : ¬ (40 : Int) < (a.length : Int) := by omega
  have h2 : (40 : Int) < (b.length : Int) := by omega
  clear h
  go_enter Try.func5, Try.ntmps5
  go_wp2_with fail
  refine (works_any _).mono ?_
  rintro e w1 ⟨rfl, hb⟩
  have H1 := Lib.hid hb
  clear hb
  go_wp2_with fail
  go_ret
  exact ⟨rfl, H1.out⟩
set_option maxRecDepth 100000 in
set_option maxHeartbeats 4000000 in
theorem values_none (w : World) (A : Option Addr) (a : List UInt8) (ca : Nat) (hca : a.length ≤ ca) (hA : Bytes w w.heap.size A a) (B : Option Addr) (b : List UInt8) (cb : Nat) (hcb : b.length ≤ cb) (hB : Bytes w w.heap.size B b) (x : UInt8) (h : a.length ≤ 40 ∧ b.length ≤ 40) (h0 : len a = 0 ∨ len b = 0) :
    Calls Try.prog 5 #[.slice A a.length ca, .slice B b.length cb, .int .u8 (x.toNat : Int)] w fun e w' => e = .returned (.bool true) ∧ Below w.heap.size w w' := by
  have h1 : ¬ (40 : Int) < (a.length : Int) := by omega
  have h2 : ¬ (40 : Int) < (b.length : Int) := by omega
  have H0 := Lib.hid (((PB.start w).arg 40 hB hcb h.2).arg 40 hA hca h.1)
  have HZ := Lib.hid (show trim (mulP a b) = [] from trim_of_len (len_mul_zero h0))
  have HD := Lib.hid h0
  have HE1 := Lib.hid (show ev (trim (add a b)) x = ev a x ^^^ ev b x from by rw [ev_congr (trim_eqv _), ev_add])
  have HE2 := Lib.hid (show ev (trim (mulP a b)) x = mul (ev a x) (ev b x) from by rw [ev_congr (trim_eqv _), ev_mulP])
  clear h h0 hA hB
  go_enter Try.func5, Try.ntmps5
  go_wp2_with fail
  refine (newP H0.out).mono ?_
  rintro e w1 ⟨rfl, h⟩
  have H1 := Lib.hid h
  clear h
  go_wp2_with fail
  refine (addR H1.out (a := a) (na := 40) (by simp) _ rfl (b := b) (nb := 40) (by simp) _ rfl (by decide) (by decide) 40 (by decide)).mono ?_
  rintro e w2 ⟨A2, c2, rfl, h⟩
  have H2 := Lib.hid h
  clear h
  go_wp2_with fail
  refine (mulR H2.out (a := a) (na := 40) (by simp) _ rfl (b := b) (nb := 40) (by simp) _ rfl (by decide) 80 (by decide)).mono ?_
  rintro e w3 ⟨A3, c3, rfl, h⟩
  rw [HZ.out] at h HE2 ⊢
  have H3 := Lib.hid h
  clear h
  go_wp2_with fail
  refine (atR H3.out (a := a) (na := 40) (by simp) _ rfl (by decide) _ x rfl).mono ?_
  rintro e w4 ⟨rfl, h⟩
  have H4 := Lib.hid h
  clear h
  go_wp2_with fail
  refine (atR H4.out (a := b) (na := 40) (by simp) _ rfl (by decide) _ x rfl).mono ?_
  rintro e w5 ⟨rfl, h⟩
  have H5 := Lib.hid h
  clear h
  go_wp2_with fail
  refine (atR H5.out (a := trim (add a b)) (na := 40) (by simp) _ rfl (by decide) _ x rfl).mono ?_
  rintro e w6 ⟨rfl, h⟩
  rw [HE1.out]
  have H6 := Lib.hid h
  clear h
  go_wp2_with fail
  refine (add_any _ _ (ev a x) (ev b x) rfl rfl _).mono ?_
  rintro e w' ⟨rfl, rfl⟩
  go_wp2_with fail
  refine (atR H6.out (a := []) (na := 80) (by simp) _ rfl (by decide) _ x rfl).mono ?_
  rintro e w7 ⟨rfl, h⟩
  rw [HE2.out]
  have H7 := Lib.hid h
  clear h
  go_wp2_with fail
  refine (fmulR H7.out _ _ (ev a x) (ev b x) rfl rfl).mono ?_
  rintro e w8 ⟨rfl, h⟩
  have H8 := Lib.hid h
  clear h
  go_wp2_with fail
  refine (degR H8.out (a := a) (na := 40) (by simp) _ rfl (by decide)).mono ?_
  rintro e w9 ⟨rfl, h⟩
  have H9 := Lib.hid h
  clear h
  go_wp2_with fail
  refine (degR H9.out (a := b) (na := 40) (by simp) _ rfl (by decide)).mono ?_
  rintro e w10 ⟨rfl, h⟩
  have H10 := Lib.hid h
  clear h
  have hor : len a = 0 ∨ (1 ≤ len a ∧ len b = 0) := by have := HD.out; omega
  rcases hor with h0 | ⟨h0, h0b⟩
  · have e1 : (len a : Int) - 1 = -1 := by omega
    clear h0
    rw [e1]
    clear e1
    go_wp2_with fail
    refine (works_any _).mono ?_
    rintro e w11 ⟨rfl, hb⟩
    have H11 := Lib.hid (PS.keep H10.out hb)
    clear hb
    go_wp2_with fail
    go_ret
    exact ⟨rfl, PS.below H11.out⟩
  · have e1 : (len b : Int) - 1 = -1 := by omega
    have e2 : ¬ (len a : Int) - 1 < 0 := by omega
    have e3 : (1 : Int) ≤ (len a : Int) := by omega
    clear h0 h0b
    rw [e1]
    clear e1
    go_wp2_with fail
    refine (works_any _).mono ?_
    rintro e w11 ⟨rfl, hb⟩
    have H11 := Lib.hid (PS.keep H10.out hb)
    clear hb
    go_wp2_with fail
    go_ret
    exact ⟨rfl, PS.below H11.out⟩
set_option maxRecDepth 100000 in
set_option maxHeartbeats 4000000 in
theorem values_some (w : World) (A : Option Addr) (a : List UInt8) (ca : Nat) (hca : a.length ≤ ca) (hA : Bytes w w.heap.size A a) (B : Option Addr) (b : List UInt8) (cb : Nat) (hcb : b.length ≤ cb) (hB : Bytes w w.heap.size B b) (x : UInt8) (h : a.length ≤ 40 ∧ b.length ≤ 40) (h0 : len a ≠ 0 ∧ len b ≠ 0) :
    Calls Try.prog 5 #[.slice A a.length ca, .slice B b.length cb, .int .u8 (x.toNat : Int)] w fun e w' => e = .returned (.bool true) ∧ Below w.heap.size w w' := by
  have h1 : ¬ (40 : Int) < (a.length : Int) := by omega
  have h2 : ¬ (40 : Int) < (b.length : Int) := by omega
  have H0 := Lib.hid (((PB.start w).arg 40 hB hcb h.2).arg 40 hA hca h.1)
  obtain ⟨ma, hma⟩ : ∃ ma, len a = ma + 1 := ⟨len a - 1, by omega⟩
  obtain ⟨mb, hmb⟩ : ∃ mb, len b = mb + 1 := ⟨len b - 1, by omega⟩
  have hma9 : (ma : Int) ≤ 40 := by have := len_le a; omega
  have hmb9 : (mb : Int) ≤ 40 := by have := len_le b; omega
  have HL := Lib.hid (And.intro hma hmb)
  have HLM := Lib.hid (show len (trim (mulP a b)) = ma + mb + 1 from by rw [len_congr (trim_eqv _), len_mul (by omega) (by omega)]; omega)
  clear hma hmb
  have HE1 := Lib.hid (show ev (trim (add a b)) x = ev a x ^^^ ev b x from by rw [ev_congr (trim_eqv _), ev_add])
  have HE2 := Lib.hid (show ev (trim (mulP a b)) x = mul (ev a x) (ev b x) from by rw [ev_congr (trim_eqv _), ev_mulP])
  clear h h0 hA hB
  go_enter Try.func5, Try.ntmps5
  go_wp2_with fail
  refine (newP H0.out).mono ?_
  rintro e w1 ⟨rfl, h⟩
  have H1 := Lib.hid h
  clear h
  go_wp2_with fail
  refine (addR H1.out (a := a) (na := 40) (by simp) _ rfl (b := b) (nb := 40) (by simp) _ rfl (by decide) (by decide) 40 (by decide)).mono ?_
  rintro e w2 ⟨A2, c2, rfl, h⟩
  have H2 := Lib.hid h
  clear h
  go_wp2_with fail
  refine (mulR H2.out (a := a) (na := 40) (by simp) _ rfl (b := b) (nb := 40) (by simp) _ rfl (by decide) 80 (by decide)).mono ?_
  rintro e w3 ⟨A3, c3, rfl, h⟩
  have H3 := Lib.hid h
  clear h
  go_wp2_with fail
  refine (atR H3.out (a := a) (na := 40) (by simp) _ rfl (by decide) _ x rfl).mono ?_
  rintro e w4 ⟨rfl, h⟩
  have H4 := Lib.hid h
  clear h
  go_wp2_with fail
  refine (atR H4.out (a := b) (na := 40) (by simp) _ rfl (by decide) _ x rfl).mono ?_
  rintro e w5 ⟨rfl, h⟩
  have H5 := Lib.hid h
  clear h
  go_wp2_with fail
  refine (atR H5.out (a := trim (add a b)) (na := 40) (by simp) _ rfl (by decide) _ x rfl).mono ?_
  rintro e w6 ⟨rfl, h⟩
  rw [HE1.out]
  have H6 := Lib.hid h
  clear h
  go_wp2_with fail
  refine (add_any _ _ (ev a x) (ev b x) rfl rfl _).mono ?_
  rintro e w' ⟨rfl, rfl⟩
  go_wp2_with fail
  refine (atR H6.out (a := trim (mulP a b)) (na := 80) (by simp) _ rfl (by decide) _ x rfl).mono ?_
  rintro e w7 ⟨rfl, h⟩
  rw [HE2.out]
  have H7 := Lib.hid h
  clear h
  go_wp2_with fail
  refine (fmulR H7.out _ _ (ev a x) (ev b x) rfl rfl).mono ?_
  rintro e w8 ⟨rfl, h⟩
  have H8 := Lib.hid h
  clear h
  go_wp2_with fail
  refine (degR H8.out (a := a) (na := 40) (by simp) _ rfl (by decide)).mono ?_
  rintro e w9 ⟨rfl, h⟩
  rw [show (len a : Int) - 1 = (ma : Int) from by have := HL.out; omega]
  have H9 := Lib.hid h
  clear h
  go_wp2_with fail
  refine (degR H9.out (a := b) (na := 40) (by simp) _ rfl (by decide)).mono ?_
  rintro e w10 ⟨rfl, h⟩
  rw [show (len b : Int) - 1 = (mb : Int) from by have := HL.out; omega]
  have H10 := Lib.hid h
  clear h
  go_wp2_with fail
  refine (divR H10.out (a := trim (mulP a b)) (na := 80) (by simp) _ rfl (b := b) (nb := 40) (by simp) _ rfl (by decide) (by decide) (by have := HL.out; omega) 80 (by decide)).mono ?_
  rintro e w11 ⟨q11, r11, A11, c11, B11, d11, hd, rfl, h⟩
  have e1 := values_div hd (by have := HL.out; omega)
  rw [e1.1, e1.2] at h ⊢
  clear hd e1
  have H11 := Lib.hid h
  clear h
  go_wp2_with fail
  refine (degR H11.out (a := trim (mulP a b)) (na := 80) (by simp) _ rfl (by decide)).mono ?_
  rintro e w12 ⟨rfl, h⟩
  rw [show (len (trim (mulP a b)) : Int) - 1 = (ma : Int) + (mb : Int) from by have := HLM.out; omega]
  have H12 := Lib.hid h
  clear h
  go_wp2_with fail
  refine (trimR H12.out (a := a) (na := 40) (by simp) _ rfl (by decide)).mono ?_
  rintro e w13 ⟨A13, c13, rfl, h⟩
  have H13 := Lib.hid h
  clear h
  go_wp2_with fail
  refine (sameR H13.out (a := trim a) (na := 80) (by simp) _ (by first | rfl | simp) (b := trim a) (nb := 40) (by simp) _ (by first | rfl | simp) true (sameB_yes rfl)).mono ?_
  rintro e w' ⟨rfl, rfl⟩
  go_wp2_with fail
  refine (works_any _).mono ?_
  rintro e w14 ⟨rfl, hb⟩
  have H14 := Lib.hid (PS.keep H13.out hb)
  clear hb
  go_wp2_with fail
  go_ret
  exact ⟨rfl, PS.below H14.out⟩
theorem values_any (w : World) (A : Option Addr) (a : List UInt8) (ca : Nat) (hca : a.length ≤ ca) (hA : Bytes w w.heap.size A a) (B : Option Addr) (b : List UInt8) (cb : Nat) (hcb : b.length ≤ cb) (hB : Bytes w w.heap.size B b) (x : UInt8) :
    Calls Try.prog 5 #[.slice A a.length ca, .slice B b.length cb, .int .u8 (x.toNat : Int)] w fun e w' => e = .returned (.bool true) ∧ Below w.heap.size w w' := by
  by_cases ha : a.length ≤ 40
  · by_cases hb : b.length ≤ 40
    · by_cases h0 : len a = 0 ∨ len b = 0
      · exact values_none w A a ca hca hA B b cb hcb hB x ⟨ha, hb⟩ h0
      · exact values_some w A a ca hca hA B b cb hcb hB x ⟨ha, hb⟩ (by omega)
    · exact polyvalues_big1 w A a ca hca hA B b cb hcb hB x ⟨ha, by omega⟩
  · exact polyvalues_big0 w A a ca hca hA B b cb hcb hB x (by omega)
theorem values_law (w : World) (A : Option Addr) (a : List UInt8) (ca : Nat) (hca : a.length ≤ ca) (_ : ca ≤ maxLen) (hA : Bytes w w.heap.size A a) (B : Option Addr) (b : List UInt8) (cb : Nat) (hcb : b.length ≤ cb) (_ : cb ≤ maxLen) (hB : Bytes w w.heap.size B b) (x : UInt8) :
    Calls Try.prog 5 #[.slice A a.length ca, .slice B b.length cb, .int .u8 (x.toNat : Int)] w fun e w' => e = .returned (.bool true) ∧ Below w.heap.size w w' := by
  exact values_any w A a ca hca hA B b cb hcb hB x
end Go.Proofs.Ytciilojlfaihjaa.PlW
