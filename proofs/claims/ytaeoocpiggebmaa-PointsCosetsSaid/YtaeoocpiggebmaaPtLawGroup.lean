/- The law PointsGroup: its walk. -/
import Derived.Test.YtaeoocpiggebmaaPtLawOf
namespace Go.Proofs.Ytaeoocpiggebmaa.PtW
open Go.RowKit Go.Shelf Mem Gf FdW Rng
set_option linter.unusedVariables false
set_option maxRecDepth 100000 in
set_option maxHeartbeats 8000000 in
theorem group_big (w : World) (r i : Int) (h : (1099511627776 : Int) < i) : Calls Try.prog 4 #[.int .i64 r, .int .i64 i] w fun e w' => e = .returned (.bool true) ∧ Below w.heap.size w w' := by
  have hd : decide ((1099511627776 : Int) < i) = true := decide_eq_true h
  clear h
  go_enter Try.func4, Try.ntmps4
  go_wp2_with fail
  refine (works_any _).mono ?_
  rintro e w4 ⟨rfl, hb⟩
  have H4 := Lib.hid hb
  clear hb
  go_wp2_with fail
  go_ret
  exact ⟨rfl, H4.out⟩
set_option maxRecDepth 100000 in
set_option maxHeartbeats 8000000 in
theorem group_bad (w : World) (r i : Int) (hi : ¬ (1099511627776 : Int) < i) (h : r < 1 ∨ 255 < r ∨ i < 0) : Calls Try.prog 4 #[.int .i64 r, .int .i64 i] w fun e w' => e = .returned (.bool true) ∧ Below w.heap.size w w' := by
  have hd : decide ((1099511627776 : Int) < i) = false := decide_eq_false hi
  have HB := Lib.hid h
  clear h hi
  go_enter Try.func4, Try.ntmps4
  go_wp2_with fail
  refine (group_no _ r i HB.out).mono ?_
  rintro e w1 ⟨A1, c1, rfl, ho, hb⟩
  have H1 := Lib.hid (And.intro ho hb)
  clear ho hb
  go_wp2_with fail
  refine (refGroup_no _ r i HB.out).mono ?_
  rintro e w2 ⟨A2, c2, rfl, ho, hb⟩
  have H2 := Lib.hid (And.intro (H1.out.1.keep hb) (And.intro ho (next H1.out.2 hb)))
  clear ho hb
  go_wp2_with fail
  refine (sameInts_any _ (A := A1) (a := ([] : List Int)) (b := ([] : List Int)) H2.out.1.cells H2.out.2.1.cells _ _ _ _ (by rfl) (by rfl) (by decide)).mono ?_
  rintro e w3 ⟨rfl, hb⟩
  have H3 := Lib.hid (next H2.out.2.2 hb)
  rw [show decide (([] : List Int) = ([] : List Int)) = true from decide_eq_true rfl]
  clear hb
  go_wp2_with fail
  refine (works_any _).mono ?_
  rintro e w4 ⟨rfl, hb⟩
  have H4 := Lib.hid (next H3.out hb)
  clear hb
  go_wp2_with fail
  go_ret
  exact ⟨rfl, H4.out⟩
set_option maxRecDepth 100000 in
set_option maxHeartbeats 8000000 in
theorem group_good (w : World) (R I : Nat) (hi : ¬ (1099511627776 : Int) < (I : Int)) (hR : 1 ≤ R ∧ R ≤ 255) : Calls Try.prog 4 #[.int .i64 (R : Int), .int .i64 (I : Int)] w fun e w' => e = .returned (.bool true) ∧ Below w.heap.size w w' := by
  have hd : decide ((1099511627776 : Int) < (I : Int)) = false := decide_eq_false hi
  have hI : (I : Int) ≤ 256 ^ 5 := by omega
  have hm := Nat.mod_lt I (Nat.succ_pos R)
  have hb : I = I / (R + 1) * (R + 1) + I % (R + 1) := (Nat.div_add_mod' I (R + 1)).symm
  have HC := Lib.hid (fun w => group_ok w R I (I / (R + 1) * (R + 1)) (I % (R + 1)) hR hI rfl hb)
  have HD := Lib.hid (fun w => refGroup_ok w R I (I / (R + 1) * (R + 1)) (I % (R + 1)) (I / (R + 1)) hR hI hm hb rfl rfl)
  have HLM := Lib.hid (show ((gl (I / (R + 1) * (R + 1)) I (R + 1)).length : Int) ≤ 1000 from by rw [gl_len _ _ (by omega)]; split <;> omega)
  clear hi hI hm hb hR
  go_enter Try.func4, Try.ntmps4
  go_wp2_with fail
  refine (HC.out _).mono ?_
  rintro e w1 ⟨A1, c1, rfl, ho, hb⟩
  have H1 := Lib.hid (And.intro ho hb)
  clear ho hb
  go_wp2_with fail
  refine (HD.out _).mono ?_
  rintro e w2 ⟨A2, c2, rfl, ho, hb⟩
  have H2 := Lib.hid (And.intro (H1.out.1.keep hb) (And.intro ho (next H1.out.2 hb)))
  clear ho hb
  go_wp2_with fail
  refine (sameInts_any _ (A := A1) (a := (gl (I / (R + 1) * (R + 1)) I (R + 1))) (b := (gl (I / (R + 1) * (R + 1)) I (R + 1))) H2.out.1.cells H2.out.2.1.cells _ _ _ _ (by rfl) (by rfl) HLM.out).mono ?_
  rintro e w3 ⟨rfl, hb⟩
  have H3 := Lib.hid (next H2.out.2.2 hb)
  rw [show decide ((gl (I / (R + 1) * (R + 1)) I (R + 1)) = (gl (I / (R + 1) * (R + 1)) I (R + 1))) = true from decide_eq_true rfl]
  clear hb
  go_wp2_with fail
  refine (works_any _).mono ?_
  rintro e w4 ⟨rfl, hb⟩
  have H4 := Lib.hid (next H3.out hb)
  clear hb
  go_wp2_with fail
  go_ret
  exact ⟨rfl, H4.out⟩
theorem group_law (w : World) (r i : Int) : Calls Try.prog 4 #[.int .i64 r, .int .i64 i] w fun e w' => e = .returned (.bool true) ∧ Below w.heap.size w w' := by
  by_cases h : (1099511627776 : Int) < i
  · exact group_big w r i h
  · by_cases h2 : r < 1 ∨ 255 < r ∨ i < 0
    · exact group_bad w r i h h2
    · obtain ⟨R, rfl⟩ : ∃ R : Nat, r = (R : Int) := ⟨r.toNat, by omega⟩
      obtain ⟨I, rfl⟩ : ∃ I : Nat, i = (I : Int) := ⟨i.toNat, by omega⟩
      exact group_good w R I h (by omega)
theorem group_claim (w : World) (r : Int) (_ : B64 r) (i : Int) (_ : B64 i) : Calls Try.prog 4 #[.int .i64 r, .int .i64 i] w fun e w' => e = .returned (.bool true) ∧ Below w.heap.size w w' := group_law w r i
end Go.Proofs.Ytaeoocpiggebmaa.PtW
