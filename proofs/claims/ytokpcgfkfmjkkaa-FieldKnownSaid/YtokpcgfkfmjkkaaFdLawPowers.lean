/- The law FieldPowers: its walk. -/
import Derived.Test.YtokpcgfkfmjkkaaFdWorks
namespace Go.Proofs.Ytokpcgfkfmjkkaa.FdW
open Go.RowKit Mem Gf
set_option linter.unusedVariables false

set_option maxRecDepth 100000 in
set_option maxHeartbeats 1600000 in
theorem powers_any (w : World) (a : UInt8) (n : Int) : Calls Try.prog 4 #[.int .u8 (a.toNat : Int), .int .i64 n] w fun e w' => e = .returned (.bool true) ∧ Below w.heap.size w w' := by
  have H0 := Lib.hid (St.start w)
  go_enter Try.func4, Try.ntmps4
  go_wp2_with fail
  refine (newS H0.out).mono ?_
  rintro e w1 ⟨rfl, h⟩
  have H1 := Lib.hid h
  clear h
  have M1 := Lib.hid (List.mem_cons_self (a := w.heap.size) (l := []))
  go_wp2_with fail
  refine (logS H1.out (some _) (one_in (by simp)) _ a rfl).mono ?_
  rintro e w2 ⟨rfl, h⟩
  have H2 := Lib.hid h
  clear h
  go_wp2_with fail
  refine (refLog_any _ a rfl _).mono ?_
  rintro e w' ⟨rfl, rfl⟩
  go_wp2_with fail
  refine (refPow_any _ a rfl n _).mono ?_
  rintro e w' ⟨rfl, rfl⟩
  go_wp2_with fail
  refine (powS H2.out (some _) (one_in (by simp)) _ a rfl n).mono ?_
  rintro e w3 ⟨rfl, h⟩
  have H3 := Lib.hid h
  clear h
  go_wp2_with fail
  refine (powS H3.out none none_in _ a rfl n).mono ?_
  rintro e w4 ⟨rfl, h⟩
  have H4 := Lib.hid h
  clear h
  go_wp2_with fail
  refine (expS H4.out (some _) (one_in (by simp)) n).mono ?_
  rintro e w5 ⟨rfl, h⟩
  have H5 := Lib.hid h
  clear h
  go_wp2_with fail
  refine (refPow_any _ 2 rfl n _).mono ?_
  rintro e w' ⟨rfl, rfl⟩
  go_wp2_with fail
  refine (orderS H5.out (some _) (one_in (by simp)) _ a rfl).mono ?_
  rintro e w6 ⟨rfl, h⟩
  have H6 := Lib.hid h
  clear h
  go_wp2_with fail
  refine (refOrder_any _ a rfl _).mono ?_
  rintro e w' ⟨rfl, rfl⟩
  go_wp2_with fail
  refine (works_any _).mono ?_
  rintro e w7 ⟨rfl, hb⟩
  have H7 := Lib.hid (H6.out.keep hb)
  clear hb
  go_wp2_with fail
  go_ret
  exact ⟨rfl, H7.out.2⟩
theorem powersL (w : World) (a : UInt8) (n : Int) (_ : -9223372036854775808 ≤ n ∧ n ≤ 9223372036854775807) : Calls Try.prog 4 #[.int .u8 (a.toNat : Int), .int .i64 n] w fun e w' => e = .returned (.bool true) ∧ Below w.heap.size w w' := powers_any w a n
end Go.Proofs.Ytokpcgfkfmjkkaa.FdW
