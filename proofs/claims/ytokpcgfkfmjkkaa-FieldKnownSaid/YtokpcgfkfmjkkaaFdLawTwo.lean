/- The law FieldTwo: its walk. -/
import Derived.Test.YtokpcgfkfmjkkaaFdWorks
namespace Go.Proofs.Ytokpcgfkfmjkkaa.FdW
open Go.RowKit Mem Gf
set_option linter.unusedVariables false

set_option maxRecDepth 100000 in
set_option maxHeartbeats 1600000 in
theorem two_any (w : World) (a b : UInt8) : Calls Try.prog 3 #[.int .u8 (a.toNat : Int), .int .u8 (b.toNat : Int)] w fun e w' => e = .returned (.bool true) ∧ Below w.heap.size w w' := by
  have hzf := zeroF
  generalize hf : fzero = z at *
  have HZ := Lib.hid hf
  clear hf
  have S0 := Lib.hid (St.fresh (St.start w))
  rw [HZ.out] at S0
  go_enter Try.func3, Try.ntmps3
  go_wp2_with fail
  generalize hw0 : w.alloc (.cells z 38) = wa at *
  have HW0 := Lib.hid hw0
  clear hw0
  go_wp2_with fail
  refine (newS S0.out).mono ?_
  rintro e w1 ⟨rfl, h⟩
  have H1 := Lib.hid h
  clear h
  have M1 := Lib.hid (List.mem_cons_self (a := wa.heap.size) (l := [w.heap.size]))
  go_wp2_with fail
  refine (divS H1.out (some _) (one_in (by simp)) _ _ a b rfl rfl).mono ?_
  rintro e w2 ⟨rfl, h⟩
  have H2 := Lib.hid h
  clear h
  go_wp2_with fail
  refine (refDiv_any _ _ a b rfl rfl _).mono ?_
  rintro e w' ⟨rfl, rfl⟩
  go_wp2_with fail
  refine (invS H2.out (some _) (one_in (by simp)) _ a rfl).mono ?_
  rintro e w3 ⟨rfl, h⟩
  have H3 := Lib.hid h
  clear h
  go_wp2_with fail
  refine (refInv_any _ a rfl _).mono ?_
  rintro e w' ⟨rfl, rfl⟩
  go_wp2_with fail
  refine (divS H3.out none none_in _ _ a b rfl rfl).mono ?_
  rintro e w4 ⟨rfl, h⟩
  have H4 := Lib.hid h
  clear h
  go_wp2_with fail
  refine (refMul_any _ _ a b rfl rfl _).mono ?_
  rintro e w' ⟨rfl, rfl⟩
  go_wp2_with fail
  refine (add_any _ _ a b rfl rfl _).mono ?_
  rintro e w' ⟨rfl, rfl⟩
  go_wp2_with fail
  refine (refAdd_any _ _ a b rfl rfl _).mono ?_
  rintro e w' ⟨rfl, rfl⟩
  go_wp2_with fail
  refine (mulS H4.out (some _) (one_in (by simp)) _ _ a b rfl rfl).mono ?_
  rintro e w5 ⟨rfl, h⟩
  have H5 := Lib.hid h
  clear h
  go_wp2_with fail
  refine (mulS H5.out none none_in _ _ a b rfl rfl).mono ?_
  rintro e w6 ⟨rfl, h⟩
  have H6 := Lib.hid h
  clear h
  go_wp2_with fail
  refine (mulS H6.out (some _) (one_in (by simp)) _ _ a b rfl rfl).mono ?_
  rintro e w7 ⟨rfl, h⟩
  have H7 := Lib.hid h
  clear h
  go_wp2_with fail
  refine (works_any _).mono ?_
  rintro e w8 ⟨rfl, hb⟩
  have H8 := Lib.hid (H7.out.keep hb)
  clear hb
  go_wp2_with fail
  go_ret
  exact ⟨rfl, H8.out.2⟩
end Go.Proofs.Ytokpcgfkfmjkkaa.FdW
