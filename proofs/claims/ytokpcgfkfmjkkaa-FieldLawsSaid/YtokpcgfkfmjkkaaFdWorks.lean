/- The examples of chapter 03 hold. -/
import Derived.Test.YtokpcgfkfmjkkaaFdSt
namespace Go.Proofs.Ytokpcgfkfmjkkaa.FdW
open Go.RowKit Mem Gf
set_option linter.unusedVariables false

set_option maxRecDepth 100000 in
set_option maxHeartbeats 1600000 in
theorem works_any (w : World) : Calls Try.prog 17 #[] w fun e w' => e = .returned (.bool true) ∧ Below w.heap.size w w' := by
  have H0 := Lib.hid (St.start w)
  go_enter Try.func17, Try.ntmps17
  go_wp2_with fail
  refine (newS H0.out).mono ?_
  rintro e w1 ⟨rfl, h⟩
  have H1 := Lib.hid h
  clear h
  have M1 := Lib.hid (List.mem_cons_self (a := w.heap.size) (l := []))
  go_wp2_with fail
  refine (invS H1.out (some _) (one_in (by simp)) _ 2 rfl).mono ?_
  rintro e w2 ⟨rfl, h⟩
  have H2 := Lib.hid h
  clear h
  rw [show (((inv 2).toNat : Nat) : Int) = 142 from by decide +kernel, show nz 2 = true from rfl]
  go_wp2_with fail
  refine (divS H2.out (some _) (one_in (by simp)) _ _ 1 0 rfl rfl).mono ?_
  rintro e w3 ⟨rfl, h⟩
  have H3 := Lib.hid h
  clear h
  rw [show (((div 1 0).toNat : Nat) : Int) = 0 from by decide +kernel, show nz 0 = false from rfl]
  go_wp2_with fail
  refine (logS H3.out (some _) (one_in (by simp)) _ 29 rfl).mono ?_
  rintro e w4 ⟨rfl, h⟩
  have H4 := Lib.hid h
  clear h
  rw [show ((lg 29 : Nat) : Int) = 8 from by decide +kernel, show nz 29 = true from rfl]
  go_wp2_with fail
  refine (add_any _ _ 5 3 rfl rfl _).mono ?_
  rintro e w' ⟨rfl, rfl⟩
  rw [show ((((5 ^^^ 3 : UInt8)).toNat : Nat) : Int) = 6 from by decide +kernel]
  go_wp2_with fail
  refine (mulS H4.out (some _) (one_in (by simp)) _ _ 2 128 rfl rfl).mono ?_
  rintro e w5 ⟨rfl, h⟩
  have H5 := Lib.hid h
  clear h
  rw [show (((mul 2 128).toNat : Nat) : Int) = 29 from by decide +kernel]
  go_wp2_with fail
  refine (mulS H5.out (some _) (one_in (by simp)) _ _ 3 7 rfl rfl).mono ?_
  rintro e w6 ⟨rfl, h⟩
  have H6 := Lib.hid h
  clear h
  rw [show (((mul 3 7).toNat : Nat) : Int) = 9 from by decide +kernel]
  go_wp2_with fail
  refine (mulS H6.out (some _) (one_in (by simp)) _ _ 255 255 rfl rfl).mono ?_
  rintro e w7 ⟨rfl, h⟩
  have H7 := Lib.hid h
  clear h
  rw [show (((mul 255 255).toNat : Nat) : Int) = 226 from by decide +kernel]
  go_wp2_with fail
  refine (powS H7.out (some _) (one_in (by simp)) _ 2 rfl 8).mono ?_
  rintro e w8 ⟨rfl, h⟩
  have H8 := Lib.hid h
  clear h
  rw [show (((pow 2 8).toNat : Nat) : Int) = 29 from by decide +kernel]
  go_wp2_with fail
  refine (powS H8.out (some _) (one_in (by simp)) _ 2 rfl (-1)).mono ?_
  rintro e w9 ⟨rfl, h⟩
  have H9 := Lib.hid h
  clear h
  rw [show (((pow 2 (-1)).toNat : Nat) : Int) = 142 from by decide +kernel]
  go_wp2_with fail
  refine (powS H9.out (some _) (one_in (by simp)) _ 0 rfl 0).mono ?_
  rintro e w10 ⟨rfl, h⟩
  have H10 := Lib.hid h
  clear h
  rw [show (((pow 0 0).toNat : Nat) : Int) = 1 from by decide +kernel]
  go_wp2_with fail
  refine (expS H10.out (some _) (one_in (by simp)) 255).mono ?_
  rintro e w11 ⟨rfl, h⟩
  have H11 := Lib.hid h
  clear h
  rw [show (((pow 2 255).toNat : Nat) : Int) = 1 from by decide +kernel]
  go_wp2_with fail
  refine (orderS H11.out (some _) (one_in (by simp)) _ 2 rfl).mono ?_
  rintro e w12 ⟨rfl, h⟩
  have H12 := Lib.hid h
  clear h
  rw [show ((ord 2 : Nat) : Int) = 255 from by decide +kernel]
  go_wp2_with fail
  refine (orderS H12.out (some _) (one_in (by simp)) _ 1 rfl).mono ?_
  rintro e w13 ⟨rfl, h⟩
  have H13 := Lib.hid h
  clear h
  rw [show ((ord 1 : Nat) : Int) = 1 from by decide +kernel]
  go_wp2_with fail
  refine (orderS H13.out (some _) (one_in (by simp)) _ 0 rfl).mono ?_
  rintro e w14 ⟨rfl, h⟩
  have H14 := Lib.hid h
  clear h
  rw [show ((ord 0 : Nat) : Int) = 0 from by decide +kernel]
  go_wp2_with fail
  go_ret
  exact ⟨rfl, H14.out.2⟩
end Go.Proofs.Ytokpcgfkfmjkkaa.FdW
