/- The examples of chapter 06 hold. -/
import Derived.Test.YtaeoocpiggebmaaPtSt
namespace Go.Proofs.Ytaeoocpiggebmaa.PtW
open Go.RowKit Go.Shelf Mem Gf FdW Rng
set_option linter.unusedVariables false

def nine : Array Value := #[.int .u8 1, .int .u8 2, .int .u8 4, .int .u8 8, .int .u8 16, .int .u8 32, .int .u8 64, .int .u8 128, .int .u8 29]
theorem build9 (W : World) : (Instr.buildSlice 24 9 #[(0, .int .u8 1), (1, .int .u8 2), (2, .int .u8 4), (3, .int .u8 8), (4, .int .u8 16), (5, .int .u8 32), (6, .int .u8 64), (7, .int .u8 128), (8, .int .u8 29)]).run Try.prog W = .ok (.slice (some ⟨W.heap.size, 0, none⟩) 9 9) (W.alloc (.cells nine 5)) := by kernel_rfl
theorem build2i (W : World) (u v : Int) : (Instr.buildSlice 35 2 #[(0, .int .i64 u), (1, .int .i64 v)]).run Try.prog W = .ok (.slice (some ⟨W.heap.size, 0, none⟩) 2 2) (W.alloc (.cells #[.int .i64 u, .int .i64 v] 3)) := by kernel_rfl
theorem cells2 (w : World) (x y : Int) : Cells (w.alloc (.cells #[.int .i64 x, .int .i64 y] 3)) (w.alloc (.cells #[.int .i64 x, .int .i64 y] 3)).heap.size (some ⟨w.heap.size, 0, none⟩) ([x, y].map i64v) := fun _ =>
  ⟨w.heap.size, 0, rfl, by simp, fun j v hv => by rw [new_cell, ← hv, Nat.zero_add, ← Array.getElem?_toList]; rfl⟩
theorem gl24 (w : World) : Calls Try.prog 19 #[.int .i64 2, .int .i64 4] w (GOk w [3, 5]) := group_ok w 2 4 3 1 (by decide) (by decide) rfl rfl
theorem gl20 (w : World) : Calls Try.prog 19 #[.int .i64 2, .int .i64 0] w (GOk w [1, 2]) := group_ok w 2 0 0 0 (by decide) (by decide) rfl rfl
set_option maxRecDepth 100000 in
set_option maxHeartbeats 8000000 in
theorem works_any (w : World) : Calls Try.prog 17 #[] w fun e w' => e = .returned (.bool true) ∧ Below w.heap.size w w' := by
  go_enter Try.func17, Try.ntmps17
  go_wp2_with fail
  refine (newT _).mono ?_
  rintro e w1 ⟨rfl, h⟩
  have H1 := Lib.hid h
  clear h
  go_wp2_with fail
  refine (ofT H1.out 2 9).mono ?_
  rintro e w2 ⟨A2, c2, rfl, h⟩
  rw [show ofE 9 = 0 from by decide]
  have H2 := Lib.hid h
  clear h
  go_wp2_with fail
  refine (ofT H2.out 3 256).mono ?_
  rintro e w3 ⟨A3, c3, rfl, h⟩
  rw [show ofE 256 = 2 from by decide]
  have H3 := Lib.hid h
  clear h
  go_wp2_with fail
  refine (sprT H3.out 4 85 3).mono ?_
  rintro e w4 ⟨A4, c4, rfl, h⟩
  rw [show sprE 85 3 = 0 from by decide +kernel, show (sprL 85 3).length = 85 from by decide +kernel]
  have H4 := Lib.hid h
  clear h
  go_wp2_with fail
  refine (sprT H4.out 5 86 3).mono ?_
  rintro e w5 ⟨A5, c5, rfl, h⟩
  rw [show sprE 86 3 = 2 from by decide +kernel]
  have H5 := Lib.hid h
  clear h
  go_wp2_with fail
  refine (cosT H5.out 6 3 1).mono ?_
  rintro e w6 ⟨A6, c6, rfl, h⟩
  rw [show cosE 3 1 = 2 from by decide +kernel]
  have H6 := Lib.hid h
  clear h
  have hbd := build9 w6
  have hgl := gl24
  have hg2 := gl20
  have HN := Lib.hid (Bytes.new w6 [1, 2, 4, 8, 16, 32, 64, 128, 29] 5 (0, 0) nine rfl (w6.heap.size + 1) (by omega))
  have HK := Lib.hid (nextA (Mem.start w6) (.cells nine 5))
  have HG1 := Lib.hid hgl
  have HG2 := Lib.hid hg2
  clear hgl hg2
  go_wp2_with fail
  refine (same_any _ ((H6.out.keep HK.out).bytes (r := ⟨2, A2, ofL 9, c2⟩) (by simp)) HN.out _ _ _ _ (by rfl) (by rfl)).mono ?_
  rintro e w' ⟨rfl, rfl⟩
  rw [show sameB (ofL 9) [1, 2, 4, 8, 16, 32, 64, 128, 29] = true from by decide +kernel]
  have HL := Lib.hid (H6.out.keep HK.out)
  generalize w6.alloc (.cells nine 5) = w7 at *
  clear hbd HN HK
  go_wp2_with fail
  refine (HG1.out _).mono ?_
  rintro e w8 ⟨A8, c8, rfl, ho, hb⟩
  have H8 := Lib.hid (And.intro ho (HL.out.keep hb))
  clear ho hb
  have hbd := build2i w8 3 5
  have HI := Lib.hid (cells2 w8 3 5)
  have HK := Lib.hid (nextA (Mem.start w8) (.cells #[.int .i64 3, .int .i64 5] 3))
  go_wp2_with fail
  refine (sameInts_any _ (A := A8) (a := [3, 5]) (b := [3, 5]) ((H8.out.1.keep HK.out).cells) HI.out _ _ _ _ (by rfl) (by rfl) (by decide)).mono ?_
  rintro e w9 ⟨rfl, hb⟩
  have H9 := Lib.hid ((H8.out.2.keep HK.out).keep hb)
  rw [show decide (([3, 5] : List Int) = [3, 5]) = true from by decide]
  clear hb hbd HI HK
  go_wp2_with fail
  refine (HG2.out _).mono ?_
  rintro e w10 ⟨A10, c10, rfl, ho, hb⟩
  have H10 := Lib.hid (And.intro ho (H9.out.keep hb))
  clear ho hb
  have hbd := build2i w10 1 2
  have HI := Lib.hid (cells2 w10 1 2)
  have HK := Lib.hid (nextA (Mem.start w10) (.cells #[.int .i64 1, .int .i64 2] 3))
  go_wp2_with fail
  refine (sameInts_any _ (A := A10) (a := [1, 2]) (b := [1, 2]) ((H10.out.1.keep HK.out).cells) HI.out _ _ _ _ (by rfl) (by rfl) (by decide)).mono ?_
  rintro e w11 ⟨rfl, hb⟩
  have H11 := Lib.hid ((H10.out.2.keep HK.out).keep hb)
  rw [show decide (([1, 2] : List Int) = [1, 2]) = true from by decide]
  clear hb hbd HI HK
  go_wp2_with fail
  go_ret
  exact ⟨rfl, H11.out.below⟩
end Go.Proofs.Ytaeoocpiggebmaa.PtW
