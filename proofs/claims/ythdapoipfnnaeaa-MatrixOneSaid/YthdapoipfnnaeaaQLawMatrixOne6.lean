/- Texts of a claim, one behind another. -/
import Derived.Test.YthdapoipfnnaeaaSq
import Derived.Test.YthdapoipfnnaeaaQLawMatrixOne5
import Derived.Test.YthdapoipfnnaeaaOpenMx
import Derived.Test.YthdapoipfnnaeaaOpen
/- The law MatrixOne: its walk. -/
namespace Go.Proofs.Ythdapoipfnnaeaa.MxW
open Go.RowKit Go.Shelf Mem Gf FdW Mx Rng
open PlW (In)
set_option linter.unusedVariables false
set_option linter.unusedSectionVars false
attribute [local go_sem] Oper.semAt_some wide_fn
set_option maxRecDepth 100000 in
set_option maxHeartbeats 4000000 in
theorem one_bad (w : World)  (Rm Cm : Int) (M : Option Addr) (lm : List UInt8) (nm cm : Nat) (hlm : lm.length = nm) (hM : Bytes w w.heap.size M lm) (hcm : lm.length ≤ cm) (hs : smallB 12 Rm Cm nm = true) (hr : rightB Rm Cm nm = false) :
    Calls Try.prog 8 #[.agg #[.int .i64 Rm, .int .i64 Cm, .slice M nm cm]] w fun e w' => e = .returned (.bool true) ∧ Below w.heap.size w w' := by
  have H0 := Lib.hid (((MS.start w).nilR).arg hM hcm)
  have HLNm := Lib.hid hlm
  have HSm := Lib.hid hs
  have HR := Lib.hid hr
  have HRQ := Lib.hid (show (rightB Rm Cm nm && Rm == Cm) = false from by rw [hr]; rfl)
  clear hM hcm hlm hs hr
  go_enter Try.func8, Try.ntmps8
  have L1 := Lib.hid (show MS _ _ _ ((w.heap.size, #[.int .i64 Rm, .int .i64 Cm, .slice M nm cm]) :: _) (w.alloc (.cells #[.int .i64 Rm, .int .i64 Cm, .slice M nm cm] 27)) from by have h := H0.out.put #[.int .i64 Rm, .int .i64 Cm, .slice M nm cm]; (try simp only [World.size_alloc] at h); exact h)
  obtain ⟨a2, b2, d2⟩ := L1.out.cells (.head _)
  go_wp2_with fail
  clear a2 b2 d2
  have H1 := L1
  clear L1
  generalize (w.alloc (.cells #[.int .i64 Rm, .int .i64 Cm, .slice M nm cm] 27)) = w1 at *
  refine (smallR H1.out 12 (by decide) (v := true) HSm.out).mono ?_
  rintro e w2 ⟨rfl, h⟩
  have H2 := Lib.hid h
  clear h
  go_wp2_with fail
  refine (newR H2.out).mono ?_
  rintro e w3 ⟨rfl, h⟩
  have H3 := Lib.hid h
  clear h
  obtain ⟨a3, b3, d3⟩ := H3.out.cells (.head _)
  go_wp2_with fail
  clear a3 b3 d3
  refine (copiedR H3.out (.head _) HLNm.out).mono ?_
  rintro e w4 ⟨A4, c4, rfl, h⟩
  have H4 := Lib.hid h
  clear h
  have L4 := Lib.hid (show MS _ _ _ ((w4.heap.size, #[.int .i64 Rm, .int .i64 Cm, .slice A4 nm c4]) :: _) (w4.alloc (.cells #[.int .i64 Rm, .int .i64 Cm, .slice A4 nm c4] 27)) from by have h := H4.out.put #[.int .i64 Rm, .int .i64 Cm, .slice A4 nm c4]; (try simp only [World.size_alloc] at h); exact h)
  obtain ⟨a5, b5, d5⟩ := L4.out.cells (.head _)
  go_wp2_with fail
  clear a5 b5 d5
  have H5 := L4
  clear L4
  generalize (w4.alloc (.cells #[.int .i64 Rm, .int .i64 Cm, .slice A4 nm c4] 27)) = w5 at *
  refine (turn0R H5.out HR.out).mono ?_
  rintro e w6 ⟨rfl, h⟩
  have H6 := Lib.hid h
  clear h
  have L6 := Lib.hid (show MS _ _ _ ((w6.heap.size, #[.int .i64 0, .int .i64 0, .slice none 0 0]) :: _) (w6.alloc (.cells #[.int .i64 0, .int .i64 0, .slice none 0 0] 27)) from by have h := H6.out.put #[.int .i64 0, .int .i64 0, .slice none 0 0]; (try simp only [World.size_alloc] at h); exact h)
  obtain ⟨a7, b7, d7⟩ := L6.out.cells (.tail _ (.tail _ (.head _)))
  go_wp2_with fail
  clear a7 b7 d7
  have H7 := L6
  clear L6
  generalize (w6.alloc (.cells #[.int .i64 0, .int .i64 0, .slice none 0 0] 27)) = w7 at *
  refine (plainR H7.out ).mono ?_
  rintro e w8 ⟨rfl, h⟩
  have H8 := Lib.hid h
  clear h
  go_wp2_with fail
  refine (rturn0R H8.out HR.out).mono ?_
  rintro e w9 ⟨rfl, h⟩
  have H9 := Lib.hid h
  clear h
  have L8 := Lib.hid (show MS _ _ _ ((w9.heap.size, #[.int .i64 0, .int .i64 0, .slice none 0 0]) :: _) (w9.alloc (.cells #[.int .i64 0, .int .i64 0, .slice none 0 0] 38)) from by have h := H9.out.putT #[.int .i64 0, .int .i64 0, .slice none 0 0] 38; (try simp only [World.size_alloc] at h); exact h)
  obtain ⟨a9, b9, d9⟩ := L8.out.cells (.tail _ (.tail _ (.head _)))
  go_wp2_with fail
  clear a9 b9 d9
  have H10 := L8
  clear L8
  generalize (w9.alloc (.cells #[.int .i64 0, .int .i64 0, .slice none 0 0] 38)) = w10 at *
  refine (rank0R H10.out _ HR.out).mono ?_
  rintro e w11 ⟨rfl, h⟩
  have H11 := Lib.hid h
  clear h
  obtain ⟨a10, b10, d10⟩ := H11.out.cells (.tail _ (.tail _ (.tail _ (.head _))))
  go_wp2_with fail
  clear a10 b10 d10
  refine (plainR H11.out ).mono ?_
  rintro e w12 ⟨rfl, h⟩
  have H12 := Lib.hid h
  clear h
  go_wp2_with fail
  refine (rrank0R H12.out HR.out).mono ?_
  rintro e w13 ⟨rfl, h⟩
  have H13 := Lib.hid h
  clear h
  go_wp2_with fail
  refine wp_region_noPanic ?_
  refine wp_heldG (fun w' => (w'.cell? ⟨w6.heap.size, 0, none⟩ = some (.int .i64 0) ∧ w'.cell? ⟨w6.heap.size, 1, none⟩ = some (.int .i64 0) ∧ w'.cell? ⟨w6.heap.size, 2, none⟩ = some (.slice none 0 0)) ∧ (w'.cell? ⟨w9.heap.size, 0, none⟩ = some (.int .i64 0) ∧ w'.cell? ⟨w9.heap.size, 1, none⟩ = some (.int .i64 0) ∧ w'.cell? ⟨w9.heap.size, 2, none⟩ = some (.slice none 0 0)) ∧ (w'.cell? ⟨w4.heap.size, 0, none⟩ = some (.int .i64 Rm) ∧ w'.cell? ⟨w4.heap.size, 1, none⟩ = some (.int .i64 Cm) ∧ w'.cell? ⟨w4.heap.size, 2, none⟩ = some (.slice A4 nm c4)) ∧ (w'.cell? ⟨w.heap.size, 0, none⟩ = some (.int .i64 Rm) ∧ w'.cell? ⟨w.heap.size, 1, none⟩ = some (.int .i64 Cm) ∧ w'.cell? ⟨w.heap.size, 2, none⟩ = some (.slice M nm cm))) [] (by kernel_rfl) ?hs0 ?rg0
  case hs0 =>
    have h := H13.out.keep (nextN (Mem.start w13) 1)
    exact ⟨h.cells (.tail _ (.head _)), h.cells (.head _), h.cells (.tail _ (.tail _ (.head _))), h.cells (.tail _ (.tail _ (.tail _ (.head _))))⟩
  case rg0 =>
  intro hHeld
  have HD13 := Lib.hid (show MS _ _ _ _ w13.drew from H13.out.keep (nextN (Mem.start w13) 1))
  generalize w13.drew = wd13 at *
  refine puG 0 ⟨some 51, .move (.tmp 6), 29, _, #[], none⟩ (v := ?_) ?_ (fun _ => by assumption) ?_
  rotate_left
  · intro w hSw
    try dsimp only at hSw
    go_simp
    try with_reducible rfl
  try simp only [Act.put, List.setIfInBounds_toArray, List.set_cons_zero, List.set_cons_succ]
  refine puG 1 ⟨some 52, .move (.tmp 8), 29, _, #[], none⟩ (v := ?_) ?_ (fun _ => by assumption) ?_
  rotate_left
  · intro w hSw
    try dsimp only at hSw
    go_simp
    try with_reducible rfl
  try simp only [Act.put, List.setIfInBounds_toArray, List.set_cons_zero, List.set_cons_succ]
  refine puG 2 ⟨some 53, .binOp BinOp.neq 29 (.tmp 51) (.tmp 52) 29, 4, _, #[⟨0, .data⟩, ⟨1, .data⟩], none⟩ (v := ?_) ?_ (fun _ => by assumption) ?_
  rotate_left
  · intro w hSw
    try dsimp only at hSw
    go_simp
    try with_reducible rfl
  try simp only [Act.put, List.setIfInBounds_toArray, List.set_cons_zero, List.set_cons_succ]
  refine puG 3 ⟨some 54, .move (.tmp 53), 4, _, #[⟨2, .data⟩], none⟩ (v := ?_) ?_ (fun _ => by assumption) ?_
  rotate_left
  · intro w hSw
    try dsimp only at hSw
    go_simp
    try with_reducible rfl
  try simp only [Act.put, List.setIfInBounds_toArray, List.set_cons_zero, List.set_cons_succ]
  refine tkG 4 ⟨some 55, .load 27 (.tmp 5), 27, _, #[⟨3, .guard⟩], some (3, false)⟩ (v := ?_) ?_ (by assumption) ?_
  rotate_left
  · intro w hSw
    try dsimp only at hSw
    obtain ⟨⟨ka0, ka1, ka2⟩, ⟨kb0, kb1, kb2⟩, ⟨kown0, kown1, kown2⟩, ⟨km0, km1, km2⟩⟩ := hSw
    go_simp
    try with_reducible rfl
  try simp only [Act.put, List.setIfInBounds_toArray, List.set_cons_zero, List.set_cons_succ]
  refine tkG 5 ⟨some 56, .load 38 (.tmp 7), 38, _, #[⟨3, .guard⟩], some (3, false)⟩ (v := ?_) ?_ (by assumption) ?_
  rotate_left
  · intro w hSw
    try dsimp only at hSw
    obtain ⟨⟨ka0, ka1, ka2⟩, ⟨kb0, kb1, kb2⟩, ⟨kown0, kown1, kown2⟩, ⟨km0, km1, km2⟩⟩ := hSw
    go_simp
    try with_reducible rfl
  try simp only [Act.put, List.setIfInBounds_toArray, List.set_cons_zero, List.set_cons_succ]
  refine onG 6 ⟨some 57, .call { callee := Callee.value (Operand.func 23), args := #[.tmp 55, .tmp 56], argTypes := #[27, 38] }, 4, _, #[⟨4, .data⟩, ⟨5, .data⟩, ⟨3, .chain⟩, ⟨3, .guard⟩], some (3, false)⟩ (fun K hK => ?_)
  go_simp
  refine (lsameR HD13.out (.tail _ (.tail _ (.head _))) rfl (.tail _ (.tail _ (.head _))) rfl (v := true) (sameB_self _ _ _)).mono ?_
  rintro e w14 ⟨rfl, h⟩
  have H14 := Lib.hid h
  clear h
  try dsimp only
  refine hK.out _ _ ?_ (fun hHeld => ?_)
  · intro _
    try dsimp only
    have h := H14.out
    exact ⟨h.cells (.tail _ (.head _)), h.cells (.head _), h.cells (.tail _ (.tail _ (.head _))), h.cells (.tail _ (.tail _ (.tail _ (.head _))))⟩
  clear hK K
  try simp only [Act.put, List.setIfInBounds_toArray, List.set_cons_zero, List.set_cons_succ]
  have hHeld := hHeld (by kernel_rfl)
  refine puG 7 ⟨some 58, .unOp UnOp.not 4 (.tmp 57), 4, _, #[⟨6, .data⟩, ⟨3, .guard⟩], some (3, false)⟩ (v := ?_) ?_ (fun _ => by assumption) ?_
  rotate_left
  · intro w hSw
    try dsimp only at hSw
    go_simp
    try with_reducible rfl
  try simp only [Act.put, List.setIfInBounds_toArray, List.set_cons_zero, List.set_cons_succ]
  refine puG 8 ⟨some 59, .pick (.tmp 54) (Operand.const (Value.bool true)) (.tmp 58), 4, _, #[⟨3, .data⟩, ⟨7, .data⟩], none⟩ (v := ?_) ?_ (fun _ => by assumption) ?_
  rotate_left
  · intro w hSw
    try dsimp only at hSw
    go_simp
    try with_reducible rfl
  try simp only [Act.put, List.setIfInBounds_toArray, List.set_cons_zero, List.set_cons_succ]
  refine puG 9 ⟨some 60, .move (.tmp 59), 4, _, #[⟨8, .data⟩, ⟨6, .chain⟩], none⟩ (v := ?_) ?_ (fun _ => by assumption) ?_
  rotate_left
  · intro w hSw
    try dsimp only at hSw
    go_simp
    try with_reducible rfl
  try simp only [Act.put, List.setIfInBounds_toArray, List.set_cons_zero, List.set_cons_succ]
  refine puG 10 ⟨some 61, .move (.tmp 9), 3, _, #[⟨9, .guard⟩], some (9, false)⟩ (v := ?_) ?_ (fun _ => by assumption) ?_
  rotate_left
  · intro w hSw
    try dsimp only at hSw
    go_simp
    try with_reducible rfl
  try simp only [Act.put, List.setIfInBounds_toArray, List.set_cons_zero, List.set_cons_succ]
  refine puG 11 ⟨some 62, .move (.tmp 11), 3, _, #[⟨9, .guard⟩], some (9, false)⟩ (v := ?_) ?_ (fun _ => by assumption) ?_
  rotate_left
  · intro w hSw
    try dsimp only at hSw
    go_simp
    try with_reducible rfl
  try simp only [Act.put, List.setIfInBounds_toArray, List.set_cons_zero, List.set_cons_succ]
  refine puG 12 ⟨some 63, .binOp BinOp.neq 3 (.tmp 61) (.tmp 62) 3, 4, _, #[⟨10, .data⟩, ⟨11, .data⟩, ⟨9, .guard⟩], some (9, false)⟩ (v := ?_) ?_ (fun _ => by assumption) ?_
  rotate_left
  · intro w hSw
    try dsimp only at hSw
    go_simp
    try with_reducible rfl
  try simp only [Act.put, List.setIfInBounds_toArray, List.set_cons_zero, List.set_cons_succ]
  refine puG 13 ⟨some 64, .pick (.tmp 60) (Operand.const (Value.bool true)) (.tmp 63), 4, _, #[⟨9, .data⟩, ⟨12, .data⟩], none⟩ (v := ?_) ?_ (fun _ => by assumption) ?_
  rotate_left
  · intro w hSw
    try dsimp only at hSw
    go_simp
    try with_reducible rfl
  try simp only [Act.put, List.setIfInBounds_toArray, List.set_cons_zero, List.set_cons_succ]
  refine puG 14 ⟨some 65, .move (.tmp 64), 4, _, #[⟨13, .data⟩, ⟨9, .chain⟩], none⟩ (v := ?_) ?_ (fun _ => by assumption) ?_
  rotate_left
  · intro w hSw
    try dsimp only at hSw
    go_simp
    try with_reducible rfl
  try simp only [Act.put, List.setIfInBounds_toArray, List.set_cons_zero, List.set_cons_succ]
  refine puG 15 ⟨some 66, .move (.tmp 10), 29, _, #[⟨14, .guard⟩], some (14, false)⟩ (v := ?_) ?_ (fun _ => by assumption) ?_
  rotate_left
  · intro w hSw
    try dsimp only at hSw
    go_simp
    try with_reducible rfl
  try simp only [Act.put, List.setIfInBounds_toArray, List.set_cons_zero, List.set_cons_succ]
  refine puG 16 ⟨some 67, .move (.tmp 12), 29, _, #[⟨14, .guard⟩], some (14, false)⟩ (v := ?_) ?_ (fun _ => by assumption) ?_
  rotate_left
  · intro w hSw
    try dsimp only at hSw
    go_simp
    try with_reducible rfl
  try simp only [Act.put, List.setIfInBounds_toArray, List.set_cons_zero, List.set_cons_succ]
  refine puG 17 ⟨some 68, .binOp BinOp.neq 29 (.tmp 66) (.tmp 67) 29, 4, _, #[⟨15, .data⟩, ⟨16, .data⟩, ⟨14, .guard⟩], some (14, false)⟩ (v := ?_) ?_ (fun _ => by assumption) ?_
  rotate_left
  · intro w hSw
    try dsimp only at hSw
    go_simp
    try with_reducible rfl
  try simp only [Act.put, List.setIfInBounds_toArray, List.set_cons_zero, List.set_cons_succ]
  refine puG 18 ⟨some 69, .pick (.tmp 65) (Operand.const (Value.bool true)) (.tmp 68), 4, _, #[⟨14, .data⟩, ⟨17, .data⟩], none⟩ (v := ?_) ?_ (fun _ => by assumption) ?_
  rotate_left
  · intro w hSw
    try dsimp only at hSw
    go_simp
    try with_reducible rfl
  try simp only [Act.put, List.setIfInBounds_toArray, List.set_cons_zero, List.set_cons_succ]
  refine puG 19 ⟨some 70, .move (.tmp 69), 4, _, #[⟨18, .data⟩, ⟨14, .chain⟩], none⟩ (v := ?_) ?_ (fun _ => by assumption) ?_
  rotate_left
  · intro w hSw
    try dsimp only at hSw
    go_simp
    try with_reducible rfl
  try simp only [Act.put, List.setIfInBounds_toArray, List.set_cons_zero, List.set_cons_succ]
  refine tkG 20 ⟨some 71, .load 27 (.tmp 4), 27, _, #[⟨19, .guard⟩], some (19, false)⟩ (v := ?_) ?_ (by assumption) ?_
  rotate_left
  · intro w hSw
    try dsimp only at hSw
    obtain ⟨⟨ka0, ka1, ka2⟩, ⟨kb0, kb1, kb2⟩, ⟨kown0, kown1, kown2⟩, ⟨km0, km1, km2⟩⟩ := hSw
    go_simp
    try with_reducible rfl
  try simp only [Act.put, List.setIfInBounds_toArray, List.set_cons_zero, List.set_cons_succ]
  refine tkG 22 ⟨some 73, .load 27 (.tmp 1), 27, _, #[⟨19, .guard⟩], some (19, false)⟩ (v := ?_) ?_ (by assumption) ?_
  rotate_left
  · intro w hSw
    try dsimp only at hSw
    obtain ⟨⟨ka0, ka1, ka2⟩, ⟨kb0, kb1, kb2⟩, ⟨kown0, kown1, kown2⟩, ⟨km0, km1, km2⟩⟩ := hSw
    go_simp
    try with_reducible rfl
  try simp only [Act.put, List.setIfInBounds_toArray, List.set_cons_zero, List.set_cons_succ]
  refine onG 21 ⟨some 72, .call { callee := Callee.value (Operand.func 26), args := #[.tmp 71], argTypes := #[27] }, 4, _, #[⟨20, .data⟩, ⟨19, .chain⟩, ⟨19, .guard⟩], some (19, false)⟩ (fun K hK => ?_)
  go_simp
  refine (rightR H14.out HR.out).mono ?_
  rintro e w15 ⟨rfl, h⟩
  have H15 := Lib.hid h
  clear h
  try dsimp only
  refine hK.out _ _ ?_ (fun hHeld => ?_)
  · intro _
    try dsimp only
    have h := H15.out
    exact ⟨h.cells (.tail _ (.head _)), h.cells (.head _), h.cells (.tail _ (.tail _ (.head _))), h.cells (.tail _ (.tail _ (.tail _ (.head _))))⟩
  clear hK K
  try simp only [Act.put, List.setIfInBounds_toArray, List.set_cons_zero, List.set_cons_succ]
  have hHeld := hHeld (by kernel_rfl)
  refine onG 23 ⟨some 74, .call { callee := Callee.value (Operand.func 20), args := #[.tmp 73], argTypes := #[27] }, 38, _, #[⟨22, .data⟩, ⟨21, .chain⟩, ⟨19, .guard⟩], some (19, false)⟩ (fun K hK => ?_)
  go_simp
  refine (plainR H15.out ).mono ?_
  rintro e w16 ⟨rfl, h⟩
  have H16 := Lib.hid h
  clear h
  try dsimp only
  refine hK.out _ _ ?_ (fun hHeld => ?_)
  · intro _
    try dsimp only
    have h := H16.out
    exact ⟨h.cells (.tail _ (.head _)), h.cells (.head _), h.cells (.tail _ (.tail _ (.head _))), h.cells (.tail _ (.tail _ (.tail _ (.head _))))⟩
  clear hK K
  try simp only [Act.put, List.setIfInBounds_toArray, List.set_cons_zero, List.set_cons_succ]
  have hHeld := hHeld (by kernel_rfl)
  refine onG 24 ⟨some 75, .call { callee := Callee.value (Operand.func 37), args := #[.tmp 74], argTypes := #[38] }, 4, _, #[⟨23, .data⟩, ⟨23, .chain⟩, ⟨19, .guard⟩], some (19, false)⟩ (fun K hK => ?_)
  go_simp
  refine (rrightR H16.out HR.out).mono ?_
  rintro e w17 ⟨rfl, h⟩
  have H17 := Lib.hid h
  clear h
  try dsimp only
  refine hK.out _ _ ?_ (fun hHeld => ?_)
  · intro _
    try dsimp only
    have h := H17.out
    exact ⟨h.cells (.tail _ (.head _)), h.cells (.head _), h.cells (.tail _ (.tail _ (.head _))), h.cells (.tail _ (.tail _ (.tail _ (.head _))))⟩
  clear hK K
  try simp only [Act.put, List.setIfInBounds_toArray, List.set_cons_zero, List.set_cons_succ]
  have hHeld := hHeld (by kernel_rfl)
  refine puG 25 ⟨some 76, .binOp BinOp.neq 4 (.tmp 72) (.tmp 75) 4, 4, _, #[⟨21, .data⟩, ⟨24, .data⟩, ⟨19, .guard⟩], some (19, false)⟩ (v := ?_) ?_ (fun _ => by assumption) ?_
  rotate_left
  · intro w hSw
    try dsimp only at hSw
    go_simp
    try with_reducible rfl
  try simp only [Act.put, List.setIfInBounds_toArray, List.set_cons_zero, List.set_cons_succ]
  refine puG 26 ⟨some 77, .pick (.tmp 70) (Operand.const (Value.bool true)) (.tmp 76), 4, _, #[⟨19, .data⟩, ⟨25, .data⟩], none⟩ (v := ?_) ?_ (fun _ => by assumption) ?_
  rotate_left
  · intro w hSw
    try dsimp only at hSw
    go_simp
    try with_reducible rfl
  try simp only [Act.put, List.setIfInBounds_toArray, List.set_cons_zero, List.set_cons_succ]
  refine wpAnyG_done (by kernel_rfl) ?_ _
  refine NoPanic.normal ?_
  obtain ⟨a11, b11, d11⟩ := H17.out.cells (.tail _ (.tail _ (.head _)))
  go_wp2_with fail
  clear a11 b11 d11
  refine (inv0R H17.out _ HRQ.out).mono ?_
  rintro e w18 ⟨rfl, h⟩
  have H18 := Lib.hid h
  clear h
  have L12 := Lib.hid (show MS _ _ _ ((w18.heap.size, #[.int .i64 0, .int .i64 0, .slice none 0 0]) :: _) (w18.alloc (.cells #[.int .i64 0, .int .i64 0, .slice none 0 0] 27)) from by have h := H18.out.put #[.int .i64 0, .int .i64 0, .slice none 0 0]; (try simp only [World.size_alloc] at h); exact h)
  obtain ⟨a13, b13, d13⟩ := L12.out.cells (.tail _ (.tail _ (.tail _ (.tail _ (.head _)))))
  go_wp2_with fail
  clear a13 b13 d13
  have H19 := L12
  clear L12
  generalize (w18.alloc (.cells #[.int .i64 0, .int .i64 0, .slice none 0 0] 27)) = w19 at *
  refine (plainR H19.out ).mono ?_
  rintro e w20 ⟨rfl, h⟩
  have H20 := Lib.hid h
  clear h
  go_wp2_with fail
  refine (rinv0R H20.out HRQ.out).mono ?_
  rintro e w21 ⟨rfl, h⟩
  have H21 := Lib.hid h
  clear h
  have L14 := Lib.hid (show MS _ _ _ ((w21.heap.size, #[.int .i64 0, .int .i64 0, .slice none 0 0]) :: _) (w21.alloc (.cells #[.int .i64 0, .int .i64 0, .slice none 0 0] 38)) from by have h := H21.out.putT #[.int .i64 0, .int .i64 0, .slice none 0 0] 38; (try simp only [World.size_alloc] at h); exact h)
  obtain ⟨a15, b15, d15⟩ := L14.out.cells (.tail _ (.tail _ (.tail _ (.tail _ (.head _)))))
  go_wp2_with fail
  clear a15 b15 d15
  have H22 := L14
  clear L14
  generalize (w21.alloc (.cells #[.int .i64 0, .int .i64 0, .slice none 0 0] 38)) = w22 at *
  refine (pack0R H22.out HR.out).mono ?_
  rintro e w23 ⟨rfl, h⟩
  have H23 := Lib.hid h
  clear h
  obtain ⟨a16, b16, d16⟩ := H23.out.cells (.tail _ (.tail _ (.tail _ (.tail _ (.tail _ (.head _))))))
  go_wp2_with fail
  clear a16 b16 d16
  refine (plainR H23.out ).mono ?_
  rintro e w24 ⟨rfl, h⟩
  have H24 := Lib.hid h
  clear h
  go_wp2_with fail
  refine (rpack0R H24.out HRQ.out).mono ?_
  rintro e w25 ⟨rfl, h⟩
  have H25 := Lib.hid h
  clear h
  obtain ⟨a17, b17, d17⟩ := H25.out.cells (.tail _ (.head _))
  obtain ⟨a18, b18, d18⟩ := H25.out.cells (.head _)
  go_wp2_with fail
  clear a17 b17 d17 a18 b18 d18
  refine (lsameR H25.out (.tail _ (.tail _ (.head _))) rfl (.tail _ (.tail _ (.head _))) rfl (v := true) (sameB_self _ _ _)).mono ?_
  rintro e w26 ⟨rfl, h⟩
  have H26 := Lib.hid h
  clear h
  go_wp2_with fail
  refine (sameBytesR H26.out (.tail _ (.tail _ (.head _))) rfl (.tail _ (.tail _ (.head _))) rfl (v := true) (decide_eq_true rfl)).mono ?_
  rintro e w' ⟨rfl, rfl⟩
  obtain ⟨a19, b19, d19⟩ := H26.out.cells (.tail _ (.tail _ (.tail _ (.tail _ (.head _)))))
  obtain ⟨a20, b20, d20⟩ := H26.out.cells (.tail _ (.tail _ (.tail _ (.tail _ (.tail _ (.head _))))))
  go_wp2_with fail
  clear a19 b19 d19 a20 b20 d20
  refine (sameR H26.out (.head _) HLNm.out (.tail _ (.head _)) HLNm.out (v := true) (sameB_self _ _ _)).mono ?_
  rintro e w27 ⟨rfl, h⟩
  have H27 := Lib.hid h
  clear h
  go_wp2_with fail
  refine (works_any _).mono ?_
  rintro e w28 ⟨rfl, hb⟩
  have H28 := Lib.hid (MS.keep H27.out hb)
  clear hb
  go_wp2_with fail
  go_ret
  exact ⟨rfl, H28.out.below⟩
end Go.Proofs.Ythdapoipfnnaeaa.MxW
/- The law MatrixOne: its walk. -/
namespace Go.Proofs.Ythdapoipfnnaeaa.MxW
open Go.RowKit Go.Shelf Mem Gf FdW Mx Rng
open PlW (In)
set_option linter.unusedVariables false
set_option linter.unusedSectionVars false
attribute [local go_sem] Oper.semAt_some wide_fn
set_option maxRecDepth 100000 in
set_option maxHeartbeats 4000000 in
theorem one_rect (w : World)  (Rm Cm : Int) (M : Option Addr) (lm : List UInt8) (nm cm : Nat) (hlm : lm.length = nm) (hM : Bytes w w.heap.size M lm) (hcm : lm.length ≤ cm) (hs : smallB 12 Rm Cm nm = true) (r c : Nat) (hd : Rm = (r : Int) ∧ Cm = (c : Int)) (hb : r ≤ 100 ∧ c ≤ 100) (hnm : nm = r * c) (hne : r ≠ c) :
    Calls Try.prog 8 #[.agg #[.int .i64 Rm, .int .i64 Cm, .slice M nm cm]] w fun e w' => e = .returned (.bool true) ∧ Below w.heap.size w w' := by
  have H0 := Lib.hid (((MS.start w).nilR).arg hM hcm)
  have HLNm := Lib.hid hlm
  have HSm := Lib.hid hs
  have HM := Lib.hid hd
  have HD := Lib.hid hb
  have HNM := Lib.hid hnm
  have HMM := Lib.hid (show lm = flat r c (ent lm c) from (flat_ent (hlm.trans hnm)).symm)
  have HR := Lib.hid (show rightB Rm Cm nm = true from by rw [hd.1, hd.2]; exact right_dim hb hnm)
  have HNE := Lib.hid hne
  have HRQ := Lib.hid (show (rightB Rm Cm nm && Rm == Cm) = false from by rw [hd.1, hd.2, Bool.and_eq_false_iff]; right; simp; omega)
  clear hM hcm hlm hs hd hb hnm hne
  go_enter Try.func8, Try.ntmps8
  have L1 := Lib.hid (show MS _ _ _ ((w.heap.size, #[.int .i64 Rm, .int .i64 Cm, .slice M nm cm]) :: _) (w.alloc (.cells #[.int .i64 Rm, .int .i64 Cm, .slice M nm cm] 27)) from by have h := H0.out.put #[.int .i64 Rm, .int .i64 Cm, .slice M nm cm]; (try simp only [World.size_alloc] at h); exact h)
  obtain ⟨a2, b2, d2⟩ := L1.out.cells (.head _)
  go_wp2_with fail
  clear a2 b2 d2
  have H1 := L1
  clear L1
  generalize (w.alloc (.cells #[.int .i64 Rm, .int .i64 Cm, .slice M nm cm] 27)) = w1 at *
  refine (smallR H1.out 12 (by decide) (v := true) HSm.out).mono ?_
  rintro e w2 ⟨rfl, h⟩
  have H2 := Lib.hid h
  clear h
  go_wp2_with fail
  refine (newR H2.out).mono ?_
  rintro e w3 ⟨rfl, h⟩
  have H3 := Lib.hid h
  clear h
  obtain ⟨a3, b3, d3⟩ := H3.out.cells (.head _)
  go_wp2_with fail
  clear a3 b3 d3
  refine (copiedR H3.out (.head _) HLNm.out).mono ?_
  rintro e w4 ⟨A4, c4, rfl, h⟩
  have H4 := Lib.hid h
  clear h
  have L4 := Lib.hid (show MS _ _ _ ((w4.heap.size, #[.int .i64 Rm, .int .i64 Cm, .slice A4 nm c4]) :: _) (w4.alloc (.cells #[.int .i64 Rm, .int .i64 Cm, .slice A4 nm c4] 27)) from by have h := H4.out.put #[.int .i64 Rm, .int .i64 Cm, .slice A4 nm c4]; (try simp only [World.size_alloc] at h); exact h)
  obtain ⟨a5, b5, d5⟩ := L4.out.cells (.head _)
  go_wp2_with fail
  clear a5 b5 d5
  have H5 := L4
  clear L4
  generalize (w4.alloc (.cells #[.int .i64 Rm, .int .i64 Cm, .slice A4 nm c4] 27)) = w5 at *
  refine (turnR H5.out (r := r) (c := c) (.head _) HNM.out HM.out HD.out HMM.out c r (c * r) ⟨rfl, rfl, rfl⟩ rfl).mono ?_
  rintro e w6 ⟨A6, c6, rfl, h⟩
  have H6 := Lib.hid h
  clear h
  have L6 := Lib.hid (show MS _ _ _ ((w6.heap.size, #[.int .i64 (c : Int), .int .i64 (r : Int), .slice A6 (c * r) c6]) :: _) (w6.alloc (.cells #[.int .i64 (c : Int), .int .i64 (r : Int), .slice A6 (c * r) c6] 27)) from by have h := H6.out.put #[.int .i64 (c : Int), .int .i64 (r : Int), .slice A6 (c * r) c6]; (try simp only [World.size_alloc] at h); exact h)
  obtain ⟨a7, b7, d7⟩ := L6.out.cells (.tail _ (.tail _ (.head _)))
  go_wp2_with fail
  clear a7 b7 d7
  have H7 := L6
  clear L6
  generalize (w6.alloc (.cells #[.int .i64 (c : Int), .int .i64 (r : Int), .slice A6 (c * r) c6] 27)) = w7 at *
  refine (plainR H7.out ).mono ?_
  rintro e w8 ⟨rfl, h⟩
  have H8 := Lib.hid h
  clear h
  go_wp2_with fail
  refine (rturnR H8.out (r := r) (c := c) (.tail _ (.tail _ (.head _))) HNM.out HM.out HD.out HMM.out c r (c * r) ⟨rfl, rfl, rfl⟩ rfl).mono ?_
  rintro e w9 ⟨A9, c9, rfl, h⟩
  have H9 := Lib.hid h
  clear h
  have L8 := Lib.hid (show MS _ _ _ ((w9.heap.size, #[.int .i64 (c : Int), .int .i64 (r : Int), .slice A9 (c * r) c9]) :: _) (w9.alloc (.cells #[.int .i64 (c : Int), .int .i64 (r : Int), .slice A9 (c * r) c9] 38)) from by have h := H9.out.putT #[.int .i64 (c : Int), .int .i64 (r : Int), .slice A9 (c * r) c9] 38; (try simp only [World.size_alloc] at h); exact h)
  obtain ⟨a9, b9, d9⟩ := L8.out.cells (.tail _ (.tail _ (.head _)))
  go_wp2_with fail
  clear a9 b9 d9
  have H10 := L8
  clear L8
  generalize (w9.alloc (.cells #[.int .i64 (c : Int), .int .i64 (r : Int), .slice A9 (c * r) c9] 38)) = w10 at *
  refine (rankR H10.out (r := r) (c := c) (.tail _ (.tail _ (.head _))) HNM.out HM.out HD.out HMM.out _ rfl).mono ?_
  rintro e w11 ⟨rfl, h⟩
  have H11 := Lib.hid h
  clear h
  obtain ⟨a10, b10, d10⟩ := H11.out.cells (.tail _ (.tail _ (.tail _ (.head _))))
  go_wp2_with fail
  clear a10 b10 d10
  refine (plainR H11.out ).mono ?_
  rintro e w12 ⟨rfl, h⟩
  have H12 := Lib.hid h
  clear h
  go_wp2_with fail
  refine (rrankR H12.out (r := r) (c := c) (.tail _ (.tail _ (.tail _ (.head _)))) HNM.out HM.out HD.out HMM.out _ rfl).mono ?_
  rintro e w13 ⟨rfl, h⟩
  have H13 := Lib.hid h
  clear h
  go_wp2_with fail
  refine wp_region_noPanic ?_
  refine wp_heldG (fun w' => (w'.cell? ⟨w6.heap.size, 0, none⟩ = some (.int .i64 (c : Int)) ∧ w'.cell? ⟨w6.heap.size, 1, none⟩ = some (.int .i64 (r : Int)) ∧ w'.cell? ⟨w6.heap.size, 2, none⟩ = some (.slice A6 (c * r) c6)) ∧ (w'.cell? ⟨w9.heap.size, 0, none⟩ = some (.int .i64 (c : Int)) ∧ w'.cell? ⟨w9.heap.size, 1, none⟩ = some (.int .i64 (r : Int)) ∧ w'.cell? ⟨w9.heap.size, 2, none⟩ = some (.slice A9 (c * r) c9)) ∧ (w'.cell? ⟨w4.heap.size, 0, none⟩ = some (.int .i64 Rm) ∧ w'.cell? ⟨w4.heap.size, 1, none⟩ = some (.int .i64 Cm) ∧ w'.cell? ⟨w4.heap.size, 2, none⟩ = some (.slice A4 nm c4)) ∧ (w'.cell? ⟨w.heap.size, 0, none⟩ = some (.int .i64 Rm) ∧ w'.cell? ⟨w.heap.size, 1, none⟩ = some (.int .i64 Cm) ∧ w'.cell? ⟨w.heap.size, 2, none⟩ = some (.slice M nm cm))) [] (by kernel_rfl) ?hs0 ?rg0
  case hs0 =>
    have h := H13.out.keep (nextN (Mem.start w13) 1)
    exact ⟨h.cells (.tail _ (.head _)), h.cells (.head _), h.cells (.tail _ (.tail _ (.head _))), h.cells (.tail _ (.tail _ (.tail _ (.head _))))⟩
  case rg0 =>
  intro hHeld
  have HD13 := Lib.hid (show MS _ _ _ _ w13.drew from H13.out.keep (nextN (Mem.start w13) 1))
  generalize w13.drew = wd13 at *
  refine puG 0 ⟨some 51, .move (.tmp 6), 29, _, #[], none⟩ (v := ?_) ?_ (fun _ => by assumption) ?_
  rotate_left
  · intro w hSw
    try dsimp only at hSw
    go_simp
    try with_reducible rfl
  try simp only [Act.put, List.setIfInBounds_toArray, List.set_cons_zero, List.set_cons_succ]
  refine puG 1 ⟨some 52, .move (.tmp 8), 29, _, #[], none⟩ (v := ?_) ?_ (fun _ => by assumption) ?_
  rotate_left
  · intro w hSw
    try dsimp only at hSw
    go_simp
    try with_reducible rfl
  try simp only [Act.put, List.setIfInBounds_toArray, List.set_cons_zero, List.set_cons_succ]
  refine puG 2 ⟨some 53, .binOp BinOp.neq 29 (.tmp 51) (.tmp 52) 29, 4, _, #[⟨0, .data⟩, ⟨1, .data⟩], none⟩ (v := ?_) ?_ (fun _ => by assumption) ?_
  rotate_left
  · intro w hSw
    try dsimp only at hSw
    go_simp
    try with_reducible rfl
  try simp only [Act.put, List.setIfInBounds_toArray, List.set_cons_zero, List.set_cons_succ]
  refine puG 3 ⟨some 54, .move (.tmp 53), 4, _, #[⟨2, .data⟩], none⟩ (v := ?_) ?_ (fun _ => by assumption) ?_
  rotate_left
  · intro w hSw
    try dsimp only at hSw
    go_simp
    try with_reducible rfl
  try simp only [Act.put, List.setIfInBounds_toArray, List.set_cons_zero, List.set_cons_succ]
  refine tkG 4 ⟨some 55, .load 27 (.tmp 5), 27, _, #[⟨3, .guard⟩], some (3, false)⟩ (v := ?_) ?_ (by assumption) ?_
  rotate_left
  · intro w hSw
    try dsimp only at hSw
    obtain ⟨⟨ka0, ka1, ka2⟩, ⟨kb0, kb1, kb2⟩, ⟨kown0, kown1, kown2⟩, ⟨km0, km1, km2⟩⟩ := hSw
    go_simp
    try with_reducible rfl
  try simp only [Act.put, List.setIfInBounds_toArray, List.set_cons_zero, List.set_cons_succ]
  refine tkG 5 ⟨some 56, .load 38 (.tmp 7), 38, _, #[⟨3, .guard⟩], some (3, false)⟩ (v := ?_) ?_ (by assumption) ?_
  rotate_left
  · intro w hSw
    try dsimp only at hSw
    obtain ⟨⟨ka0, ka1, ka2⟩, ⟨kb0, kb1, kb2⟩, ⟨kown0, kown1, kown2⟩, ⟨km0, km1, km2⟩⟩ := hSw
    go_simp
    try with_reducible rfl
  try simp only [Act.put, List.setIfInBounds_toArray, List.set_cons_zero, List.set_cons_succ]
  refine onG 6 ⟨some 57, .call { callee := Callee.value (Operand.func 23), args := #[.tmp 55, .tmp 56], argTypes := #[27, 38] }, 4, _, #[⟨4, .data⟩, ⟨5, .data⟩, ⟨3, .chain⟩, ⟨3, .guard⟩], some (3, false)⟩ (fun K hK => ?_)
  go_simp
  refine (lsameR HD13.out (.tail _ (.head _)) (flat_len _ _ _) (.head _) (flat_len _ _ _) (v := true) (sameB_self _ _ _)).mono ?_
  rintro e w14 ⟨rfl, h⟩
  have H14 := Lib.hid h
  clear h
  try dsimp only
  refine hK.out _ _ ?_ (fun hHeld => ?_)
  · intro _
    try dsimp only
    have h := H14.out
    exact ⟨h.cells (.tail _ (.head _)), h.cells (.head _), h.cells (.tail _ (.tail _ (.head _))), h.cells (.tail _ (.tail _ (.tail _ (.head _))))⟩
  clear hK K
  try simp only [Act.put, List.setIfInBounds_toArray, List.set_cons_zero, List.set_cons_succ]
  have hHeld := hHeld (by kernel_rfl)
  refine puG 7 ⟨some 58, .unOp UnOp.not 4 (.tmp 57), 4, _, #[⟨6, .data⟩, ⟨3, .guard⟩], some (3, false)⟩ (v := ?_) ?_ (fun _ => by assumption) ?_
  rotate_left
  · intro w hSw
    try dsimp only at hSw
    go_simp
    try with_reducible rfl
  try simp only [Act.put, List.setIfInBounds_toArray, List.set_cons_zero, List.set_cons_succ]
  refine puG 8 ⟨some 59, .pick (.tmp 54) (Operand.const (Value.bool true)) (.tmp 58), 4, _, #[⟨3, .data⟩, ⟨7, .data⟩], none⟩ (v := ?_) ?_ (fun _ => by assumption) ?_
  rotate_left
  · intro w hSw
    try dsimp only at hSw
    go_simp
    try with_reducible rfl
  try simp only [Act.put, List.setIfInBounds_toArray, List.set_cons_zero, List.set_cons_succ]
  refine puG 9 ⟨some 60, .move (.tmp 59), 4, _, #[⟨8, .data⟩, ⟨6, .chain⟩], none⟩ (v := ?_) ?_ (fun _ => by assumption) ?_
  rotate_left
  · intro w hSw
    try dsimp only at hSw
    go_simp
    try with_reducible rfl
  try simp only [Act.put, List.setIfInBounds_toArray, List.set_cons_zero, List.set_cons_succ]
  refine puG 10 ⟨some 61, .move (.tmp 9), 3, _, #[⟨9, .guard⟩], some (9, false)⟩ (v := ?_) ?_ (fun _ => by assumption) ?_
  rotate_left
  · intro w hSw
    try dsimp only at hSw
    go_simp
    try with_reducible rfl
  try simp only [Act.put, List.setIfInBounds_toArray, List.set_cons_zero, List.set_cons_succ]
  refine puG 11 ⟨some 62, .move (.tmp 11), 3, _, #[⟨9, .guard⟩], some (9, false)⟩ (v := ?_) ?_ (fun _ => by assumption) ?_
  rotate_left
  · intro w hSw
    try dsimp only at hSw
    go_simp
    try with_reducible rfl
  try simp only [Act.put, List.setIfInBounds_toArray, List.set_cons_zero, List.set_cons_succ]
  refine puG 12 ⟨some 63, .binOp BinOp.neq 3 (.tmp 61) (.tmp 62) 3, 4, _, #[⟨10, .data⟩, ⟨11, .data⟩, ⟨9, .guard⟩], some (9, false)⟩ (v := ?_) ?_ (fun _ => by assumption) ?_
  rotate_left
  · intro w hSw
    try dsimp only at hSw
    go_simp
    try with_reducible rfl
  try simp only [Act.put, List.setIfInBounds_toArray, List.set_cons_zero, List.set_cons_succ]
  refine puG 13 ⟨some 64, .pick (.tmp 60) (Operand.const (Value.bool true)) (.tmp 63), 4, _, #[⟨9, .data⟩, ⟨12, .data⟩], none⟩ (v := ?_) ?_ (fun _ => by assumption) ?_
  rotate_left
  · intro w hSw
    try dsimp only at hSw
    go_simp
    try with_reducible rfl
  try simp only [Act.put, List.setIfInBounds_toArray, List.set_cons_zero, List.set_cons_succ]
  refine puG 14 ⟨some 65, .move (.tmp 64), 4, _, #[⟨13, .data⟩, ⟨9, .chain⟩], none⟩ (v := ?_) ?_ (fun _ => by assumption) ?_
  rotate_left
  · intro w hSw
    try dsimp only at hSw
    go_simp
    try with_reducible rfl
  try simp only [Act.put, List.setIfInBounds_toArray, List.set_cons_zero, List.set_cons_succ]
  refine puG 15 ⟨some 66, .move (.tmp 10), 29, _, #[⟨14, .guard⟩], some (14, false)⟩ (v := ?_) ?_ (fun _ => by assumption) ?_
  rotate_left
  · intro w hSw
    try dsimp only at hSw
    go_simp
    try with_reducible rfl
  try simp only [Act.put, List.setIfInBounds_toArray, List.set_cons_zero, List.set_cons_succ]
  refine puG 16 ⟨some 67, .move (.tmp 12), 29, _, #[⟨14, .guard⟩], some (14, false)⟩ (v := ?_) ?_ (fun _ => by assumption) ?_
  rotate_left
  · intro w hSw
    try dsimp only at hSw
    go_simp
    try with_reducible rfl
  try simp only [Act.put, List.setIfInBounds_toArray, List.set_cons_zero, List.set_cons_succ]
  refine puG 17 ⟨some 68, .binOp BinOp.neq 29 (.tmp 66) (.tmp 67) 29, 4, _, #[⟨15, .data⟩, ⟨16, .data⟩, ⟨14, .guard⟩], some (14, false)⟩ (v := ?_) ?_ (fun _ => by assumption) ?_
  rotate_left
  · intro w hSw
    try dsimp only at hSw
    go_simp
    try with_reducible rfl
  try simp only [Act.put, List.setIfInBounds_toArray, List.set_cons_zero, List.set_cons_succ]
  refine puG 18 ⟨some 69, .pick (.tmp 65) (Operand.const (Value.bool true)) (.tmp 68), 4, _, #[⟨14, .data⟩, ⟨17, .data⟩], none⟩ (v := ?_) ?_ (fun _ => by assumption) ?_
  rotate_left
  · intro w hSw
    try dsimp only at hSw
    go_simp
    try with_reducible rfl
  try simp only [Act.put, List.setIfInBounds_toArray, List.set_cons_zero, List.set_cons_succ]
  refine puG 19 ⟨some 70, .move (.tmp 69), 4, _, #[⟨18, .data⟩, ⟨14, .chain⟩], none⟩ (v := ?_) ?_ (fun _ => by assumption) ?_
  rotate_left
  · intro w hSw
    try dsimp only at hSw
    go_simp
    try with_reducible rfl
  try simp only [Act.put, List.setIfInBounds_toArray, List.set_cons_zero, List.set_cons_succ]
  refine tkG 20 ⟨some 71, .load 27 (.tmp 4), 27, _, #[⟨19, .guard⟩], some (19, false)⟩ (v := ?_) ?_ (by assumption) ?_
  rotate_left
  · intro w hSw
    try dsimp only at hSw
    obtain ⟨⟨ka0, ka1, ka2⟩, ⟨kb0, kb1, kb2⟩, ⟨kown0, kown1, kown2⟩, ⟨km0, km1, km2⟩⟩ := hSw
    go_simp
    try with_reducible rfl
  try simp only [Act.put, List.setIfInBounds_toArray, List.set_cons_zero, List.set_cons_succ]
  refine tkG 22 ⟨some 73, .load 27 (.tmp 1), 27, _, #[⟨19, .guard⟩], some (19, false)⟩ (v := ?_) ?_ (by assumption) ?_
  rotate_left
  · intro w hSw
    try dsimp only at hSw
    obtain ⟨⟨ka0, ka1, ka2⟩, ⟨kb0, kb1, kb2⟩, ⟨kown0, kown1, kown2⟩, ⟨km0, km1, km2⟩⟩ := hSw
    go_simp
    try with_reducible rfl
  try simp only [Act.put, List.setIfInBounds_toArray, List.set_cons_zero, List.set_cons_succ]
  refine onG 21 ⟨some 72, .call { callee := Callee.value (Operand.func 26), args := #[.tmp 71], argTypes := #[27] }, 4, _, #[⟨20, .data⟩, ⟨19, .chain⟩, ⟨19, .guard⟩], some (19, false)⟩ (fun K hK => ?_)
  go_simp
  refine (rightR H14.out HR.out).mono ?_
  rintro e w15 ⟨rfl, h⟩
  have H15 := Lib.hid h
  clear h
  try dsimp only
  refine hK.out _ _ ?_ (fun hHeld => ?_)
  · intro _
    try dsimp only
    have h := H15.out
    exact ⟨h.cells (.tail _ (.head _)), h.cells (.head _), h.cells (.tail _ (.tail _ (.head _))), h.cells (.tail _ (.tail _ (.tail _ (.head _))))⟩
  clear hK K
  try simp only [Act.put, List.setIfInBounds_toArray, List.set_cons_zero, List.set_cons_succ]
  have hHeld := hHeld (by kernel_rfl)
  refine onG 23 ⟨some 74, .call { callee := Callee.value (Operand.func 20), args := #[.tmp 73], argTypes := #[27] }, 38, _, #[⟨22, .data⟩, ⟨21, .chain⟩, ⟨19, .guard⟩], some (19, false)⟩ (fun K hK => ?_)
  go_simp
  refine (plainR H15.out ).mono ?_
  rintro e w16 ⟨rfl, h⟩
  have H16 := Lib.hid h
  clear h
  try dsimp only
  refine hK.out _ _ ?_ (fun hHeld => ?_)
  · intro _
    try dsimp only
    have h := H16.out
    exact ⟨h.cells (.tail _ (.head _)), h.cells (.head _), h.cells (.tail _ (.tail _ (.head _))), h.cells (.tail _ (.tail _ (.tail _ (.head _))))⟩
  clear hK K
  try simp only [Act.put, List.setIfInBounds_toArray, List.set_cons_zero, List.set_cons_succ]
  have hHeld := hHeld (by kernel_rfl)
  refine onG 24 ⟨some 75, .call { callee := Callee.value (Operand.func 37), args := #[.tmp 74], argTypes := #[38] }, 4, _, #[⟨23, .data⟩, ⟨23, .chain⟩, ⟨19, .guard⟩], some (19, false)⟩ (fun K hK => ?_)
  go_simp
  refine (rrightR H16.out HR.out).mono ?_
  rintro e w17 ⟨rfl, h⟩
  have H17 := Lib.hid h
  clear h
  try dsimp only
  refine hK.out _ _ ?_ (fun hHeld => ?_)
  · intro _
    try dsimp only
    have h := H17.out
    exact ⟨h.cells (.tail _ (.head _)), h.cells (.head _), h.cells (.tail _ (.tail _ (.head _))), h.cells (.tail _ (.tail _ (.tail _ (.head _))))⟩
  clear hK K
  try simp only [Act.put, List.setIfInBounds_toArray, List.set_cons_zero, List.set_cons_succ]
  have hHeld := hHeld (by kernel_rfl)
  refine puG 25 ⟨some 76, .binOp BinOp.neq 4 (.tmp 72) (.tmp 75) 4, 4, _, #[⟨21, .data⟩, ⟨24, .data⟩, ⟨19, .guard⟩], some (19, false)⟩ (v := ?_) ?_ (fun _ => by assumption) ?_
  rotate_left
  · intro w hSw
    try dsimp only at hSw
    go_simp
    try with_reducible rfl
  try simp only [Act.put, List.setIfInBounds_toArray, List.set_cons_zero, List.set_cons_succ]
  refine puG 26 ⟨some 77, .pick (.tmp 70) (Operand.const (Value.bool true)) (.tmp 76), 4, _, #[⟨19, .data⟩, ⟨25, .data⟩], none⟩ (v := ?_) ?_ (fun _ => by assumption) ?_
  rotate_left
  · intro w hSw
    try dsimp only at hSw
    go_simp
    try with_reducible rfl
  try simp only [Act.put, List.setIfInBounds_toArray, List.set_cons_zero, List.set_cons_succ]
  refine wpAnyG_done (by kernel_rfl) ?_ _
  refine NoPanic.normal ?_
  obtain ⟨a11, b11, d11⟩ := H17.out.cells (.tail _ (.tail _ (.head _)))
  go_wp2_with fail
  clear a11 b11 d11
  refine (inv0R H17.out _ HRQ.out).mono ?_
  rintro e w18 ⟨rfl, h⟩
  have H18 := Lib.hid h
  clear h
  have L12 := Lib.hid (show MS _ _ _ ((w18.heap.size, #[.int .i64 0, .int .i64 0, .slice none 0 0]) :: _) (w18.alloc (.cells #[.int .i64 0, .int .i64 0, .slice none 0 0] 27)) from by have h := H18.out.put #[.int .i64 0, .int .i64 0, .slice none 0 0]; (try simp only [World.size_alloc] at h); exact h)
  obtain ⟨a13, b13, d13⟩ := L12.out.cells (.tail _ (.tail _ (.tail _ (.tail _ (.head _)))))
  go_wp2_with fail
  clear a13 b13 d13
  have H19 := L12
  clear L12
  generalize (w18.alloc (.cells #[.int .i64 0, .int .i64 0, .slice none 0 0] 27)) = w19 at *
  refine (plainR H19.out ).mono ?_
  rintro e w20 ⟨rfl, h⟩
  have H20 := Lib.hid h
  clear h
  go_wp2_with fail
  refine (rinv0R H20.out HRQ.out).mono ?_
  rintro e w21 ⟨rfl, h⟩
  have H21 := Lib.hid h
  clear h
  have L14 := Lib.hid (show MS _ _ _ ((w21.heap.size, #[.int .i64 0, .int .i64 0, .slice none 0 0]) :: _) (w21.alloc (.cells #[.int .i64 0, .int .i64 0, .slice none 0 0] 38)) from by have h := H21.out.putT #[.int .i64 0, .int .i64 0, .slice none 0 0] 38; (try simp only [World.size_alloc] at h); exact h)
  obtain ⟨a15, b15, d15⟩ := L14.out.cells (.tail _ (.tail _ (.tail _ (.tail _ (.head _)))))
  go_wp2_with fail
  clear a15 b15 d15
  have H22 := L14
  clear L14
  generalize (w21.alloc (.cells #[.int .i64 0, .int .i64 0, .slice none 0 0] 38)) = w22 at *
  refine (pack1R H22.out (r := r) (c := c) (.tail _ (.tail _ (.head _))) HNM.out HM.out HD.out HMM.out (same_rect HNE.out _ _)).mono ?_
  rintro e w23 ⟨rfl, h⟩
  have H23 := Lib.hid h
  clear h
  obtain ⟨a16, b16, d16⟩ := H23.out.cells (.tail _ (.tail _ (.tail _ (.tail _ (.tail _ (.head _))))))
  go_wp2_with fail
  clear a16 b16 d16
  refine (plainR H23.out ).mono ?_
  rintro e w24 ⟨rfl, h⟩
  have H24 := Lib.hid h
  clear h
  go_wp2_with fail
  refine (rpack0R H24.out HRQ.out).mono ?_
  rintro e w25 ⟨rfl, h⟩
  have H25 := Lib.hid h
  clear h
  obtain ⟨a17, b17, d17⟩ := H25.out.cells (.tail _ (.head _))
  obtain ⟨a18, b18, d18⟩ := H25.out.cells (.head _)
  go_wp2_with fail
  clear a17 b17 d17 a18 b18 d18
  refine (lsameR H25.out (.tail _ (.tail _ (.tail _ (.tail _ (.head _))))) rfl (.tail _ (.tail _ (.tail _ (.tail _ (.head _))))) rfl (v := true) (sameB_self _ _ _)).mono ?_
  rintro e w26 ⟨rfl, h⟩
  have H26 := Lib.hid h
  clear h
  go_wp2_with fail
  refine (sameBytesR H26.out (.tail _ (.tail _ (.tail _ (.tail _ (.head _))))) rfl (.tail _ (.tail _ (.tail _ (.tail _ (.head _))))) rfl (v := true) (decide_eq_true rfl)).mono ?_
  rintro e w' ⟨rfl, rfl⟩
  obtain ⟨a19, b19, d19⟩ := H26.out.cells (.tail _ (.tail _ (.tail _ (.tail _ (.head _)))))
  obtain ⟨a20, b20, d20⟩ := H26.out.cells (.tail _ (.tail _ (.tail _ (.tail _ (.tail _ (.head _))))))
  go_wp2_with fail
  clear a19 b19 d19 a20 b20 d20
  refine (sameR H26.out (.tail _ (.tail _ (.head _))) HLNm.out (.tail _ (.tail _ (.tail _ (.head _)))) HLNm.out (v := true) (sameB_self _ _ _)).mono ?_
  rintro e w27 ⟨rfl, h⟩
  have H27 := Lib.hid h
  clear h
  go_wp2_with fail
  refine (works_any _).mono ?_
  rintro e w28 ⟨rfl, hb⟩
  have H28 := Lib.hid (MS.keep H27.out hb)
  clear hb
  go_wp2_with fail
  go_ret
  exact ⟨rfl, H28.out.below⟩
end Go.Proofs.Ythdapoipfnnaeaa.MxW
/- The law MatrixOne: its walk. -/
namespace Go.Proofs.Ythdapoipfnnaeaa.MxW
open Go.RowKit Go.Shelf Mem Gf FdW Mx Rng
open PlW (In)
set_option linter.unusedVariables false
set_option linter.unusedSectionVars false
attribute [local go_sem] Oper.semAt_some wide_fn
set_option maxRecDepth 100000 in
set_option maxHeartbeats 4000000 in
theorem one_sq (w : World)  (Rm Cm : Int) (M : Option Addr) (lm : List UInt8) (nm cm : Nat) (hlm : lm.length = nm) (hM : Bytes w w.heap.size M lm) (hcm : lm.length ≤ cm) (hs : smallB 12 Rm Cm nm = true) (r : Nat) (hd : Rm = (r : Int) ∧ Cm = (r : Int)) (hb : r ≤ 100 ∧ r ≤ 100) (hnm : nm = r * r) :
    Calls Try.prog 8 #[.agg #[.int .i64 Rm, .int .i64 Cm, .slice M nm cm]] w fun e w' => e = .returned (.bool true) ∧ Below w.heap.size w w' := by
  have H0 := Lib.hid (((MS.start w).nilR).arg hM hcm)
  have HLNm := Lib.hid hlm
  have HSm := Lib.hid hs
  have HM := Lib.hid hd
  have HD := Lib.hid hb
  have HNM := Lib.hid hnm
  have HMM := Lib.hid (show lm = flat r r (ent lm r) from (flat_ent (hlm.trans hnm)).symm)
  have HR := Lib.hid (show rightB Rm Cm nm = true from by rw [hd.1, hd.2]; exact right_dim hb hnm)
  clear hM hcm hlm hs hd hb hnm
  go_enter Try.func8, Try.ntmps8
  have L1 := Lib.hid (show MS _ _ _ ((w.heap.size, #[.int .i64 Rm, .int .i64 Cm, .slice M nm cm]) :: _) (w.alloc (.cells #[.int .i64 Rm, .int .i64 Cm, .slice M nm cm] 27)) from by have h := H0.out.put #[.int .i64 Rm, .int .i64 Cm, .slice M nm cm]; (try simp only [World.size_alloc] at h); exact h)
  obtain ⟨a2, b2, d2⟩ := L1.out.cells (.head _)
  go_wp2_with fail
  clear a2 b2 d2
  have H1 := L1
  clear L1
  generalize (w.alloc (.cells #[.int .i64 Rm, .int .i64 Cm, .slice M nm cm] 27)) = w1 at *
  refine (smallR H1.out 12 (by decide) (v := true) HSm.out).mono ?_
  rintro e w2 ⟨rfl, h⟩
  have H2 := Lib.hid h
  clear h
  go_wp2_with fail
  refine (newR H2.out).mono ?_
  rintro e w3 ⟨rfl, h⟩
  have H3 := Lib.hid h
  clear h
  obtain ⟨a3, b3, d3⟩ := H3.out.cells (.head _)
  go_wp2_with fail
  clear a3 b3 d3
  refine (copiedR H3.out (.head _) HLNm.out).mono ?_
  rintro e w4 ⟨A4, c4, rfl, h⟩
  have H4 := Lib.hid h
  clear h
  have L4 := Lib.hid (show MS _ _ _ ((w4.heap.size, #[.int .i64 Rm, .int .i64 Cm, .slice A4 nm c4]) :: _) (w4.alloc (.cells #[.int .i64 Rm, .int .i64 Cm, .slice A4 nm c4] 27)) from by have h := H4.out.put #[.int .i64 Rm, .int .i64 Cm, .slice A4 nm c4]; (try simp only [World.size_alloc] at h); exact h)
  obtain ⟨a5, b5, d5⟩ := L4.out.cells (.head _)
  go_wp2_with fail
  clear a5 b5 d5
  have H5 := L4
  clear L4
  generalize (w4.alloc (.cells #[.int .i64 Rm, .int .i64 Cm, .slice A4 nm c4] 27)) = w5 at *
  refine (turnR H5.out (r := r) (c := r) (.head _) HNM.out HM.out HD.out HMM.out r r (r * r) ⟨rfl, rfl, rfl⟩ rfl).mono ?_
  rintro e w6 ⟨A6, c6, rfl, h⟩
  have H6 := Lib.hid h
  clear h
  have L6 := Lib.hid (show MS _ _ _ ((w6.heap.size, #[.int .i64 (r : Int), .int .i64 (r : Int), .slice A6 (r * r) c6]) :: _) (w6.alloc (.cells #[.int .i64 (r : Int), .int .i64 (r : Int), .slice A6 (r * r) c6] 27)) from by have h := H6.out.put #[.int .i64 (r : Int), .int .i64 (r : Int), .slice A6 (r * r) c6]; (try simp only [World.size_alloc] at h); exact h)
  obtain ⟨a7, b7, d7⟩ := L6.out.cells (.tail _ (.tail _ (.head _)))
  go_wp2_with fail
  clear a7 b7 d7
  have H7 := L6
  clear L6
  generalize (w6.alloc (.cells #[.int .i64 (r : Int), .int .i64 (r : Int), .slice A6 (r * r) c6] 27)) = w7 at *
  refine (plainR H7.out ).mono ?_
  rintro e w8 ⟨rfl, h⟩
  have H8 := Lib.hid h
  clear h
  go_wp2_with fail
  refine (rturnR H8.out (r := r) (c := r) (.tail _ (.tail _ (.head _))) HNM.out HM.out HD.out HMM.out r r (r * r) ⟨rfl, rfl, rfl⟩ rfl).mono ?_
  rintro e w9 ⟨A9, c9, rfl, h⟩
  have H9 := Lib.hid h
  clear h
  have L8 := Lib.hid (show MS _ _ _ ((w9.heap.size, #[.int .i64 (r : Int), .int .i64 (r : Int), .slice A9 (r * r) c9]) :: _) (w9.alloc (.cells #[.int .i64 (r : Int), .int .i64 (r : Int), .slice A9 (r * r) c9] 38)) from by have h := H9.out.putT #[.int .i64 (r : Int), .int .i64 (r : Int), .slice A9 (r * r) c9] 38; (try simp only [World.size_alloc] at h); exact h)
  obtain ⟨a9, b9, d9⟩ := L8.out.cells (.tail _ (.tail _ (.head _)))
  go_wp2_with fail
  clear a9 b9 d9
  have H10 := L8
  clear L8
  generalize (w9.alloc (.cells #[.int .i64 (r : Int), .int .i64 (r : Int), .slice A9 (r * r) c9] 38)) = w10 at *
  refine (rankR H10.out (r := r) (c := r) (.tail _ (.tail _ (.head _))) HNM.out HM.out HD.out HMM.out _ rfl).mono ?_
  rintro e w11 ⟨rfl, h⟩
  have H11 := Lib.hid h
  clear h
  obtain ⟨a10, b10, d10⟩ := H11.out.cells (.tail _ (.tail _ (.tail _ (.head _))))
  go_wp2_with fail
  clear a10 b10 d10
  refine (plainR H11.out ).mono ?_
  rintro e w12 ⟨rfl, h⟩
  have H12 := Lib.hid h
  clear h
  go_wp2_with fail
  refine (rrankR H12.out (r := r) (c := r) (.tail _ (.tail _ (.tail _ (.head _)))) HNM.out HM.out HD.out HMM.out _ rfl).mono ?_
  rintro e w13 ⟨rfl, h⟩
  have H13 := Lib.hid h
  clear h
  go_wp2_with fail
  refine wp_region_noPanic ?_
  refine wp_heldG (fun w' => (w'.cell? ⟨w6.heap.size, 0, none⟩ = some (.int .i64 (r : Int)) ∧ w'.cell? ⟨w6.heap.size, 1, none⟩ = some (.int .i64 (r : Int)) ∧ w'.cell? ⟨w6.heap.size, 2, none⟩ = some (.slice A6 (r * r) c6)) ∧ (w'.cell? ⟨w9.heap.size, 0, none⟩ = some (.int .i64 (r : Int)) ∧ w'.cell? ⟨w9.heap.size, 1, none⟩ = some (.int .i64 (r : Int)) ∧ w'.cell? ⟨w9.heap.size, 2, none⟩ = some (.slice A9 (r * r) c9)) ∧ (w'.cell? ⟨w4.heap.size, 0, none⟩ = some (.int .i64 Rm) ∧ w'.cell? ⟨w4.heap.size, 1, none⟩ = some (.int .i64 Cm) ∧ w'.cell? ⟨w4.heap.size, 2, none⟩ = some (.slice A4 nm c4)) ∧ (w'.cell? ⟨w.heap.size, 0, none⟩ = some (.int .i64 Rm) ∧ w'.cell? ⟨w.heap.size, 1, none⟩ = some (.int .i64 Cm) ∧ w'.cell? ⟨w.heap.size, 2, none⟩ = some (.slice M nm cm))) [] (by kernel_rfl) ?hs0 ?rg0
  case hs0 =>
    have h := H13.out.keep (nextN (Mem.start w13) 1)
    exact ⟨h.cells (.tail _ (.head _)), h.cells (.head _), h.cells (.tail _ (.tail _ (.head _))), h.cells (.tail _ (.tail _ (.tail _ (.head _))))⟩
  case rg0 =>
  intro hHeld
  have HD13 := Lib.hid (show MS _ _ _ _ w13.drew from H13.out.keep (nextN (Mem.start w13) 1))
  generalize w13.drew = wd13 at *
  refine puG 0 ⟨some 51, .move (.tmp 6), 29, _, #[], none⟩ (v := ?_) ?_ (fun _ => by assumption) ?_
  rotate_left
  · intro w hSw
    try dsimp only at hSw
    go_simp
    try with_reducible rfl
  try simp only [Act.put, List.setIfInBounds_toArray, List.set_cons_zero, List.set_cons_succ]
  refine puG 1 ⟨some 52, .move (.tmp 8), 29, _, #[], none⟩ (v := ?_) ?_ (fun _ => by assumption) ?_
  rotate_left
  · intro w hSw
    try dsimp only at hSw
    go_simp
    try with_reducible rfl
  try simp only [Act.put, List.setIfInBounds_toArray, List.set_cons_zero, List.set_cons_succ]
  refine puG 2 ⟨some 53, .binOp BinOp.neq 29 (.tmp 51) (.tmp 52) 29, 4, _, #[⟨0, .data⟩, ⟨1, .data⟩], none⟩ (v := ?_) ?_ (fun _ => by assumption) ?_
  rotate_left
  · intro w hSw
    try dsimp only at hSw
    go_simp
    try with_reducible rfl
  try simp only [Act.put, List.setIfInBounds_toArray, List.set_cons_zero, List.set_cons_succ]
  refine puG 3 ⟨some 54, .move (.tmp 53), 4, _, #[⟨2, .data⟩], none⟩ (v := ?_) ?_ (fun _ => by assumption) ?_
  rotate_left
  · intro w hSw
    try dsimp only at hSw
    go_simp
    try with_reducible rfl
  try simp only [Act.put, List.setIfInBounds_toArray, List.set_cons_zero, List.set_cons_succ]
  refine tkG 4 ⟨some 55, .load 27 (.tmp 5), 27, _, #[⟨3, .guard⟩], some (3, false)⟩ (v := ?_) ?_ (by assumption) ?_
  rotate_left
  · intro w hSw
    try dsimp only at hSw
    obtain ⟨⟨ka0, ka1, ka2⟩, ⟨kb0, kb1, kb2⟩, ⟨kown0, kown1, kown2⟩, ⟨km0, km1, km2⟩⟩ := hSw
    go_simp
    try with_reducible rfl
  try simp only [Act.put, List.setIfInBounds_toArray, List.set_cons_zero, List.set_cons_succ]
  refine tkG 5 ⟨some 56, .load 38 (.tmp 7), 38, _, #[⟨3, .guard⟩], some (3, false)⟩ (v := ?_) ?_ (by assumption) ?_
  rotate_left
  · intro w hSw
    try dsimp only at hSw
    obtain ⟨⟨ka0, ka1, ka2⟩, ⟨kb0, kb1, kb2⟩, ⟨kown0, kown1, kown2⟩, ⟨km0, km1, km2⟩⟩ := hSw
    go_simp
    try with_reducible rfl
  try simp only [Act.put, List.setIfInBounds_toArray, List.set_cons_zero, List.set_cons_succ]
  refine onG 6 ⟨some 57, .call { callee := Callee.value (Operand.func 23), args := #[.tmp 55, .tmp 56], argTypes := #[27, 38] }, 4, _, #[⟨4, .data⟩, ⟨5, .data⟩, ⟨3, .chain⟩, ⟨3, .guard⟩], some (3, false)⟩ (fun K hK => ?_)
  go_simp
  refine (lsameR HD13.out (.tail _ (.head _)) (flat_len _ _ _) (.head _) (flat_len _ _ _) (v := true) (sameB_self _ _ _)).mono ?_
  rintro e w14 ⟨rfl, h⟩
  have H14 := Lib.hid h
  clear h
  try dsimp only
  refine hK.out _ _ ?_ (fun hHeld => ?_)
  · intro _
    try dsimp only
    have h := H14.out
    exact ⟨h.cells (.tail _ (.head _)), h.cells (.head _), h.cells (.tail _ (.tail _ (.head _))), h.cells (.tail _ (.tail _ (.tail _ (.head _))))⟩
  clear hK K
  try simp only [Act.put, List.setIfInBounds_toArray, List.set_cons_zero, List.set_cons_succ]
  have hHeld := hHeld (by kernel_rfl)
  refine puG 7 ⟨some 58, .unOp UnOp.not 4 (.tmp 57), 4, _, #[⟨6, .data⟩, ⟨3, .guard⟩], some (3, false)⟩ (v := ?_) ?_ (fun _ => by assumption) ?_
  rotate_left
  · intro w hSw
    try dsimp only at hSw
    go_simp
    try with_reducible rfl
  try simp only [Act.put, List.setIfInBounds_toArray, List.set_cons_zero, List.set_cons_succ]
  refine puG 8 ⟨some 59, .pick (.tmp 54) (Operand.const (Value.bool true)) (.tmp 58), 4, _, #[⟨3, .data⟩, ⟨7, .data⟩], none⟩ (v := ?_) ?_ (fun _ => by assumption) ?_
  rotate_left
  · intro w hSw
    try dsimp only at hSw
    go_simp
    try with_reducible rfl
  try simp only [Act.put, List.setIfInBounds_toArray, List.set_cons_zero, List.set_cons_succ]
  refine puG 9 ⟨some 60, .move (.tmp 59), 4, _, #[⟨8, .data⟩, ⟨6, .chain⟩], none⟩ (v := ?_) ?_ (fun _ => by assumption) ?_
  rotate_left
  · intro w hSw
    try dsimp only at hSw
    go_simp
    try with_reducible rfl
  try simp only [Act.put, List.setIfInBounds_toArray, List.set_cons_zero, List.set_cons_succ]
  refine puG 10 ⟨some 61, .move (.tmp 9), 3, _, #[⟨9, .guard⟩], some (9, false)⟩ (v := ?_) ?_ (fun _ => by assumption) ?_
  rotate_left
  · intro w hSw
    try dsimp only at hSw
    go_simp
    try with_reducible rfl
  try simp only [Act.put, List.setIfInBounds_toArray, List.set_cons_zero, List.set_cons_succ]
  refine puG 11 ⟨some 62, .move (.tmp 11), 3, _, #[⟨9, .guard⟩], some (9, false)⟩ (v := ?_) ?_ (fun _ => by assumption) ?_
  rotate_left
  · intro w hSw
    try dsimp only at hSw
    go_simp
    try with_reducible rfl
  try simp only [Act.put, List.setIfInBounds_toArray, List.set_cons_zero, List.set_cons_succ]
  refine puG 12 ⟨some 63, .binOp BinOp.neq 3 (.tmp 61) (.tmp 62) 3, 4, _, #[⟨10, .data⟩, ⟨11, .data⟩, ⟨9, .guard⟩], some (9, false)⟩ (v := ?_) ?_ (fun _ => by assumption) ?_
  rotate_left
  · intro w hSw
    try dsimp only at hSw
    go_simp
    try with_reducible rfl
  try simp only [Act.put, List.setIfInBounds_toArray, List.set_cons_zero, List.set_cons_succ]
  refine puG 13 ⟨some 64, .pick (.tmp 60) (Operand.const (Value.bool true)) (.tmp 63), 4, _, #[⟨9, .data⟩, ⟨12, .data⟩], none⟩ (v := ?_) ?_ (fun _ => by assumption) ?_
  rotate_left
  · intro w hSw
    try dsimp only at hSw
    go_simp
    try with_reducible rfl
  try simp only [Act.put, List.setIfInBounds_toArray, List.set_cons_zero, List.set_cons_succ]
  refine puG 14 ⟨some 65, .move (.tmp 64), 4, _, #[⟨13, .data⟩, ⟨9, .chain⟩], none⟩ (v := ?_) ?_ (fun _ => by assumption) ?_
  rotate_left
  · intro w hSw
    try dsimp only at hSw
    go_simp
    try with_reducible rfl
  try simp only [Act.put, List.setIfInBounds_toArray, List.set_cons_zero, List.set_cons_succ]
  refine puG 15 ⟨some 66, .move (.tmp 10), 29, _, #[⟨14, .guard⟩], some (14, false)⟩ (v := ?_) ?_ (fun _ => by assumption) ?_
  rotate_left
  · intro w hSw
    try dsimp only at hSw
    go_simp
    try with_reducible rfl
  try simp only [Act.put, List.setIfInBounds_toArray, List.set_cons_zero, List.set_cons_succ]
  refine puG 16 ⟨some 67, .move (.tmp 12), 29, _, #[⟨14, .guard⟩], some (14, false)⟩ (v := ?_) ?_ (fun _ => by assumption) ?_
  rotate_left
  · intro w hSw
    try dsimp only at hSw
    go_simp
    try with_reducible rfl
  try simp only [Act.put, List.setIfInBounds_toArray, List.set_cons_zero, List.set_cons_succ]
  refine puG 17 ⟨some 68, .binOp BinOp.neq 29 (.tmp 66) (.tmp 67) 29, 4, _, #[⟨15, .data⟩, ⟨16, .data⟩, ⟨14, .guard⟩], some (14, false)⟩ (v := ?_) ?_ (fun _ => by assumption) ?_
  rotate_left
  · intro w hSw
    try dsimp only at hSw
    go_simp
    try with_reducible rfl
  try simp only [Act.put, List.setIfInBounds_toArray, List.set_cons_zero, List.set_cons_succ]
  refine puG 18 ⟨some 69, .pick (.tmp 65) (Operand.const (Value.bool true)) (.tmp 68), 4, _, #[⟨14, .data⟩, ⟨17, .data⟩], none⟩ (v := ?_) ?_ (fun _ => by assumption) ?_
  rotate_left
  · intro w hSw
    try dsimp only at hSw
    go_simp
    try with_reducible rfl
  try simp only [Act.put, List.setIfInBounds_toArray, List.set_cons_zero, List.set_cons_succ]
  refine puG 19 ⟨some 70, .move (.tmp 69), 4, _, #[⟨18, .data⟩, ⟨14, .chain⟩], none⟩ (v := ?_) ?_ (fun _ => by assumption) ?_
  rotate_left
  · intro w hSw
    try dsimp only at hSw
    go_simp
    try with_reducible rfl
  try simp only [Act.put, List.setIfInBounds_toArray, List.set_cons_zero, List.set_cons_succ]
  refine tkG 20 ⟨some 71, .load 27 (.tmp 4), 27, _, #[⟨19, .guard⟩], some (19, false)⟩ (v := ?_) ?_ (by assumption) ?_
  rotate_left
  · intro w hSw
    try dsimp only at hSw
    obtain ⟨⟨ka0, ka1, ka2⟩, ⟨kb0, kb1, kb2⟩, ⟨kown0, kown1, kown2⟩, ⟨km0, km1, km2⟩⟩ := hSw
    go_simp
    try with_reducible rfl
  try simp only [Act.put, List.setIfInBounds_toArray, List.set_cons_zero, List.set_cons_succ]
  refine tkG 22 ⟨some 73, .load 27 (.tmp 1), 27, _, #[⟨19, .guard⟩], some (19, false)⟩ (v := ?_) ?_ (by assumption) ?_
  rotate_left
  · intro w hSw
    try dsimp only at hSw
    obtain ⟨⟨ka0, ka1, ka2⟩, ⟨kb0, kb1, kb2⟩, ⟨kown0, kown1, kown2⟩, ⟨km0, km1, km2⟩⟩ := hSw
    go_simp
    try with_reducible rfl
  try simp only [Act.put, List.setIfInBounds_toArray, List.set_cons_zero, List.set_cons_succ]
  refine onG 21 ⟨some 72, .call { callee := Callee.value (Operand.func 26), args := #[.tmp 71], argTypes := #[27] }, 4, _, #[⟨20, .data⟩, ⟨19, .chain⟩, ⟨19, .guard⟩], some (19, false)⟩ (fun K hK => ?_)
  go_simp
  refine (rightR H14.out HR.out).mono ?_
  rintro e w15 ⟨rfl, h⟩
  have H15 := Lib.hid h
  clear h
  try dsimp only
  refine hK.out _ _ ?_ (fun hHeld => ?_)
  · intro _
    try dsimp only
    have h := H15.out
    exact ⟨h.cells (.tail _ (.head _)), h.cells (.head _), h.cells (.tail _ (.tail _ (.head _))), h.cells (.tail _ (.tail _ (.tail _ (.head _))))⟩
  clear hK K
  try simp only [Act.put, List.setIfInBounds_toArray, List.set_cons_zero, List.set_cons_succ]
  have hHeld := hHeld (by kernel_rfl)
  refine onG 23 ⟨some 74, .call { callee := Callee.value (Operand.func 20), args := #[.tmp 73], argTypes := #[27] }, 38, _, #[⟨22, .data⟩, ⟨21, .chain⟩, ⟨19, .guard⟩], some (19, false)⟩ (fun K hK => ?_)
  go_simp
  refine (plainR H15.out ).mono ?_
  rintro e w16 ⟨rfl, h⟩
  have H16 := Lib.hid h
  clear h
  try dsimp only
  refine hK.out _ _ ?_ (fun hHeld => ?_)
  · intro _
    try dsimp only
    have h := H16.out
    exact ⟨h.cells (.tail _ (.head _)), h.cells (.head _), h.cells (.tail _ (.tail _ (.head _))), h.cells (.tail _ (.tail _ (.tail _ (.head _))))⟩
  clear hK K
  try simp only [Act.put, List.setIfInBounds_toArray, List.set_cons_zero, List.set_cons_succ]
  have hHeld := hHeld (by kernel_rfl)
  refine onG 24 ⟨some 75, .call { callee := Callee.value (Operand.func 37), args := #[.tmp 74], argTypes := #[38] }, 4, _, #[⟨23, .data⟩, ⟨23, .chain⟩, ⟨19, .guard⟩], some (19, false)⟩ (fun K hK => ?_)
  go_simp
  refine (rrightR H16.out HR.out).mono ?_
  rintro e w17 ⟨rfl, h⟩
  have H17 := Lib.hid h
  clear h
  try dsimp only
  refine hK.out _ _ ?_ (fun hHeld => ?_)
  · intro _
    try dsimp only
    have h := H17.out
    exact ⟨h.cells (.tail _ (.head _)), h.cells (.head _), h.cells (.tail _ (.tail _ (.head _))), h.cells (.tail _ (.tail _ (.tail _ (.head _))))⟩
  clear hK K
  try simp only [Act.put, List.setIfInBounds_toArray, List.set_cons_zero, List.set_cons_succ]
  have hHeld := hHeld (by kernel_rfl)
  refine puG 25 ⟨some 76, .binOp BinOp.neq 4 (.tmp 72) (.tmp 75) 4, 4, _, #[⟨21, .data⟩, ⟨24, .data⟩, ⟨19, .guard⟩], some (19, false)⟩ (v := ?_) ?_ (fun _ => by assumption) ?_
  rotate_left
  · intro w hSw
    try dsimp only at hSw
    go_simp
    try with_reducible rfl
  try simp only [Act.put, List.setIfInBounds_toArray, List.set_cons_zero, List.set_cons_succ]
  refine puG 26 ⟨some 77, .pick (.tmp 70) (Operand.const (Value.bool true)) (.tmp 76), 4, _, #[⟨19, .data⟩, ⟨25, .data⟩], none⟩ (v := ?_) ?_ (fun _ => by assumption) ?_
  rotate_left
  · intro w hSw
    try dsimp only at hSw
    go_simp
    try with_reducible rfl
  try simp only [Act.put, List.setIfInBounds_toArray, List.set_cons_zero, List.set_cons_succ]
  refine wpAnyG_done (by kernel_rfl) ?_ _
  refine NoPanic.normal ?_
  obtain ⟨a11, b11, d11⟩ := H17.out.cells (.tail _ (.tail _ (.head _)))
  go_wp2_with fail
  clear a11 b11 d11
  cases ht : solves r r r (ent lm r) idm with
  | false =>
    have HT := Lib.hid ht
    clear ht
    refine (inv1R H17.out (r := r) (.tail _ (.tail _ (.head _))) HNM.out HM.out HD.out.1 HMM.out HT.out).mono ?_
    rintro e w18 ⟨rfl, h⟩
    have H18 := Lib.hid h
    clear h
    have L12 := Lib.hid (show MS _ _ _ ((w18.heap.size, #[.int .i64 0, .int .i64 0, .slice none 0 0]) :: _) (w18.alloc (.cells #[.int .i64 0, .int .i64 0, .slice none 0 0] 27)) from by have h := H18.out.put #[.int .i64 0, .int .i64 0, .slice none 0 0]; (try simp only [World.size_alloc] at h); exact h)
    obtain ⟨a13, b13, d13⟩ := L12.out.cells (.tail _ (.tail _ (.tail _ (.tail _ (.head _)))))
    go_wp2_with fail
    clear a13 b13 d13
    have H19 := L12
    clear L12
    generalize (w18.alloc (.cells #[.int .i64 0, .int .i64 0, .slice none 0 0] 27)) = w19 at *
    refine (plainR H19.out ).mono ?_
    rintro e w20 ⟨rfl, h⟩
    have H20 := Lib.hid h
    clear h
    go_wp2_with fail
    refine (rinv1R H20.out (r := r) (.tail _ (.tail _ (.tail _ (.head _)))) HNM.out HM.out HD.out.1 HMM.out HT.out).mono ?_
    rintro e w21 ⟨rfl, h⟩
    have H21 := Lib.hid h
    clear h
    have L14 := Lib.hid (show MS _ _ _ ((w21.heap.size, #[.int .i64 0, .int .i64 0, .slice none 0 0]) :: _) (w21.alloc (.cells #[.int .i64 0, .int .i64 0, .slice none 0 0] 38)) from by have h := H21.out.putT #[.int .i64 0, .int .i64 0, .slice none 0 0] 38; (try simp only [World.size_alloc] at h); exact h)
    obtain ⟨a15, b15, d15⟩ := L14.out.cells (.tail _ (.tail _ (.tail _ (.tail _ (.head _)))))
    go_wp2_with fail
    clear a15 b15 d15
    have H22 := L14
    clear L14
    generalize (w21.alloc (.cells #[.int .i64 0, .int .i64 0, .slice none 0 0] 38)) = w22 at *
    cases hy : symB r (ent lm r) with
    | false =>
      have HY := Lib.hid hy
      clear hy
      refine (pack1R H22.out (r := r) (c := r) (.tail _ (.tail _ (.head _))) HNM.out HM.out HD.out HMM.out (same_sq _ _ HY.out)).mono ?_
      rintro e w23 ⟨rfl, h⟩
      have H23 := Lib.hid h
      clear h
      obtain ⟨a16, b16, d16⟩ := H23.out.cells (.tail _ (.tail _ (.tail _ (.tail _ (.tail _ (.head _))))))
      go_wp2_with fail
      clear a16 b16 d16
      refine (plainR H23.out ).mono ?_
      rintro e w24 ⟨rfl, h⟩
      have H24 := Lib.hid h
      clear h
      go_wp2_with fail
      refine (rpack1R H24.out (r := r) (.tail _ (.tail _ (.tail _ (.head _)))) HNM.out HM.out HD.out.1 HMM.out HY.out).mono ?_
      rintro e w25 ⟨rfl, h⟩
      have H25 := Lib.hid h
      clear h
      obtain ⟨a17, b17, d17⟩ := H25.out.cells (.tail _ (.head _))
      obtain ⟨a18, b18, d18⟩ := H25.out.cells (.head _)
      go_wp2_with fail
      clear a17 b17 d17 a18 b18 d18
      refine (lsameR H25.out (.tail _ (.tail _ (.tail _ (.tail _ (.head _))))) rfl (.tail _ (.tail _ (.tail _ (.tail _ (.head _))))) rfl (v := true) (sameB_self _ _ _)).mono ?_
      rintro e w26 ⟨rfl, h⟩
      have H26 := Lib.hid h
      clear h
      go_wp2_with fail
      refine (sameBytesR H26.out (.tail _ (.tail _ (.tail _ (.tail _ (.head _))))) rfl (.tail _ (.tail _ (.tail _ (.tail _ (.head _))))) rfl (v := true) (decide_eq_true rfl)).mono ?_
      rintro e w' ⟨rfl, rfl⟩
      obtain ⟨a19, b19, d19⟩ := H26.out.cells (.tail _ (.tail _ (.tail _ (.tail _ (.head _)))))
      obtain ⟨a20, b20, d20⟩ := H26.out.cells (.tail _ (.tail _ (.tail _ (.tail _ (.tail _ (.head _))))))
      go_wp2_with fail
      clear a19 b19 d19 a20 b20 d20
      refine (sameR H26.out (.tail _ (.tail _ (.head _))) HLNm.out (.tail _ (.tail _ (.tail _ (.head _)))) HLNm.out (v := true) (sameB_self _ _ _)).mono ?_
      rintro e w27 ⟨rfl, h⟩
      have H27 := Lib.hid h
      clear h
      go_wp2_with fail
      refine (works_any _).mono ?_
      rintro e w28 ⟨rfl, hb⟩
      have H28 := Lib.hid (MS.keep H27.out hb)
      clear hb
      go_wp2_with fail
      go_ret
      exact ⟨rfl, H28.out.below⟩
    | true =>
      have HY := Lib.hid hy
      clear hy
      refine (packdR H22.out (r := r) (.tail _ (.tail _ (.head _))) HNM.out HM.out HD.out.1 HMM.out ((symB_iff _ _).1 HY.out) _ rfl rfl).mono ?_
      rintro e w23 ⟨A23, c23, rfl, h⟩
      have H23 := Lib.hid h
      clear h
      obtain ⟨a16, b16, d16⟩ := H23.out.cells (.tail _ (.tail _ (.tail _ (.tail _ (.tail _ (.head _))))))
      go_wp2_with fail
      clear a16 b16 d16
      refine (plainR H23.out ).mono ?_
      rintro e w24 ⟨rfl, h⟩
      have H24 := Lib.hid h
      clear h
      go_wp2_with fail
      refine (rpackdR H24.out (r := r) (.tail _ (.tail _ (.tail _ (.tail _ (.head _))))) HNM.out HM.out HD.out.1 HMM.out HY.out _ rfl rfl).mono ?_
      rintro e w25 ⟨A25, c25, rfl, h⟩
      have H25 := Lib.hid h
      clear h
      obtain ⟨a17, b17, d17⟩ := H25.out.cells (.tail _ (.head _))
      obtain ⟨a18, b18, d18⟩ := H25.out.cells (.head _)
      go_wp2_with fail
      clear a17 b17 d17 a18 b18 d18
      refine (lsameR H25.out (.tail _ (.tail _ (.tail _ (.tail _ (.tail _ (.tail _ (.head _))))))) rfl (.tail _ (.tail _ (.tail _ (.tail _ (.tail _ (.tail _ (.head _))))))) rfl (v := true) (sameB_self _ _ _)).mono ?_
      rintro e w26 ⟨rfl, h⟩
      have H26 := Lib.hid h
      clear h
      go_wp2_with fail
      refine (sameBytesR H26.out (.tail _ (.head _)) (packS_len _ _ _) (.head _) (packS_len _ _ _) (v := true) (decide_eq_true rfl)).mono ?_
      rintro e w' ⟨rfl, rfl⟩
      obtain ⟨a19, b19, d19⟩ := H26.out.cells (.tail _ (.tail _ (.tail _ (.tail _ (.head _)))))
      obtain ⟨a20, b20, d20⟩ := H26.out.cells (.tail _ (.tail _ (.tail _ (.tail _ (.tail _ (.head _))))))
      go_wp2_with fail
      clear a19 b19 d19 a20 b20 d20
      refine (sameR H26.out (.tail _ (.tail _ (.tail _ (.tail _ (.head _))))) HLNm.out (.tail _ (.tail _ (.tail _ (.tail _ (.tail _ (.head _)))))) HLNm.out (v := true) (sameB_self _ _ _)).mono ?_
      rintro e w27 ⟨rfl, h⟩
      have H27 := Lib.hid h
      clear h
      go_wp2_with fail
      refine (works_any _).mono ?_
      rintro e w28 ⟨rfl, hb⟩
      have H28 := Lib.hid (MS.keep H27.out hb)
      clear hb
      go_wp2_with fail
      go_ret
      exact ⟨rfl, H28.out.below⟩
  | true =>
    have HT := Lib.hid ht
    clear ht
    refine (invR H17.out (r := r) (.tail _ (.tail _ (.head _))) HNM.out HM.out HD.out.1 HMM.out HT.out r (r * r) ⟨rfl, rfl⟩ rfl).mono ?_
    rintro e w18 ⟨A18, c18, rfl, h⟩
    have H18 := Lib.hid h
    clear h
    have L12 := Lib.hid (show MS _ _ _ ((w18.heap.size, #[.int .i64 (r : Int), .int .i64 (r : Int), .slice A18 (r * r) c18]) :: _) (w18.alloc (.cells #[.int .i64 (r : Int), .int .i64 (r : Int), .slice A18 (r * r) c18] 27)) from by have h := H18.out.put #[.int .i64 (r : Int), .int .i64 (r : Int), .slice A18 (r * r) c18]; (try simp only [World.size_alloc] at h); exact h)
    obtain ⟨a13, b13, d13⟩ := L12.out.cells (.tail _ (.tail _ (.tail _ (.tail _ (.head _)))))
    go_wp2_with fail
    clear a13 b13 d13
    have H19 := L12
    clear L12
    generalize (w18.alloc (.cells #[.int .i64 (r : Int), .int .i64 (r : Int), .slice A18 (r * r) c18] 27)) = w19 at *
    refine (plainR H19.out ).mono ?_
    rintro e w20 ⟨rfl, h⟩
    have H20 := Lib.hid h
    clear h
    go_wp2_with fail
    refine (rinvR H20.out (r := r) (.tail _ (.tail _ (.tail _ (.tail _ (.head _))))) HNM.out HM.out HD.out.1 HMM.out HT.out r (r * r) ⟨rfl, rfl⟩ rfl).mono ?_
    rintro e w21 ⟨A21, c21, rfl, h⟩
    have H21 := Lib.hid h
    clear h
    have L14 := Lib.hid (show MS _ _ _ ((w21.heap.size, #[.int .i64 (r : Int), .int .i64 (r : Int), .slice A21 (r * r) c21]) :: _) (w21.alloc (.cells #[.int .i64 (r : Int), .int .i64 (r : Int), .slice A21 (r * r) c21] 38)) from by have h := H21.out.putT #[.int .i64 (r : Int), .int .i64 (r : Int), .slice A21 (r * r) c21] 38; (try simp only [World.size_alloc] at h); exact h)
    obtain ⟨a15, b15, d15⟩ := L14.out.cells (.tail _ (.tail _ (.tail _ (.tail _ (.head _)))))
    go_wp2_with fail
    clear a15 b15 d15
    have H22 := L14
    clear L14
    generalize (w21.alloc (.cells #[.int .i64 (r : Int), .int .i64 (r : Int), .slice A21 (r * r) c21] 38)) = w22 at *
    cases hy : symB r (ent lm r) with
    | false =>
      have HY := Lib.hid hy
      clear hy
      refine (pack1R H22.out (r := r) (c := r) (.tail _ (.tail _ (.tail _ (.tail _ (.head _))))) HNM.out HM.out HD.out HMM.out (same_sq _ _ HY.out)).mono ?_
      rintro e w23 ⟨rfl, h⟩
      have H23 := Lib.hid h
      clear h
      obtain ⟨a16, b16, d16⟩ := H23.out.cells (.tail _ (.tail _ (.tail _ (.tail _ (.tail _ (.head _))))))
      go_wp2_with fail
      clear a16 b16 d16
      refine (plainR H23.out ).mono ?_
      rintro e w24 ⟨rfl, h⟩
      have H24 := Lib.hid h
      clear h
      go_wp2_with fail
      refine (rpack1R H24.out (r := r) (.tail _ (.tail _ (.tail _ (.tail _ (.tail _ (.head _)))))) HNM.out HM.out HD.out.1 HMM.out HY.out).mono ?_
      rintro e w25 ⟨rfl, h⟩
      have H25 := Lib.hid h
      clear h
      obtain ⟨a17, b17, d17⟩ := H25.out.cells (.tail _ (.head _))
      obtain ⟨a18, b18, d18⟩ := H25.out.cells (.head _)
      go_wp2_with fail
      clear a17 b17 d17 a18 b18 d18
      refine (lsameR H25.out (.tail _ (.head _)) (flat_len _ _ _) (.head _) (flat_len _ _ _) (v := true) (sameB_self _ _ _)).mono ?_
      rintro e w26 ⟨rfl, h⟩
      have H26 := Lib.hid h
      clear h
      go_wp2_with fail
      refine (sameBytesR H26.out (.tail _ (.tail _ (.tail _ (.tail _ (.tail _ (.tail _ (.head _))))))) rfl (.tail _ (.tail _ (.tail _ (.tail _ (.tail _ (.tail _ (.head _))))))) rfl (v := true) (decide_eq_true rfl)).mono ?_
      rintro e w' ⟨rfl, rfl⟩
      obtain ⟨a19, b19, d19⟩ := H26.out.cells (.tail _ (.tail _ (.tail _ (.tail _ (.head _)))))
      obtain ⟨a20, b20, d20⟩ := H26.out.cells (.tail _ (.tail _ (.tail _ (.tail _ (.tail _ (.head _))))))
      go_wp2_with fail
      clear a19 b19 d19 a20 b20 d20
      refine (sameR H26.out (.tail _ (.tail _ (.tail _ (.tail _ (.head _))))) HLNm.out (.tail _ (.tail _ (.tail _ (.tail _ (.tail _ (.head _)))))) HLNm.out (v := true) (sameB_self _ _ _)).mono ?_
      rintro e w27 ⟨rfl, h⟩
      have H27 := Lib.hid h
      clear h
      go_wp2_with fail
      refine (works_any _).mono ?_
      rintro e w28 ⟨rfl, hb⟩
      have H28 := Lib.hid (MS.keep H27.out hb)
      clear hb
      go_wp2_with fail
      go_ret
      exact ⟨rfl, H28.out.below⟩
    | true =>
      have HY := Lib.hid hy
      clear hy
      refine (packdR H22.out (r := r) (.tail _ (.tail _ (.tail _ (.tail _ (.head _))))) HNM.out HM.out HD.out.1 HMM.out ((symB_iff _ _).1 HY.out) _ rfl rfl).mono ?_
      rintro e w23 ⟨A23, c23, rfl, h⟩
      have H23 := Lib.hid h
      clear h
      obtain ⟨a16, b16, d16⟩ := H23.out.cells (.tail _ (.tail _ (.tail _ (.tail _ (.tail _ (.head _))))))
      go_wp2_with fail
      clear a16 b16 d16
      refine (plainR H23.out ).mono ?_
      rintro e w24 ⟨rfl, h⟩
      have H24 := Lib.hid h
      clear h
      go_wp2_with fail
      refine (rpackdR H24.out (r := r) (.tail _ (.tail _ (.tail _ (.tail _ (.tail _ (.tail _ (.head _))))))) HNM.out HM.out HD.out.1 HMM.out HY.out _ rfl rfl).mono ?_
      rintro e w25 ⟨A25, c25, rfl, h⟩
      have H25 := Lib.hid h
      clear h
      obtain ⟨a17, b17, d17⟩ := H25.out.cells (.tail _ (.head _))
      obtain ⟨a18, b18, d18⟩ := H25.out.cells (.head _)
      go_wp2_with fail
      clear a17 b17 d17 a18 b18 d18
      refine (lsameR H25.out (.tail _ (.tail _ (.tail _ (.head _)))) (flat_len _ _ _) (.tail _ (.tail _ (.head _))) (flat_len _ _ _) (v := true) (sameB_self _ _ _)).mono ?_
      rintro e w26 ⟨rfl, h⟩
      have H26 := Lib.hid h
      clear h
      go_wp2_with fail
      refine (sameBytesR H26.out (.tail _ (.head _)) (packS_len _ _ _) (.head _) (packS_len _ _ _) (v := true) (decide_eq_true rfl)).mono ?_
      rintro e w' ⟨rfl, rfl⟩
      obtain ⟨a19, b19, d19⟩ := H26.out.cells (.tail _ (.tail _ (.tail _ (.tail _ (.head _)))))
      obtain ⟨a20, b20, d20⟩ := H26.out.cells (.tail _ (.tail _ (.tail _ (.tail _ (.tail _ (.head _))))))
      go_wp2_with fail
      clear a19 b19 d19 a20 b20 d20
      refine (sameR H26.out (.tail _ (.tail _ (.tail _ (.tail _ (.tail _ (.tail _ (.head _))))))) HLNm.out (.tail _ (.tail _ (.tail _ (.tail _ (.tail _ (.tail _ (.tail _ (.head _)))))))) HLNm.out (v := true) (sameB_self _ _ _)).mono ?_
      rintro e w27 ⟨rfl, h⟩
      have H27 := Lib.hid h
      clear h
      go_wp2_with fail
      refine (works_any _).mono ?_
      rintro e w28 ⟨rfl, hb⟩
      have H28 := Lib.hid (MS.keep H27.out hb)
      clear hb
      go_wp2_with fail
      go_ret
      exact ⟨rfl, H28.out.below⟩
end Go.Proofs.Ythdapoipfnnaeaa.MxW
/- The law MatrixOne: its walk. -/
namespace Go.Proofs.Ythdapoipfnnaeaa.MxW
open Go.RowKit Go.Shelf Mem Gf FdW Mx Rng
open PlW (In)
set_option linter.unusedVariables false
set_option linter.unusedSectionVars false
attribute [local go_sem] Oper.semAt_some wide_fn
set_option maxRecDepth 100000 in
set_option maxHeartbeats 4000000 in
theorem one_far (w : World)  (Rm Cm : Int) (M : Option Addr) (lm : List UInt8) (nm cm : Nat) (hlm : lm.length = nm) (hM : Bytes w w.heap.size M lm) (hcm : lm.length ≤ cm) (hs : smallB 12 Rm Cm nm = false) :
    Calls Try.prog 8 #[.agg #[.int .i64 Rm, .int .i64 Cm, .slice M nm cm]] w fun e w' => e = .returned (.bool true) ∧ Below w.heap.size w w' := by
  have H0 := Lib.hid ((MS.start w).arg hM hcm)
  have HLNm := Lib.hid hlm
  have HSm := Lib.hid hs
  clear hM hcm hlm hs
  go_enter Try.func8, Try.ntmps8
  have L1 := Lib.hid (show MS _ _ _ ((w.heap.size, #[.int .i64 Rm, .int .i64 Cm, .slice M nm cm]) :: _) (w.alloc (.cells #[.int .i64 Rm, .int .i64 Cm, .slice M nm cm] 27)) from by have h := H0.out.put #[.int .i64 Rm, .int .i64 Cm, .slice M nm cm]; (try simp only [World.size_alloc] at h); exact h)
  obtain ⟨a2, b2, d2⟩ := L1.out.cells (.head _)
  go_wp2_with fail
  clear a2 b2 d2
  have H1 := L1
  clear L1
  generalize (w.alloc (.cells #[.int .i64 Rm, .int .i64 Cm, .slice M nm cm] 27)) = w1 at *
  refine (smallR H1.out 12 (by decide) (v := false) HSm.out).mono ?_
  rintro e w2 ⟨rfl, h⟩
  have H2 := Lib.hid h
  clear h
  go_wp2_with fail
  refine (works_any _).mono ?_
  rintro e w3 ⟨rfl, hb⟩
  have H3 := Lib.hid (MS.keep H2.out hb)
  clear hb
  go_wp2_with fail
  go_ret
  exact ⟨rfl, H3.out.below⟩
theorem one_law (w : World) (Rm Cm : Int) (M : Option Addr) (lm : List UInt8) (cm : Nat) (gm : Open.MtOk w Rm Cm M lm cm) :
    Calls Try.prog 8 #[.agg #[.int .i64 Rm, .int .i64 Cm, .slice M lm.length cm]] w fun e w' => e = .returned (.bool true) ∧ Below w.heap.size w w' := by
  cases hs : smallB 12 Rm Cm lm.length with
  | false => exact one_far w Rm Cm M lm _ cm rfl gm.row gm.le hs
  | true =>
  cases hr : rightB Rm Cm lm.length with
  | false => exact one_bad w Rm Cm M lm _ cm rfl gm.row gm.le hs hr
  | true =>
    have hk := of_decide_eq_true hs
    obtain ⟨r, c, h1, h2, _, _, e⟩ := right_nat hr
    by_cases hne : r = c
    · subst hne
      exact one_sq w Rm Cm M lm _ cm rfl gm.row gm.le hs r ⟨h1, h2⟩ (by omega) e
    · exact one_rect w Rm Cm M lm _ cm rfl gm.row gm.le hs r c ⟨h1, h2⟩ (by omega) e hne
end Go.Proofs.Ythdapoipfnnaeaa.MxW
/- The law MatrixOne of chapter 05 holds for every input. It has no conditions. -/
namespace Go.Proofs.Ythdapoipfnnaeaa.lawMatrixOne
open Go.ChangeShapes Go.WideShapes Go.ChangeAt Go.RowKit
open Go.ChangeMaps (open_string shut_string)

theorem own : ownKnob Try.prog.godebug = none := by kernel_rfl
theorem laidOut : laidOutB Try.prog = true := by kernel_rfl

set_option maxRecDepth 100000 in
theorem lifted (os : Os) (started : os.Started) (H : Type) (enc : TypeId × Value → H) :
    ReturnsInHanded {} Try.checked os 8 .any (Rows.matrixOneSpec.pre6 enc Try.prog Try.f8 Rows.matrixOneRow.domain false) (Rows.matrixOneSpec.post enc Try.prog Try.f8 false true false false) := by
  refine returnsInHanded_of_change (C := Try.checked) own started (by kernel_rfl) Try.func8
    (ChangeSpec.witness6 (enc := enc) (C := Try.checked) false ⟨#[], #[.agg #[.int .i64 0, .int .i64 0, .slice none 0 0]], []⟩ 8 (by kernel_rfl) (by kernel_rfl) (by kernel_rfl) (by kernel_rfl)) ?_
  intro W base args ds gs before hval0 hW hcnd _
  have hval : ∀ (j : Nat) t v, Try.f8.params[j]? = some t → args[j]? = some v → Value.okWide Try.prog W .any base t v := hval0
  have hW' := hW
  obtain ⟨p, q, hA0, hV, rfl, hfz, hnd⟩ := hW
  have hA : DataW.TrodAll enc Try.prog W 0 (fun _ => true) true Try.f8.params.toList args.toList ds p := hA0
  rw [Try.params8] at hA hval
  obtain ⟨v0, vs0, d0, ds0, p0, q0, hargs, rfl, rfl, h0, r0⟩ := trodAll_cons hA
  obtain ⟨rfl, rfl, rfl⟩ := trodAll_nil r0
  obtain rfl : args = #[v0] := by cases args; simp_all
  obtain ⟨rfl, rfl⟩ := trodVars_none hV
  have k0 := h0
  have lt0 : ∀ x ∈ p0, x.block < W.heap.size := by obtain ⟨m, hm⟩ := k0; exact DataW.trod_lt m _ _ _ hm
  obtain ⟨R0, C0, A0, l0, c0, rfl, hg0⟩ := Open.open_matrix Try.underlying27 (by kernel_rfl) (by kernel_rfl) Try.underlying3 Try.underlying3 Try.underlying22 Try.underlying5 (by kernel_rfl) (hval 0 27 v0 rfl rfl) h0
  clear hA0 hval0
  refine (MxW.one_law W R0 C0 A0 l0 c0 hg0).mono fun e W' ⟨he, bel⟩ => ?_
  subst he
  exact ⟨_, rfl, _, _, _, [], _, [], hW', trodAll_mk1 (shut_bool Try.underlying4 _), (trodAll_cons_mk (Below.trod laidOut (by kernel_rfl) (of_decide_eq_true (by kernel_rfl)) k0 bel lt0) trodAll_mk0), rfl, bel.frame _, fun h => by cases h⟩

theorem over : Rows.matrixOneRow.holds Try.pinned (OpenSpec.ofChange Rows.matrixOneSpec) :=
  OpenClaim.holds_of_wide 8 Try.f8 rfl rfl rfl rfl rfl rfl rfl ⟨rfl, rfl, rfl, rfl, rfl⟩ rfl rfl rfl rfl rfl (by kernel_rfl) Try.func8 (by kernel_rfl)
    (of_decide_eq_true (by kernel_rfl)) (by unfold Func.isWrapper; rw [if_neg (by decide +kernel)]; exact ⟨rfl, rfl⟩)
    (fun os started H enc _ => lifted os started H enc)

theorem proved : Rows.MatrixOneSaid := over
#print axioms proved
end Go.Proofs.Ythdapoipfnnaeaa.lawMatrixOne
