/- The examples of chapter 05 hold. -/
import Derived.Test.YthdapoipfnnaeaaMxSt
namespace Go.Proofs.Ythdapoipfnnaeaa.MxW
open Go.RowKit Go.Shelf Mem Gf FdW Mx Rng
open PlW (In)
set_option linter.unusedVariables false
set_option linter.unusedSectionVars false
attribute [local go_sem] Oper.semAt_some wide_fn
set_option maxRecDepth 100000 in
set_option maxHeartbeats 4000000 in
theorem works_any (w : World) : Calls Try.prog 11 #[] w fun e w' => e = .returned (.bool true) ∧ Below w.heap.size w w' := by
  have H0 := Lib.hid (MS.start w)
  go_enter Try.func11, Try.ntmps11
  go_wp2_with fail
  refine (newR H0.out).mono ?_
  rintro e w1 ⟨rfl, h⟩
  have H1 := Lib.hid h
  clear h
  have hb1 := Mx_build4 w1 1 2 0 1
  have L1 := Lib.hid (show MS _ _ (⟨some ⟨w1.heap.size, 0, none⟩, [1, 2, 0, 1], 4⟩ :: _) _ (w1.alloc (.cells #[.int .u8 1, .int .u8 2, .int .u8 0, .int .u8 1] 5)) from by have h := H1.out.lit #[.int .u8 1, .int .u8 2, .int .u8 0, .int .u8 1] [1, 2, 0, 1] (by simp [maxLen]) rfl 4 (by decide); (try simp only [World.size_alloc] at h); exact h)
  have hb2 := Mx_build2 (w1.alloc (.cells #[.int .u8 1, .int .u8 2, .int .u8 0, .int .u8 1] 5)) 3 4
  have L2 := Lib.hid (show MS _ _ (⟨some ⟨w1.heap.size + 1, 0, none⟩, [3, 4], 2⟩ :: _) _ ((w1.alloc (.cells #[.int .u8 1, .int .u8 2, .int .u8 0, .int .u8 1] 5)).alloc (.cells #[.int .u8 3, .int .u8 4] 5)) from by have h := L1.out.lit #[.int .u8 3, .int .u8 4] [3, 4] (by simp [maxLen]) rfl 2 (by decide); (try simp only [World.size_alloc] at h); exact h)
  go_wp2_with fail
  clear hb1 hb2
  have H2 := L2
  clear L1 L2
  generalize ((w1.alloc (.cells #[.int .u8 1, .int .u8 2, .int .u8 0, .int .u8 1] 5)).alloc (.cells #[.int .u8 3, .int .u8 4] 5)) = w2 at *
  refine (mulR H2.out (r := 2) (c := 2) (d := 1) (.tail _ (.head _)) (.head _) rfl rfl ⟨rfl, rfl, rfl, rfl⟩ (by decide) ((flat_ent rfl).symm) ((flat_ent rfl).symm) 2 1 2 ⟨rfl, rfl, rfl⟩ (l := [11, 4]) (by decide +kernel)).mono ?_
  rintro e w3 ⟨A3, c3, rfl, h⟩
  have H3 := Lib.hid h
  clear h
  have L3 := Lib.hid (show MS _ _ _ ((w3.heap.size, #[.int .i64 2, .int .i64 1, .slice A3 2 c3]) :: _) (w3.alloc (.cells #[.int .i64 2, .int .i64 1, .slice A3 2 c3] 27)) from by have h := H3.out.put #[.int .i64 2, .int .i64 1, .slice A3 2 c3]; (try simp only [World.size_alloc] at h); exact h)
  have hb4 := Mx_build4 (w3.alloc (.cells #[.int .i64 2, .int .i64 1, .slice A3 2 c3] 27)) 1 1 1 1
  have L4 := Lib.hid (show MS _ _ (⟨some ⟨w3.heap.size + 1, 0, none⟩, [1, 1, 1, 1], 4⟩ :: _) _ ((w3.alloc (.cells #[.int .i64 2, .int .i64 1, .slice A3 2 c3] 27)).alloc (.cells #[.int .u8 1, .int .u8 1, .int .u8 1, .int .u8 1] 5)) from by have h := L3.out.lit #[.int .u8 1, .int .u8 1, .int .u8 1, .int .u8 1] [1, 1, 1, 1] (by simp [maxLen]) rfl 4 (by decide); (try simp only [World.size_alloc] at h); exact h)
  go_wp2_with fail
  clear hb4
  have H4 := L4
  clear L3 L4
  generalize ((w3.alloc (.cells #[.int .i64 2, .int .i64 1, .slice A3 2 c3] 27)).alloc (.cells #[.int .u8 1, .int .u8 1, .int .u8 1, .int .u8 1] 5)) = w4 at *
  refine (rankR H4.out (r := 2) (c := 2) (.head _) rfl ⟨rfl, rfl⟩ (by decide) ((flat_ent rfl).symm) 1 (by decide +kernel)).mono ?_
  rintro e w5 ⟨rfl, h⟩
  have H5 := Lib.hid h
  clear h
  have hb5 := Mx_build4 w5 1 1 1 1
  have L5 := Lib.hid (show MS _ _ (⟨some ⟨w5.heap.size, 0, none⟩, [1, 1, 1, 1], 4⟩ :: _) _ (w5.alloc (.cells #[.int .u8 1, .int .u8 1, .int .u8 1, .int .u8 1] 5)) from by have h := H5.out.lit #[.int .u8 1, .int .u8 1, .int .u8 1, .int .u8 1] [1, 1, 1, 1] (by simp [maxLen]) rfl 4 (by decide); (try simp only [World.size_alloc] at h); exact h)
  go_wp2_with fail
  clear hb5
  have H6 := L5
  clear L5
  generalize (w5.alloc (.cells #[.int .u8 1, .int .u8 1, .int .u8 1, .int .u8 1] 5)) = w6 at *
  refine (inv1R H6.out (r := 2) (.head _) rfl ⟨rfl, rfl⟩ (by decide) ((flat_ent rfl).symm) (by decide +kernel)).mono ?_
  rintro e w7 ⟨rfl, h⟩
  have H7 := Lib.hid h
  clear h
  have L6 := Lib.hid (show MS _ _ _ ((w7.heap.size, #[.int .i64 0, .int .i64 0, .slice none 0 0]) :: _) (w7.alloc (.cells #[.int .i64 0, .int .i64 0, .slice none 0 0] 27)) from by have h := H7.out.put #[.int .i64 0, .int .i64 0, .slice none 0 0]; (try simp only [World.size_alloc] at h); exact h)
  have hb7 := Mx_build4 (w7.alloc (.cells #[.int .i64 0, .int .i64 0, .slice none 0 0] 27)) 1 1 0 1
  have L7 := Lib.hid (show MS _ _ (⟨some ⟨w7.heap.size + 1, 0, none⟩, [1, 1, 0, 1], 4⟩ :: _) _ ((w7.alloc (.cells #[.int .i64 0, .int .i64 0, .slice none 0 0] 27)).alloc (.cells #[.int .u8 1, .int .u8 1, .int .u8 0, .int .u8 1] 5)) from by have h := L6.out.lit #[.int .u8 1, .int .u8 1, .int .u8 0, .int .u8 1] [1, 1, 0, 1] (by simp [maxLen]) rfl 4 (by decide); (try simp only [World.size_alloc] at h); exact h)
  go_wp2_with fail
  clear hb7
  have H8 := L7
  clear L6 L7
  generalize ((w7.alloc (.cells #[.int .i64 0, .int .i64 0, .slice none 0 0] 27)).alloc (.cells #[.int .u8 1, .int .u8 1, .int .u8 0, .int .u8 1] 5)) = w8 at *
  refine (invR H8.out (r := 2) (.head _) rfl ⟨rfl, rfl⟩ (by decide) ((flat_ent rfl).symm) (by decide +kernel) 2 4 ⟨rfl, rfl⟩ (l := [1, 1, 0, 1]) (by decide +kernel)).mono ?_
  rintro e w9 ⟨A9, c9, rfl, h⟩
  have H9 := Lib.hid h
  clear h
  have L8 := Lib.hid (show MS _ _ _ ((w9.heap.size, #[.int .i64 2, .int .i64 2, .slice A9 4 c9]) :: _) (w9.alloc (.cells #[.int .i64 2, .int .i64 2, .slice A9 4 c9] 27)) from by have h := H9.out.put #[.int .i64 2, .int .i64 2, .slice A9 4 c9]; (try simp only [World.size_alloc] at h); exact h)
  have hb9 := Mx_build3 (w9.alloc (.cells #[.int .i64 2, .int .i64 2, .slice A9 4 c9] 27)) 1 2 3
  have L9 := Lib.hid (show MS _ _ (⟨some ⟨w9.heap.size + 1, 0, none⟩, [1, 2, 3], 3⟩ :: _) _ ((w9.alloc (.cells #[.int .i64 2, .int .i64 2, .slice A9 4 c9] 27)).alloc (.cells #[.int .u8 1, .int .u8 2, .int .u8 3] 5)) from by have h := L8.out.lit #[.int .u8 1, .int .u8 2, .int .u8 3] [1, 2, 3] (by simp [maxLen]) rfl 3 (by decide); (try simp only [World.size_alloc] at h); exact h)
  go_wp2_with fail
  clear hb9
  have H10 := L9
  clear L8 L9
  generalize ((w9.alloc (.cells #[.int .i64 2, .int .i64 2, .slice A9 4 c9] 27)).alloc (.cells #[.int .u8 1, .int .u8 2, .int .u8 3] 5)) = w10 at *
  refine (symR H10.out (r := 2) (.head _) (by simp [maxLen]) rfl rfl (by decide) rfl 4 rfl (l := [1, 2, 2, 3]) (by decide +kernel)).mono ?_
  rintro e w11 ⟨A11, c11, rfl, h⟩
  have H11 := Lib.hid h
  clear h
  have L10 := Lib.hid (show MS _ _ _ ((w11.heap.size, #[.int .i64 2, .int .i64 2, .slice A11 4 c11]) :: _) (w11.alloc (.cells #[.int .i64 2, .int .i64 2, .slice A11 4 c11] 27)) from by have h := H11.out.put #[.int .i64 2, .int .i64 2, .slice A11 4 c11]; (try simp only [World.size_alloc] at h); exact h)
  have hb11 := Mx_build2 (w11.alloc (.cells #[.int .i64 2, .int .i64 2, .slice A11 4 c11] 27)) 1 1
  have L11 := Lib.hid (show MS _ _ (⟨some ⟨w11.heap.size + 1, 0, none⟩, [1, 1], 2⟩ :: _) _ ((w11.alloc (.cells #[.int .i64 2, .int .i64 2, .slice A11 4 c11] 27)).alloc (.cells #[.int .u8 1, .int .u8 1] 5)) from by have h := L10.out.lit #[.int .u8 1, .int .u8 1] [1, 1] (by simp [maxLen]) rfl 2 (by decide); (try simp only [World.size_alloc] at h); exact h)
  have L12 := Lib.hid (show MS _ _ _ ((w11.heap.size + 1 + 1, #[.int .i64 2, .int .i64 1, .slice (some ⟨w11.heap.size + 1, 0, none⟩) 2 2]) :: _) (((w11.alloc (.cells #[.int .i64 2, .int .i64 2, .slice A11 4 c11] 27)).alloc (.cells #[.int .u8 1, .int .u8 1] 5)).alloc (.cells #[.int .i64 2, .int .i64 1, .slice (some ⟨w11.heap.size + 1, 0, none⟩) 2 2] 27)) from by have h := L11.out.put #[.int .i64 2, .int .i64 1, .slice (some ⟨w11.heap.size + 1, 0, none⟩) 2 2]; (try simp only [World.size_alloc] at h); exact h)
  obtain ⟨a13, b13, d13⟩ := L12.out.cells (.head _)
  have hb14 := Mx_build2 (((w11.alloc (.cells #[.int .i64 2, .int .i64 2, .slice A11 4 c11] 27)).alloc (.cells #[.int .u8 1, .int .u8 1] 5)).alloc (.cells #[.int .i64 2, .int .i64 1, .slice (some ⟨w11.heap.size + 1, 0, none⟩) 2 2] 27)) 5 5
  have L14 := Lib.hid (show MS _ _ (⟨some ⟨w11.heap.size + 1 + 1 + 1, 0, none⟩, [5, 5], 2⟩ :: _) _ ((((w11.alloc (.cells #[.int .i64 2, .int .i64 2, .slice A11 4 c11] 27)).alloc (.cells #[.int .u8 1, .int .u8 1] 5)).alloc (.cells #[.int .i64 2, .int .i64 1, .slice (some ⟨w11.heap.size + 1, 0, none⟩) 2 2] 27)).alloc (.cells #[.int .u8 5, .int .u8 5] 5)) from by have h := L12.out.lit #[.int .u8 5, .int .u8 5] [5, 5] (by simp [maxLen]) rfl 2 (by decide); (try simp only [World.size_alloc] at h); exact h)
  go_wp2_with fail
  clear hb11 a13 b13 d13 hb14
  have H12 := L14
  clear L10 L11 L12 L14
  generalize ((((w11.alloc (.cells #[.int .i64 2, .int .i64 2, .slice A11 4 c11] 27)).alloc (.cells #[.int .u8 1, .int .u8 1] 5)).alloc (.cells #[.int .i64 2, .int .i64 1, .slice (some ⟨w11.heap.size + 1, 0, none⟩) 2 2] 27)).alloc (.cells #[.int .u8 5, .int .u8 5] 5)) = w12 at *
  refine (solveR H12.out (r := 2) (c := 1) (d := 1) (.tail _ (.head _)) (.head _) rfl rfl ⟨rfl, rfl, rfl, rfl⟩ (by decide) ((flat_ent rfl).symm) ((flat_ent rfl).symm) (by decide +kernel) 1 1 1 ⟨rfl, rfl, rfl⟩ (l := [5]) (by decide +kernel)).mono ?_
  rintro e w13 ⟨A13, c13, rfl, h⟩
  have H13 := Lib.hid h
  clear h
  have L15 := Lib.hid (show MS _ _ _ ((w13.heap.size, #[.int .i64 1, .int .i64 1, .slice A13 1 c13]) :: _) (w13.alloc (.cells #[.int .i64 1, .int .i64 1, .slice A13 1 c13] 27)) from by have h := H13.out.put #[.int .i64 1, .int .i64 1, .slice A13 1 c13]; (try simp only [World.size_alloc] at h); exact h)
  obtain ⟨a16, b16, d16⟩ := L15.out.cells (.tail _ (.head _))
  have hb17 := Mx_build2 (w13.alloc (.cells #[.int .i64 1, .int .i64 1, .slice A13 1 c13] 27)) 5 6
  have L17 := Lib.hid (show MS _ _ (⟨some ⟨w13.heap.size + 1, 0, none⟩, [5, 6], 2⟩ :: _) _ ((w13.alloc (.cells #[.int .i64 1, .int .i64 1, .slice A13 1 c13] 27)).alloc (.cells #[.int .u8 5, .int .u8 6] 5)) from by have h := L15.out.lit #[.int .u8 5, .int .u8 6] [5, 6] (by simp [maxLen]) rfl 2 (by decide); (try simp only [World.size_alloc] at h); exact h)
  go_wp2_with fail
  clear a16 b16 d16 hb17
  have H14 := L17
  clear L15 L17
  generalize ((w13.alloc (.cells #[.int .i64 1, .int .i64 1, .slice A13 1 c13] 27)).alloc (.cells #[.int .u8 5, .int .u8 6] 5)) = w14 at *
  refine (solve1R H14.out (r := 2) (c := 1) (d := 1) (.tail _ (.tail _ (.tail _ (.head _)))) (.head _) rfl rfl ⟨rfl, rfl, rfl, rfl⟩ (by decide) ((flat_ent rfl).symm) ((flat_ent rfl).symm) (by decide +kernel)).mono ?_
  rintro e w15 ⟨rfl, h⟩
  have H15 := Lib.hid h
  clear h
  have L18 := Lib.hid (show MS _ _ _ ((w15.heap.size, #[.int .i64 0, .int .i64 0, .slice none 0 0]) :: _) (w15.alloc (.cells #[.int .i64 0, .int .i64 0, .slice none 0 0] 27)) from by have h := H15.out.put #[.int .i64 0, .int .i64 0, .slice none 0 0]; (try simp only [World.size_alloc] at h); exact h)
  obtain ⟨a19, b19, d19⟩ := L18.out.cells (.tail _ (.tail _ (.tail _ (.tail _ (.tail _ (.tail _ (.head _)))))))
  have hb20 := Mx_build2 (w15.alloc (.cells #[.int .i64 0, .int .i64 0, .slice none 0 0] 27)) 11 4
  have L20 := Lib.hid (show MS _ _ (⟨some ⟨w15.heap.size + 1, 0, none⟩, [11, 4], 2⟩ :: _) _ ((w15.alloc (.cells #[.int .i64 0, .int .i64 0, .slice none 0 0] 27)).alloc (.cells #[.int .u8 11, .int .u8 4] 5)) from by have h := L18.out.lit #[.int .u8 11, .int .u8 4] [11, 4] (by simp [maxLen]) rfl 2 (by decide); (try simp only [World.size_alloc] at h); exact h)
  go_wp2_with fail
  clear a19 b19 d19 hb20
  have H16 := L20
  clear L18 L20
  generalize ((w15.alloc (.cells #[.int .i64 0, .int .i64 0, .slice none 0 0] 27)).alloc (.cells #[.int .u8 11, .int .u8 4] 5)) = w16 at *
  refine (sameBytesR H16.out (.tail _ (.tail _ (.tail _ (.tail _ (.tail _ (.tail _ (.tail _ (.tail _ (.tail _ (.tail _ (.tail _ (.head _)))))))))))) rfl (.head _) rfl (v := true) (by decide)).mono ?_
  rintro e w' ⟨rfl, rfl⟩
  obtain ⟨a21, b21, d21⟩ := H16.out.cells (.tail _ (.tail _ (.tail _ (.tail _ (.head _)))))
  have hb22 := Mx_build4 w16 1 1 0 1
  have L22 := Lib.hid (show MS _ _ (⟨some ⟨w16.heap.size, 0, none⟩, [1, 1, 0, 1], 4⟩ :: _) _ (w16.alloc (.cells #[.int .u8 1, .int .u8 1, .int .u8 0, .int .u8 1] 5)) from by have h := H16.out.lit #[.int .u8 1, .int .u8 1, .int .u8 0, .int .u8 1] [1, 1, 0, 1] (by simp [maxLen]) rfl 4 (by decide); (try simp only [World.size_alloc] at h); exact h)
  go_wp2_with fail
  clear a21 b21 d21 hb22
  have H17 := L22
  clear L22
  generalize (w16.alloc (.cells #[.int .u8 1, .int .u8 1, .int .u8 0, .int .u8 1] 5)) = w17 at *
  refine (sameBytesR H17.out (.tail _ (.tail _ (.tail _ (.tail _ (.tail _ (.tail _ (.tail _ (.tail _ (.head _))))))))) rfl (.head _) rfl (v := true) (by decide)).mono ?_
  rintro e w' ⟨rfl, rfl⟩
  have hb23 := Mx_build2 w17 1 2
  have L23 := Lib.hid (show MS _ _ (⟨some ⟨w17.heap.size, 0, none⟩, [1, 2], 2⟩ :: _) _ (w17.alloc (.cells #[.int .u8 1, .int .u8 2] 5)) from by have h := H17.out.lit #[.int .u8 1, .int .u8 2] [1, 2] (by simp [maxLen]) rfl 2 (by decide); (try simp only [World.size_alloc] at h); exact h)
  go_wp2_with fail
  clear hb23
  have H18 := L23
  clear L23
  generalize (w17.alloc (.cells #[.int .u8 1, .int .u8 2] 5)) = w18 at *
  refine (powR H18.out (c := 3) (.head _) rfl rfl (by decide) 2 6 ⟨rfl, rfl⟩ (l := [1, 1, 1, 1, 2, 4]) (by decide +kernel)).mono ?_
  rintro e w19 ⟨A19, c19, rfl, h⟩
  have H19 := Lib.hid h
  clear h
  have hfd := fun W => Mx_field2 W 2 3 A19 6 c19
  have hb24 := Mx_build6 w19 1 1 1 1 2 4
  have L24 := Lib.hid (show MS _ _ (⟨some ⟨w19.heap.size, 0, none⟩, [1, 1, 1, 1, 2, 4], 6⟩ :: _) _ (w19.alloc (.cells #[.int .u8 1, .int .u8 1, .int .u8 1, .int .u8 1, .int .u8 2, .int .u8 4] 5)) from by have h := H19.out.lit #[.int .u8 1, .int .u8 1, .int .u8 1, .int .u8 1, .int .u8 2, .int .u8 4] [1, 1, 1, 1, 2, 4] (by simp [maxLen]) rfl 6 (by decide); (try simp only [World.size_alloc] at h); exact h)
  go_wp2_with fail
  clear hb24
  have H20 := L24
  clear L24
  generalize (w19.alloc (.cells #[.int .u8 1, .int .u8 1, .int .u8 1, .int .u8 1, .int .u8 2, .int .u8 4] 5)) = w20 at *
  refine (sameBytesR H20.out (.tail _ (.head _)) rfl (.head _) rfl (v := true) (by decide)).mono ?_
  rintro e w' ⟨rfl, rfl⟩
  clear hfd
  obtain ⟨a25, b25, d25⟩ := H20.out.cells (.tail _ (.tail _ (.tail _ (.head _))))
  have hb26 := Mx_build4 w20 1 2 2 3
  have L26 := Lib.hid (show MS _ _ (⟨some ⟨w20.heap.size, 0, none⟩, [1, 2, 2, 3], 4⟩ :: _) _ (w20.alloc (.cells #[.int .u8 1, .int .u8 2, .int .u8 2, .int .u8 3] 5)) from by have h := H20.out.lit #[.int .u8 1, .int .u8 2, .int .u8 2, .int .u8 3] [1, 2, 2, 3] (by simp [maxLen]) rfl 4 (by decide); (try simp only [World.size_alloc] at h); exact h)
  go_wp2_with fail
  clear a25 b25 d25 hb26
  have H21 := L26
  clear L26
  generalize (w20.alloc (.cells #[.int .u8 1, .int .u8 2, .int .u8 2, .int .u8 3] 5)) = w21 at *
  refine (sameBytesR H21.out (.tail _ (.tail _ (.tail _ (.tail _ (.tail _ (.tail _ (.tail _ (.tail _ (.tail _ (.tail _ (.head _))))))))))) rfl (.head _) rfl (v := true) (by decide)).mono ?_
  rintro e w' ⟨rfl, rfl⟩
  obtain ⟨a27, b27, d27⟩ := H21.out.cells (.tail _ (.head _))
  have hb28 := Mx_build1 w21 5
  have L28 := Lib.hid (show MS _ _ (⟨some ⟨w21.heap.size, 0, none⟩, [5], 1⟩ :: _) _ (w21.alloc (.cells #[.int .u8 5] 5)) from by have h := H21.out.lit #[.int .u8 5] [5] (by simp [maxLen]) rfl 1 (by decide); (try simp only [World.size_alloc] at h); exact h)
  go_wp2_with fail
  clear a27 b27 d27 hb28
  have H22 := L28
  clear L28
  generalize (w21.alloc (.cells #[.int .u8 5] 5)) = w22 at *
  refine (sameBytesR H22.out (.tail _ (.tail _ (.tail _ (.tail _ (.tail _ (.tail _ (.tail _ (.tail _ (.head _))))))))) rfl (.head _) rfl (v := true) (by decide)).mono ?_
  rintro e w' ⟨rfl, rfl⟩
  go_wp2_with fail
  go_ret
  exact ⟨rfl, H22.out.below⟩
end Go.Proofs.Ythdapoipfnnaeaa.MxW
