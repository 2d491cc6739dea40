/- The law PointsFirst: its walk. -/
import Derived.Test.YtaeoocpiggebmaaPtLawGroup
namespace Go.Proofs.Ytaeoocpiggebmaa.PtW
open Go.RowKit Go.Shelf Mem Gf FdW Rng
set_option linter.unusedVariables false

theorem ofE_ok {N : Nat} (h : N ≤ 255) : ofE (N : Int) = 0 := if_pos (by omega)
theorem ofL_ok {N : Nat} (h : N ≤ 255) : ofL (N : Int) = pts N := if_pos (by omega)
theorem ofE_no {n : Int} (h : ¬ (0 ≤ n ∧ n ≤ 255)) : ofE n = 2 := if_neg h
theorem sprE_ok {n al : Int} (h : SprOk n al) : sprE n al = 0 := if_pos h
theorem sprL_ok {N : Nat} {al : Int} (h : SprOk (N : Int) al) : sprL (N : Int) al = pts N := if_pos h
theorem sprE_no {n al : Int} (h : ¬ SprOk n al) : sprE n al = 2 := if_neg h
theorem cosE_ok {r g : Int} (h : CosOk r g) : cosE r g = 0 := if_pos h
theorem cosE_no {r g : Int} (h : ¬ CosOk r g) : cosE r g = 2 := if_neg h
theorem cosR_ok0 {R G : Nat} (h : CosOk (R : Int) (G : Int)) : cosR (R : Int) (G : Int) = cosL (255 / (R + 1)) (R + 1) G := if_pos h
theorem cosR_ok1 {R G : Nat} (h : CosOk (R : Int) ((G : Int) + 1)) : cosR (R : Int) ((G : Int) + 1) = cosL (255 / (R + 1)) (R + 1) (G + 1) := if_pos h
theorem pts_take {N M : Nat} (h : N ≤ M) : (pts M).take N = pts N := by
  rw [pts, ← List.map_take, List.take_range, Nat.min_eq_left h]; rfl
theorem cosL_take (s R1 k : Nat) : (cosL s R1 (k + 1)).take (R1 * k) = cosL s R1 k := by
  rw [cosL, List.take_append_of_le_length (by rw [cosL_len]; exact Nat.le_refl _), List.take_of_length_le (by rw [cosL_len]; exact Nat.le_refl _)]
theorem cos_max {R G : Nat} (h : CosOk (R : Int) ((G : Int) + 1)) : (R + 1) * (G + 1) ≤ 255 := by
  obtain ⟨h1, h2, h3, h4, h5⟩ := h
  have h6 : G + 1 ≤ 255 / (R + 1) := by
    have : ((255 / (R + 1) : Nat) : Int) = 255 / ((R : Int) + 1) := by simp
    omega
  exact Nat.le_trans (Nat.mul_le_mul_left (R + 1) h6) (Nat.mul_div_le 255 (R + 1))
theorem cos_small {R G : Nat} (h : CosOk (R : Int) ((G : Int) + 1)) : G ≤ 255 := by
  have h1 := cos_max h
  have h2 : 1 * (G + 1) ≤ (R + 1) * (G + 1) := Nat.mul_le_mul_right _ (by omega)
  omega
theorem cos_less {R G : Nat} (h : CosOk (R : Int) ((G : Int) + 1)) : CosOk (R : Int) (G : Int) := ⟨h.1, h.2.1, h.2.2.1, by omega, by have := h.2.2.2.2; omega⟩
set_option maxRecDepth 100000 in
set_option maxHeartbeats 8000000 in
theorem first_00000 (w : World) (n : Int) (hn : ¬ (0 ≤ n ∧ n ≤ 255)) (m : Int) (hm : ¬ (0 ≤ m ∧ m ≤ 255)) (al : Int) (hs : ¬ SprOk n al) (r gs : Int) (hc : ¬ CosOk r gs) : Calls Try.prog 5 #[.int .i64 n, .int .i64 m, .int .i64 al, .int .i64 r, .int .i64 gs] w fun e w' => e = .returned (.bool true) ∧ Below w.heap.size w w' := by
  have HN := Lib.hid hn
  have HM := Lib.hid hm
  have HSP := Lib.hid hs
  have HCS := Lib.hid hc
  clear hn hm hs hc
  go_enter Try.func5, Try.ntmps5
  go_wp2_with fail
  refine (newT _).mono ?_
  rintro e w1 ⟨rfl, h⟩
  have H1 := Lib.hid h
  clear h
  go_wp2_with fail
  refine (ofT H1.out 2 n).mono ?_
  rintro e w2 ⟨A2, c2, rfl, h⟩
  rw [ofE_no HN.out]
  have H2 := Lib.hid h
  clear h
  go_wp2_with fail
  refine (ofT H2.out 3 m).mono ?_
  rintro e w3 ⟨A3, c3, rfl, h⟩
  rw [ofE_no HM.out]
  have H3 := Lib.hid h
  clear h
  go_wp2_with fail
  refine (sprT H3.out 4 n al).mono ?_
  rintro e w4 ⟨A4, c4, rfl, h⟩
  rw [sprE_no HSP.out]
  have H4 := Lib.hid h
  clear h
  go_wp2_with fail
  refine (cosT H4.out 5 r gs).mono ?_
  rintro e w5 ⟨A5, c5, rfl, h⟩
  rw [cosE_no HCS.out]
  have H5 := Lib.hid h
  clear h
  go_wp2_with fail
  refine (works_any _).mono ?_
  rintro e w6 ⟨rfl, hb⟩
  have H6 := Lib.hid (PT.keep H5.out hb)
  clear hb
  go_wp2_with fail
  go_ret
  exact ⟨rfl, H6.out.below⟩
set_option maxRecDepth 100000 in
set_option maxHeartbeats 8000000 in
theorem first_00001 (w : World) (n : Int) (hn : ¬ (0 ≤ n ∧ n ≤ 255)) (m : Int) (hm : ¬ (0 ≤ m ∧ m ≤ 255)) (al : Int) (hs : ¬ SprOk n al) (R : Nat) (hc : CosOk (R : Int) 0) : Calls Try.prog 5 #[.int .i64 n, .int .i64 m, .int .i64 al, .int .i64 (R : Int), .int .i64 (0 : Int)] w fun e w' => e = .returned (.bool true) ∧ Below w.heap.size w w' := by
  have HN := Lib.hid hn
  have HM := Lib.hid hm
  have HSP := Lib.hid hs
  have HCS := Lib.hid hc
  clear hn hm hs hc
  go_enter Try.func5, Try.ntmps5
  go_wp2_with fail
  refine (newT _).mono ?_
  rintro e w1 ⟨rfl, h⟩
  have H1 := Lib.hid h
  clear h
  go_wp2_with fail
  refine (ofT H1.out 2 n).mono ?_
  rintro e w2 ⟨A2, c2, rfl, h⟩
  rw [ofE_no HN.out]
  have H2 := Lib.hid h
  clear h
  go_wp2_with fail
  refine (ofT H2.out 3 m).mono ?_
  rintro e w3 ⟨A3, c3, rfl, h⟩
  rw [ofE_no HM.out]
  have H3 := Lib.hid h
  clear h
  go_wp2_with fail
  refine (sprT H3.out 4 n al).mono ?_
  rintro e w4 ⟨A4, c4, rfl, h⟩
  rw [sprE_no HSP.out]
  have H4 := Lib.hid h
  clear h
  go_wp2_with fail
  refine (cosT H4.out 5 (R : Int) 0).mono ?_
  rintro e w5 ⟨A5, c5, rfl, h⟩
  rw [cosE_ok HCS.out]
  have H5 := Lib.hid h
  clear h
  go_wp2_with fail
  refine (works_any _).mono ?_
  rintro e w6 ⟨rfl, hb⟩
  have H6 := Lib.hid (PT.keep H5.out hb)
  clear hb
  go_wp2_with fail
  go_ret
  exact ⟨rfl, H6.out.below⟩
set_option maxRecDepth 100000 in
set_option maxHeartbeats 8000000 in
theorem first_00002 (w : World) (n : Int) (hn : ¬ (0 ≤ n ∧ n ≤ 255)) (m : Int) (hm : ¬ (0 ≤ m ∧ m ≤ 255)) (al : Int) (hs : ¬ SprOk n al) (R G : Nat) (hc : CosOk (R : Int) ((G : Int) + 1)) : Calls Try.prog 5 #[.int .i64 n, .int .i64 m, .int .i64 al, .int .i64 (R : Int), .int .i64 ((G : Int) + 1)] w fun e w' => e = .returned (.bool true) ∧ Below w.heap.size w w' := by
  have HN := Lib.hid hn
  have HM := Lib.hid hm
  have HSP := Lib.hid hs
  have HCS := Lib.hid hc
  have hr1 := hc.1
  have hr2 := hc.2.1
  have hG := cos_small hc
  have hgi : (G : Int) ≤ 255 := by omega
  have hg0 : (0 : Int) ≤ (G : Int) := by omega
  have HC2 := Lib.hid (cos_less hc)
  obtain ⟨L, hL⟩ : ∃ L, (R + 1) * (G + 1) = L := ⟨_, rfl⟩
  obtain ⟨K, hK⟩ : ∃ K, (R + 1) * G = K := ⟨_, rfl⟩
  have hLK : L = K + (R + 1) := by rw [← hL, ← hK, Nat.mul_succ]
  have hLm : L ≤ 255 := by rw [← hL]; exact cos_max hc
  have hmul : ((R : Int) + 1) * ((G : Int) + 1) = (L : Int) := by rw [← hL]; simp
  have hsub : (L : Int) - (R : Int) - 1 = (K : Int) := by omega
  have hsub2 : (L : Int) - (R : Int) = (K : Int) + 1 := by omega
  have hLi : (L : Int) ≤ 255 := by omega
  have hL0 : (0 : Int) ≤ (L : Int) := by omega
  have hK0 : (0 : Int) ≤ (K : Int) := by omega
  have hKL : (K : Int) ≤ (L : Int) := by omega
  have HLK := Lib.hid hLK
  have HL := Lib.hid hL
  have HK := Lib.hid hK
  clear hL hK hLK hLm hG
  clear hn hm hs hc
  go_enter Try.func5, Try.ntmps5
  go_wp2_with fail
  refine (newT _).mono ?_
  rintro e w1 ⟨rfl, h⟩
  have H1 := Lib.hid h
  clear h
  go_wp2_with fail
  refine (ofT H1.out 2 n).mono ?_
  rintro e w2 ⟨A2, c2, rfl, h⟩
  rw [ofE_no HN.out]
  have H2 := Lib.hid h
  clear h
  go_wp2_with fail
  refine (ofT H2.out 3 m).mono ?_
  rintro e w3 ⟨A3, c3, rfl, h⟩
  rw [ofE_no HM.out]
  have H3 := Lib.hid h
  clear h
  go_wp2_with fail
  refine (sprT H3.out 4 n al).mono ?_
  rintro e w4 ⟨A4, c4, rfl, h⟩
  rw [sprE_no HSP.out]
  have H4 := Lib.hid h
  clear h
  go_wp2_with fail
  refine (cosT H4.out 5 (R : Int) ((G : Int) + 1)).mono ?_
  rintro e w5 ⟨A5, c5, rfl, h⟩
  rw [cosE_ok HCS.out, cosR_ok1 HCS.out, cosL_len, HL.out]
  rw [cosR_ok1 HCS.out] at h
  have H5 := Lib.hid h
  clear h
  have hcap : L ≤ c5 := by have := (H5.out.rows ⟨5, A5, cosL (255 / (R + 1)) (R + 1) (G + 1), c5⟩ (by simp)).le; rw [List.length_map, cosL_len, HL.out] at this; exact this
  have hcapx : (K : Int) ≤ (c5 : Int) := by have := HLK.out; omega
  clear hcap
  go_wp2_with fail
  refine (cosT H5.out 6 (R : Int) (G : Int)).mono ?_
  rintro e w6 ⟨A6, c6, rfl, h⟩
  rw [cosE_ok HC2.out, cosR_ok0 HC2.out, cosL_len, HK.out]
  rw [cosR_ok0 HC2.out] at h
  have H6 := Lib.hid h
  clear h
  go_wp2_with fail
  refine (same_any _ (H6.out.bytes (r := ⟨6, A6, cosL (255 / (R + 1)) (R + 1) G, c6⟩) (by simp)) ((H6.out.bytes (r := ⟨5, A5, cosL (255 / (R + 1)) (R + 1) (G + 1), c5⟩) (by simp)).take K) K K _ _ (by rw [cosL_len, HK.out]) (by rw [List.length_take, cosL_len, HL.out, HLK.out]; omega)).mono ?_
  rintro e w' ⟨rfl, rfl⟩
  rw [show sameB (cosL (255 / (R + 1)) (R + 1) G) ((cosL (255 / (R + 1)) (R + 1) (G + 1)).take K) = true from sameB_yes (by rw [← HK.out]; exact (cosL_take _ _ _).symm)]
  go_wp2_with fail
  refine (works_any _).mono ?_
  rintro e w7 ⟨rfl, hb⟩
  have H7 := Lib.hid (PT.keep H6.out hb)
  clear hb
  go_wp2_with fail
  go_ret
  exact ⟨rfl, H7.out.below⟩
set_option maxRecDepth 100000 in
set_option maxHeartbeats 8000000 in
theorem first_01000 (w : World) (n : Int) (hn : ¬ (0 ≤ n ∧ n ≤ 255)) (M : Nat) (hm : M ≤ 255) (al : Int) (hs : ¬ SprOk n al) (r gs : Int) (hc : ¬ CosOk r gs) : Calls Try.prog 5 #[.int .i64 n, .int .i64 (M : Int), .int .i64 al, .int .i64 r, .int .i64 gs] w fun e w' => e = .returned (.bool true) ∧ Below w.heap.size w w' := by
  have HN := Lib.hid hn
  have HM := Lib.hid hm
  have HSP := Lib.hid hs
  have HCS := Lib.hid hc
  have hmi : (M : Int) ≤ 255 := by omega
  have hm0 : (0 : Int) ≤ (M : Int) := by omega
  clear hn hm hs hc
  go_enter Try.func5, Try.ntmps5
  go_wp2_with fail
  refine (newT _).mono ?_
  rintro e w1 ⟨rfl, h⟩
  have H1 := Lib.hid h
  clear h
  go_wp2_with fail
  refine (ofT H1.out 2 n).mono ?_
  rintro e w2 ⟨A2, c2, rfl, h⟩
  rw [ofE_no HN.out]
  have H2 := Lib.hid h
  clear h
  go_wp2_with fail
  refine (ofT H2.out 3 (M : Int)).mono ?_
  rintro e w3 ⟨A3, c3, rfl, h⟩
  rw [ofE_ok HM.out, ofL_ok HM.out, pts_len]
  rw [ofL_ok HM.out] at h
  have H3 := Lib.hid h
  clear h
  go_wp2_with fail
  refine (sprT H3.out 4 n al).mono ?_
  rintro e w4 ⟨A4, c4, rfl, h⟩
  rw [sprE_no HSP.out]
  have H4 := Lib.hid h
  clear h
  go_wp2_with fail
  refine (cosT H4.out 5 r gs).mono ?_
  rintro e w5 ⟨A5, c5, rfl, h⟩
  rw [cosE_no HCS.out]
  have H5 := Lib.hid h
  clear h
  go_wp2_with fail
  refine (works_any _).mono ?_
  rintro e w6 ⟨rfl, hb⟩
  have H6 := Lib.hid (PT.keep H5.out hb)
  clear hb
  go_wp2_with fail
  go_ret
  exact ⟨rfl, H6.out.below⟩
set_option maxRecDepth 100000 in
set_option maxHeartbeats 8000000 in
theorem first_01001 (w : World) (n : Int) (hn : ¬ (0 ≤ n ∧ n ≤ 255)) (M : Nat) (hm : M ≤ 255) (al : Int) (hs : ¬ SprOk n al) (R : Nat) (hc : CosOk (R : Int) 0) : Calls Try.prog 5 #[.int .i64 n, .int .i64 (M : Int), .int .i64 al, .int .i64 (R : Int), .int .i64 (0 : Int)] w fun e w' => e = .returned (.bool true) ∧ Below w.heap.size w w' := by
  have HN := Lib.hid hn
  have HM := Lib.hid hm
  have HSP := Lib.hid hs
  have HCS := Lib.hid hc
  have hmi : (M : Int) ≤ 255 := by omega
  have hm0 : (0 : Int) ≤ (M : Int) := by omega
  clear hn hm hs hc
  go_enter Try.func5, Try.ntmps5
  go_wp2_with fail
  refine (newT _).mono ?_
  rintro e w1 ⟨rfl, h⟩
  have H1 := Lib.hid h
  clear h
  go_wp2_with fail
  refine (ofT H1.out 2 n).mono ?_
  rintro e w2 ⟨A2, c2, rfl, h⟩
  rw [ofE_no HN.out]
  have H2 := Lib.hid h
  clear h
  go_wp2_with fail
  refine (ofT H2.out 3 (M : Int)).mono ?_
  rintro e w3 ⟨A3, c3, rfl, h⟩
  rw [ofE_ok HM.out, ofL_ok HM.out, pts_len]
  rw [ofL_ok HM.out] at h
  have H3 := Lib.hid h
  clear h
  go_wp2_with fail
  refine (sprT H3.out 4 n al).mono ?_
  rintro e w4 ⟨A4, c4, rfl, h⟩
  rw [sprE_no HSP.out]
  have H4 := Lib.hid h
  clear h
  go_wp2_with fail
  refine (cosT H4.out 5 (R : Int) 0).mono ?_
  rintro e w5 ⟨A5, c5, rfl, h⟩
  rw [cosE_ok HCS.out]
  have H5 := Lib.hid h
  clear h
  go_wp2_with fail
  refine (works_any _).mono ?_
  rintro e w6 ⟨rfl, hb⟩
  have H6 := Lib.hid (PT.keep H5.out hb)
  clear hb
  go_wp2_with fail
  go_ret
  exact ⟨rfl, H6.out.below⟩
set_option maxRecDepth 100000 in
set_option maxHeartbeats 8000000 in
theorem first_01002 (w : World) (n : Int) (hn : ¬ (0 ≤ n ∧ n ≤ 255)) (M : Nat) (hm : M ≤ 255) (al : Int) (hs : ¬ SprOk n al) (R G : Nat) (hc : CosOk (R : Int) ((G : Int) + 1)) : Calls Try.prog 5 #[.int .i64 n, .int .i64 (M : Int), .int .i64 al, .int .i64 (R : Int), .int .i64 ((G : Int) + 1)] w fun e w' => e = .returned (.bool true) ∧ Below w.heap.size w w' := by
  have HN := Lib.hid hn
  have HM := Lib.hid hm
  have HSP := Lib.hid hs
  have HCS := Lib.hid hc
  have hmi : (M : Int) ≤ 255 := by omega
  have hm0 : (0 : Int) ≤ (M : Int) := by omega
  have hr1 := hc.1
  have hr2 := hc.2.1
  have hG := cos_small hc
  have hgi : (G : Int) ≤ 255 := by omega
  have hg0 : (0 : Int) ≤ (G : Int) := by omega
  have HC2 := Lib.hid (cos_less hc)
  obtain ⟨L, hL⟩ : ∃ L, (R + 1) * (G + 1) = L := ⟨_, rfl⟩
  obtain ⟨K, hK⟩ : ∃ K, (R + 1) * G = K := ⟨_, rfl⟩
  have hLK : L = K + (R + 1) := by rw [← hL, ← hK, Nat.mul_succ]
  have hLm : L ≤ 255 := by rw [← hL]; exact cos_max hc
  have hmul : ((R : Int) + 1) * ((G : Int) + 1) = (L : Int) := by rw [← hL]; simp
  have hsub : (L : Int) - (R : Int) - 1 = (K : Int) := by omega
  have hsub2 : (L : Int) - (R : Int) = (K : Int) + 1 := by omega
  have hLi : (L : Int) ≤ 255 := by omega
  have hL0 : (0 : Int) ≤ (L : Int) := by omega
  have hK0 : (0 : Int) ≤ (K : Int) := by omega
  have hKL : (K : Int) ≤ (L : Int) := by omega
  have HLK := Lib.hid hLK
  have HL := Lib.hid hL
  have HK := Lib.hid hK
  clear hL hK hLK hLm hG
  clear hn hm hs hc
  go_enter Try.func5, Try.ntmps5
  go_wp2_with fail
  refine (newT _).mono ?_
  rintro e w1 ⟨rfl, h⟩
  have H1 := Lib.hid h
  clear h
  go_wp2_with fail
  refine (ofT H1.out 2 n).mono ?_
  rintro e w2 ⟨A2, c2, rfl, h⟩
  rw [ofE_no HN.out]
  have H2 := Lib.hid h
  clear h
  go_wp2_with fail
  refine (ofT H2.out 3 (M : Int)).mono ?_
  rintro e w3 ⟨A3, c3, rfl, h⟩
  rw [ofE_ok HM.out, ofL_ok HM.out, pts_len]
  rw [ofL_ok HM.out] at h
  have H3 := Lib.hid h
  clear h
  go_wp2_with fail
  refine (sprT H3.out 4 n al).mono ?_
  rintro e w4 ⟨A4, c4, rfl, h⟩
  rw [sprE_no HSP.out]
  have H4 := Lib.hid h
  clear h
  go_wp2_with fail
  refine (cosT H4.out 5 (R : Int) ((G : Int) + 1)).mono ?_
  rintro e w5 ⟨A5, c5, rfl, h⟩
  rw [cosE_ok HCS.out, cosR_ok1 HCS.out, cosL_len, HL.out]
  rw [cosR_ok1 HCS.out] at h
  have H5 := Lib.hid h
  clear h
  have hcap : L ≤ c5 := by have := (H5.out.rows ⟨5, A5, cosL (255 / (R + 1)) (R + 1) (G + 1), c5⟩ (by simp)).le; rw [List.length_map, cosL_len, HL.out] at this; exact this
  have hcapx : (K : Int) ≤ (c5 : Int) := by have := HLK.out; omega
  clear hcap
  go_wp2_with fail
  refine (cosT H5.out 6 (R : Int) (G : Int)).mono ?_
  rintro e w6 ⟨A6, c6, rfl, h⟩
  rw [cosE_ok HC2.out, cosR_ok0 HC2.out, cosL_len, HK.out]
  rw [cosR_ok0 HC2.out] at h
  have H6 := Lib.hid h
  clear h
  go_wp2_with fail
  refine (same_any _ (H6.out.bytes (r := ⟨6, A6, cosL (255 / (R + 1)) (R + 1) G, c6⟩) (by simp)) ((H6.out.bytes (r := ⟨5, A5, cosL (255 / (R + 1)) (R + 1) (G + 1), c5⟩) (by simp)).take K) K K _ _ (by rw [cosL_len, HK.out]) (by rw [List.length_take, cosL_len, HL.out, HLK.out]; omega)).mono ?_
  rintro e w' ⟨rfl, rfl⟩
  rw [show sameB (cosL (255 / (R + 1)) (R + 1) G) ((cosL (255 / (R + 1)) (R + 1) (G + 1)).take K) = true from sameB_yes (by rw [← HK.out]; exact (cosL_take _ _ _).symm)]
  go_wp2_with fail
  refine (works_any _).mono ?_
  rintro e w7 ⟨rfl, hb⟩
  have H7 := Lib.hid (PT.keep H6.out hb)
  clear hb
  go_wp2_with fail
  go_ret
  exact ⟨rfl, H7.out.below⟩
set_option maxRecDepth 100000 in
set_option maxHeartbeats 8000000 in
theorem first_10000 (w : World) (N : Nat) (hn : N ≤ 255) (m : Int) (hm : ¬ (0 ≤ m ∧ m ≤ 255)) (al : Int) (hs : ¬ SprOk (N : Int) al) (r gs : Int) (hc : ¬ CosOk r gs) : Calls Try.prog 5 #[.int .i64 (N : Int), .int .i64 m, .int .i64 al, .int .i64 r, .int .i64 gs] w fun e w' => e = .returned (.bool true) ∧ Below w.heap.size w w' := by
  have HN := Lib.hid hn
  have HM := Lib.hid hm
  have HSP := Lib.hid hs
  have HCS := Lib.hid hc
  have hni : (N : Int) ≤ 255 := by omega
  have hn0 : (0 : Int) ≤ (N : Int) := by omega
  clear hn hm hs hc
  go_enter Try.func5, Try.ntmps5
  go_wp2_with fail
  refine (newT _).mono ?_
  rintro e w1 ⟨rfl, h⟩
  have H1 := Lib.hid h
  clear h
  go_wp2_with fail
  refine (ofT H1.out 2 (N : Int)).mono ?_
  rintro e w2 ⟨A2, c2, rfl, h⟩
  rw [ofE_ok HN.out, ofL_ok HN.out, pts_len]
  rw [ofL_ok HN.out] at h
  have H2 := Lib.hid h
  clear h
  go_wp2_with fail
  refine (ofT H2.out 3 m).mono ?_
  rintro e w3 ⟨A3, c3, rfl, h⟩
  rw [ofE_no HM.out]
  have H3 := Lib.hid h
  clear h
  go_wp2_with fail
  refine (sprT H3.out 4 (N : Int) al).mono ?_
  rintro e w4 ⟨A4, c4, rfl, h⟩
  rw [sprE_no HSP.out]
  have H4 := Lib.hid h
  clear h
  go_wp2_with fail
  refine (cosT H4.out 5 r gs).mono ?_
  rintro e w5 ⟨A5, c5, rfl, h⟩
  rw [cosE_no HCS.out]
  have H5 := Lib.hid h
  clear h
  go_wp2_with fail
  refine (works_any _).mono ?_
  rintro e w6 ⟨rfl, hb⟩
  have H6 := Lib.hid (PT.keep H5.out hb)
  clear hb
  go_wp2_with fail
  go_ret
  exact ⟨rfl, H6.out.below⟩
set_option maxRecDepth 100000 in
set_option maxHeartbeats 8000000 in
theorem first_10001 (w : World) (N : Nat) (hn : N ≤ 255) (m : Int) (hm : ¬ (0 ≤ m ∧ m ≤ 255)) (al : Int) (hs : ¬ SprOk (N : Int) al) (R : Nat) (hc : CosOk (R : Int) 0) : Calls Try.prog 5 #[.int .i64 (N : Int), .int .i64 m, .int .i64 al, .int .i64 (R : Int), .int .i64 (0 : Int)] w fun e w' => e = .returned (.bool true) ∧ Below w.heap.size w w' := by
  have HN := Lib.hid hn
  have HM := Lib.hid hm
  have HSP := Lib.hid hs
  have HCS := Lib.hid hc
  have hni : (N : Int) ≤ 255 := by omega
  have hn0 : (0 : Int) ≤ (N : Int) := by omega
  clear hn hm hs hc
  go_enter Try.func5, Try.ntmps5
  go_wp2_with fail
  refine (newT _).mono ?_
  rintro e w1 ⟨rfl, h⟩
  have H1 := Lib.hid h
  clear h
  go_wp2_with fail
  refine (ofT H1.out 2 (N : Int)).mono ?_
  rintro e w2 ⟨A2, c2, rfl, h⟩
  rw [ofE_ok HN.out, ofL_ok HN.out, pts_len]
  rw [ofL_ok HN.out] at h
  have H2 := Lib.hid h
  clear h
  go_wp2_with fail
  refine (ofT H2.out 3 m).mono ?_
  rintro e w3 ⟨A3, c3, rfl, h⟩
  rw [ofE_no HM.out]
  have H3 := Lib.hid h
  clear h
  go_wp2_with fail
  refine (sprT H3.out 4 (N : Int) al).mono ?_
  rintro e w4 ⟨A4, c4, rfl, h⟩
  rw [sprE_no HSP.out]
  have H4 := Lib.hid h
  clear h
  go_wp2_with fail
  refine (cosT H4.out 5 (R : Int) 0).mono ?_
  rintro e w5 ⟨A5, c5, rfl, h⟩
  rw [cosE_ok HCS.out]
  have H5 := Lib.hid h
  clear h
  go_wp2_with fail
  refine (works_any _).mono ?_
  rintro e w6 ⟨rfl, hb⟩
  have H6 := Lib.hid (PT.keep H5.out hb)
  clear hb
  go_wp2_with fail
  go_ret
  exact ⟨rfl, H6.out.below⟩
set_option maxRecDepth 100000 in
set_option maxHeartbeats 8000000 in
theorem first_10002 (w : World) (N : Nat) (hn : N ≤ 255) (m : Int) (hm : ¬ (0 ≤ m ∧ m ≤ 255)) (al : Int) (hs : ¬ SprOk (N : Int) al) (R G : Nat) (hc : CosOk (R : Int) ((G : Int) + 1)) : Calls Try.prog 5 #[.int .i64 (N : Int), .int .i64 m, .int .i64 al, .int .i64 (R : Int), .int .i64 ((G : Int) + 1)] w fun e w' => e = .returned (.bool true) ∧ Below w.heap.size w w' := by
  have HN := Lib.hid hn
  have HM := Lib.hid hm
  have HSP := Lib.hid hs
  have HCS := Lib.hid hc
  have hni : (N : Int) ≤ 255 := by omega
  have hn0 : (0 : Int) ≤ (N : Int) := by omega
  have hr1 := hc.1
  have hr2 := hc.2.1
  have hG := cos_small hc
  have hgi : (G : Int) ≤ 255 := by omega
  have hg0 : (0 : Int) ≤ (G : Int) := by omega
  have HC2 := Lib.hid (cos_less hc)
  obtain ⟨L, hL⟩ : ∃ L, (R + 1) * (G + 1) = L := ⟨_, rfl⟩
  obtain ⟨K, hK⟩ : ∃ K, (R + 1) * G = K := ⟨_, rfl⟩
  have hLK : L = K + (R + 1) := by rw [← hL, ← hK, Nat.mul_succ]
  have hLm : L ≤ 255 := by rw [← hL]; exact cos_max hc
  have hmul : ((R : Int) + 1) * ((G : Int) + 1) = (L : Int) := by rw [← hL]; simp
  have hsub : (L : Int) - (R : Int) - 1 = (K : Int) := by omega
  have hsub2 : (L : Int) - (R : Int) = (K : Int) + 1 := by omega
  have hLi : (L : Int) ≤ 255 := by omega
  have hL0 : (0 : Int) ≤ (L : Int) := by omega
  have hK0 : (0 : Int) ≤ (K : Int) := by omega
  have hKL : (K : Int) ≤ (L : Int) := by omega
  have HLK := Lib.hid hLK
  have HL := Lib.hid hL
  have HK := Lib.hid hK
  clear hL hK hLK hLm hG
  clear hn hm hs hc
  go_enter Try.func5, Try.ntmps5
  go_wp2_with fail
  refine (newT _).mono ?_
  rintro e w1 ⟨rfl, h⟩
  have H1 := Lib.hid h
  clear h
  go_wp2_with fail
  refine (ofT H1.out 2 (N : Int)).mono ?_
  rintro e w2 ⟨A2, c2, rfl, h⟩
  rw [ofE_ok HN.out, ofL_ok HN.out, pts_len]
  rw [ofL_ok HN.out] at h
  have H2 := Lib.hid h
  clear h
  go_wp2_with fail
  refine (ofT H2.out 3 m).mono ?_
  rintro e w3 ⟨A3, c3, rfl, h⟩
  rw [ofE_no HM.out]
  have H3 := Lib.hid h
  clear h
  go_wp2_with fail
  refine (sprT H3.out 4 (N : Int) al).mono ?_
  rintro e w4 ⟨A4, c4, rfl, h⟩
  rw [sprE_no HSP.out]
  have H4 := Lib.hid h
  clear h
  go_wp2_with fail
  refine (cosT H4.out 5 (R : Int) ((G : Int) + 1)).mono ?_
  rintro e w5 ⟨A5, c5, rfl, h⟩
  rw [cosE_ok HCS.out, cosR_ok1 HCS.out, cosL_len, HL.out]
  rw [cosR_ok1 HCS.out] at h
  have H5 := Lib.hid h
  clear h
  have hcap : L ≤ c5 := by have := (H5.out.rows ⟨5, A5, cosL (255 / (R + 1)) (R + 1) (G + 1), c5⟩ (by simp)).le; rw [List.length_map, cosL_len, HL.out] at this; exact this
  have hcapx : (K : Int) ≤ (c5 : Int) := by have := HLK.out; omega
  clear hcap
  go_wp2_with fail
  refine (cosT H5.out 6 (R : Int) (G : Int)).mono ?_
  rintro e w6 ⟨A6, c6, rfl, h⟩
  rw [cosE_ok HC2.out, cosR_ok0 HC2.out, cosL_len, HK.out]
  rw [cosR_ok0 HC2.out] at h
  have H6 := Lib.hid h
  clear h
  go_wp2_with fail
  refine (same_any _ (H6.out.bytes (r := ⟨6, A6, cosL (255 / (R + 1)) (R + 1) G, c6⟩) (by simp)) ((H6.out.bytes (r := ⟨5, A5, cosL (255 / (R + 1)) (R + 1) (G + 1), c5⟩) (by simp)).take K) K K _ _ (by rw [cosL_len, HK.out]) (by rw [List.length_take, cosL_len, HL.out, HLK.out]; omega)).mono ?_
  rintro e w' ⟨rfl, rfl⟩
  rw [show sameB (cosL (255 / (R + 1)) (R + 1) G) ((cosL (255 / (R + 1)) (R + 1) (G + 1)).take K) = true from sameB_yes (by rw [← HK.out]; exact (cosL_take _ _ _).symm)]
  go_wp2_with fail
  refine (works_any _).mono ?_
  rintro e w7 ⟨rfl, hb⟩
  have H7 := Lib.hid (PT.keep H6.out hb)
  clear hb
  go_wp2_with fail
  go_ret
  exact ⟨rfl, H7.out.below⟩
set_option maxRecDepth 100000 in
set_option maxHeartbeats 8000000 in
theorem first_10010 (w : World) (N : Nat) (hn : N ≤ 255) (m : Int) (hm : ¬ (0 ≤ m ∧ m ≤ 255)) (al : Int) (hs : SprOk (N : Int) al) (r gs : Int) (hc : ¬ CosOk r gs) : Calls Try.prog 5 #[.int .i64 (N : Int), .int .i64 m, .int .i64 al, .int .i64 r, .int .i64 gs] w fun e w' => e = .returned (.bool true) ∧ Below w.heap.size w w' := by
  have HN := Lib.hid hn
  have HM := Lib.hid hm
  have HSP := Lib.hid hs
  have HCS := Lib.hid hc
  have hni : (N : Int) ≤ 255 := by omega
  have hn0 : (0 : Int) ≤ (N : Int) := by omega
  clear hn hm hs hc
  go_enter Try.func5, Try.ntmps5
  go_wp2_with fail
  refine (newT _).mono ?_
  rintro e w1 ⟨rfl, h⟩
  have H1 := Lib.hid h
  clear h
  go_wp2_with fail
  refine (ofT H1.out 2 (N : Int)).mono ?_
  rintro e w2 ⟨A2, c2, rfl, h⟩
  rw [ofE_ok HN.out, ofL_ok HN.out, pts_len]
  rw [ofL_ok HN.out] at h
  have H2 := Lib.hid h
  clear h
  go_wp2_with fail
  refine (ofT H2.out 3 m).mono ?_
  rintro e w3 ⟨A3, c3, rfl, h⟩
  rw [ofE_no HM.out]
  have H3 := Lib.hid h
  clear h
  go_wp2_with fail
  refine (sprT H3.out 4 (N : Int) al).mono ?_
  rintro e w4 ⟨A4, c4, rfl, h⟩
  rw [sprE_ok HSP.out, sprL_ok HSP.out, pts_len]
  rw [sprL_ok HSP.out] at h
  have H4 := Lib.hid h
  clear h
  go_wp2_with fail
  refine (sameT H4.out (a := ⟨2, A2, pts N, c2⟩) (b := ⟨4, A4, pts N, c4⟩) (by simp) (by simp) N (pts_len N).symm N (pts_len N).symm true (sameB_yes rfl)).mono ?_
  rintro e w' ⟨rfl, rfl⟩
  go_wp2_with fail
  refine (cosT H4.out 5 r gs).mono ?_
  rintro e w5 ⟨A5, c5, rfl, h⟩
  rw [cosE_no HCS.out]
  have H5 := Lib.hid h
  clear h
  go_wp2_with fail
  refine (works_any _).mono ?_
  rintro e w6 ⟨rfl, hb⟩
  have H6 := Lib.hid (PT.keep H5.out hb)
  clear hb
  go_wp2_with fail
  go_ret
  exact ⟨rfl, H6.out.below⟩
set_option maxRecDepth 100000 in
set_option maxHeartbeats 8000000 in
theorem first_10011 (w : World) (N : Nat) (hn : N ≤ 255) (m : Int) (hm : ¬ (0 ≤ m ∧ m ≤ 255)) (al : Int) (hs : SprOk (N : Int) al) (R : Nat) (hc : CosOk (R : Int) 0) : Calls Try.prog 5 #[.int .i64 (N : Int), .int .i64 m, .int .i64 al, .int .i64 (R : Int), .int .i64 (0 : Int)] w fun e w' => e = .returned (.bool true) ∧ Below w.heap.size w w' := by
  have HN := Lib.hid hn
  have HM := Lib.hid hm
  have HSP := Lib.hid hs
  have HCS := Lib.hid hc
  have hni : (N : Int) ≤ 255 := by omega
  have hn0 : (0 : Int) ≤ (N : Int) := by omega
  clear hn hm hs hc
  go_enter Try.func5, Try.ntmps5
  go_wp2_with fail
  refine (newT _).mono ?_
  rintro e w1 ⟨rfl, h⟩
  have H1 := Lib.hid h
  clear h
  go_wp2_with fail
  refine (ofT H1.out 2 (N : Int)).mono ?_
  rintro e w2 ⟨A2, c2, rfl, h⟩
  rw [ofE_ok HN.out, ofL_ok HN.out, pts_len]
  rw [ofL_ok HN.out] at h
  have H2 := Lib.hid h
  clear h
  go_wp2_with fail
  refine (ofT H2.out 3 m).mono ?_
  rintro e w3 ⟨A3, c3, rfl, h⟩
  rw [ofE_no HM.out]
  have H3 := Lib.hid h
  clear h
  go_wp2_with fail
  refine (sprT H3.out 4 (N : Int) al).mono ?_
  rintro e w4 ⟨A4, c4, rfl, h⟩
  rw [sprE_ok HSP.out, sprL_ok HSP.out, pts_len]
  rw [sprL_ok HSP.out] at h
  have H4 := Lib.hid h
  clear h
  go_wp2_with fail
  refine (sameT H4.out (a := ⟨2, A2, pts N, c2⟩) (b := ⟨4, A4, pts N, c4⟩) (by simp) (by simp) N (pts_len N).symm N (pts_len N).symm true (sameB_yes rfl)).mono ?_
  rintro e w' ⟨rfl, rfl⟩
  go_wp2_with fail
  refine (cosT H4.out 5 (R : Int) 0).mono ?_
  rintro e w5 ⟨A5, c5, rfl, h⟩
  rw [cosE_ok HCS.out]
  have H5 := Lib.hid h
  clear h
  go_wp2_with fail
  refine (works_any _).mono ?_
  rintro e w6 ⟨rfl, hb⟩
  have H6 := Lib.hid (PT.keep H5.out hb)
  clear hb
  go_wp2_with fail
  go_ret
  exact ⟨rfl, H6.out.below⟩
set_option maxRecDepth 100000 in
set_option maxHeartbeats 8000000 in
theorem first_10012 (w : World) (N : Nat) (hn : N ≤ 255) (m : Int) (hm : ¬ (0 ≤ m ∧ m ≤ 255)) (al : Int) (hs : SprOk (N : Int) al) (R G : Nat) (hc : CosOk (R : Int) ((G : Int) + 1)) : Calls Try.prog 5 #[.int .i64 (N : Int), .int .i64 m, .int .i64 al, .int .i64 (R : Int), .int .i64 ((G : Int) + 1)] w fun e w' => e = .returned (.bool true) ∧ Below w.heap.size w w' := by
  have HN := Lib.hid hn
  have HM := Lib.hid hm
  have HSP := Lib.hid hs
  have HCS := Lib.hid hc
  have hni : (N : Int) ≤ 255 := by omega
  have hn0 : (0 : Int) ≤ (N : Int) := by omega
  have hr1 := hc.1
  have hr2 := hc.2.1
  have hG := cos_small hc
  have hgi : (G : Int) ≤ 255 := by omega
  have hg0 : (0 : Int) ≤ (G : Int) := by omega
  have HC2 := Lib.hid (cos_less hc)
  obtain ⟨L, hL⟩ : ∃ L, (R + 1) * (G + 1) = L := ⟨_, rfl⟩
  obtain ⟨K, hK⟩ : ∃ K, (R + 1) * G = K := ⟨_, rfl⟩
  have hLK : L = K + (R + 1) := by rw [← hL, ← hK, Nat.mul_succ]
  have hLm : L ≤ 255 := by rw [← hL]; exact cos_max hc
  have hmul : ((R : Int) + 1) * ((G : Int) + 1) = (L : Int) := by rw [← hL]; simp
  have hsub : (L : Int) - (R : Int) - 1 = (K : Int) := by omega
  have hsub2 : (L : Int) - (R : Int) = (K : Int) + 1 := by omega
  have hLi : (L : Int) ≤ 255 := by omega
  have hL0 : (0 : Int) ≤ (L : Int) := by omega
  have hK0 : (0 : Int) ≤ (K : Int) := by omega
  have hKL : (K : Int) ≤ (L : Int) := by omega
  have HLK := Lib.hid hLK
  have HL := Lib.hid hL
  have HK := Lib.hid hK
  clear hL hK hLK hLm hG
  clear hn hm hs hc
  go_enter Try.func5, Try.ntmps5
  go_wp2_with fail
  refine (newT _).mono ?_
  rintro e w1 ⟨rfl, h⟩
  have H1 := Lib.hid h
  clear h
  go_wp2_with fail
  refine (ofT H1.out 2 (N : Int)).mono ?_
  rintro e w2 ⟨A2, c2, rfl, h⟩
  rw [ofE_ok HN.out, ofL_ok HN.out, pts_len]
  rw [ofL_ok HN.out] at h
  have H2 := Lib.hid h
  clear h
  go_wp2_with fail
  refine (ofT H2.out 3 m).mono ?_
  rintro e w3 ⟨A3, c3, rfl, h⟩
  rw [ofE_no HM.out]
  have H3 := Lib.hid h
  clear h
  go_wp2_with fail
  refine (sprT H3.out 4 (N : Int) al).mono ?_
  rintro e w4 ⟨A4, c4, rfl, h⟩
  rw [sprE_ok HSP.out, sprL_ok HSP.out, pts_len]
  rw [sprL_ok HSP.out] at h
  have H4 := Lib.hid h
  clear h
  go_wp2_with fail
  refine (sameT H4.out (a := ⟨2, A2, pts N, c2⟩) (b := ⟨4, A4, pts N, c4⟩) (by simp) (by simp) N (pts_len N).symm N (pts_len N).symm true (sameB_yes rfl)).mono ?_
  rintro e w' ⟨rfl, rfl⟩
  go_wp2_with fail
  refine (cosT H4.out 5 (R : Int) ((G : Int) + 1)).mono ?_
  rintro e w5 ⟨A5, c5, rfl, h⟩
  rw [cosE_ok HCS.out, cosR_ok1 HCS.out, cosL_len, HL.out]
  rw [cosR_ok1 HCS.out] at h
  have H5 := Lib.hid h
  clear h
  have hcap : L ≤ c5 := by have := (H5.out.rows ⟨5, A5, cosL (255 / (R + 1)) (R + 1) (G + 1), c5⟩ (by simp)).le; rw [List.length_map, cosL_len, HL.out] at this; exact this
  have hcapx : (K : Int) ≤ (c5 : Int) := by have := HLK.out; omega
  clear hcap
  go_wp2_with fail
  refine (cosT H5.out 6 (R : Int) (G : Int)).mono ?_
  rintro e w6 ⟨A6, c6, rfl, h⟩
  rw [cosE_ok HC2.out, cosR_ok0 HC2.out, cosL_len, HK.out]
  rw [cosR_ok0 HC2.out] at h
  have H6 := Lib.hid h
  clear h
  go_wp2_with fail
  refine (same_any _ (H6.out.bytes (r := ⟨6, A6, cosL (255 / (R + 1)) (R + 1) G, c6⟩) (by simp)) ((H6.out.bytes (r := ⟨5, A5, cosL (255 / (R + 1)) (R + 1) (G + 1), c5⟩) (by simp)).take K) K K _ _ (by rw [cosL_len, HK.out]) (by rw [List.length_take, cosL_len, HL.out, HLK.out]; omega)).mono ?_
  rintro e w' ⟨rfl, rfl⟩
  rw [show sameB (cosL (255 / (R + 1)) (R + 1) G) ((cosL (255 / (R + 1)) (R + 1) (G + 1)).take K) = true from sameB_yes (by rw [← HK.out]; exact (cosL_take _ _ _).symm)]
  go_wp2_with fail
  refine (works_any _).mono ?_
  rintro e w7 ⟨rfl, hb⟩
  have H7 := Lib.hid (PT.keep H6.out hb)
  clear hb
  go_wp2_with fail
  go_ret
  exact ⟨rfl, H7.out.below⟩
set_option maxRecDepth 100000 in
set_option maxHeartbeats 8000000 in
theorem first_11100 (w : World) (N : Nat) (hn : N ≤ 255) (M : Nat) (hm : M ≤ 255) (hle : N ≤ M) (al : Int) (hs : ¬ SprOk (N : Int) al) (r gs : Int) (hc : ¬ CosOk r gs) : Calls Try.prog 5 #[.int .i64 (N : Int), .int .i64 (M : Int), .int .i64 al, .int .i64 r, .int .i64 gs] w fun e w' => e = .returned (.bool true) ∧ Below w.heap.size w w' := by
  have HN := Lib.hid hn
  have HM := Lib.hid hm
  have HSP := Lib.hid hs
  have HCS := Lib.hid hc
  have hni : (N : Int) ≤ 255 := by omega
  have hn0 : (0 : Int) ≤ (N : Int) := by omega
  have hmi : (M : Int) ≤ 255 := by omega
  have hm0 : (0 : Int) ≤ (M : Int) := by omega
  have hlei : (N : Int) ≤ (M : Int) := by omega
  have HLE := Lib.hid hle
  clear hle
  clear hn hm hs hc
  go_enter Try.func5, Try.ntmps5
  go_wp2_with fail
  refine (newT _).mono ?_
  rintro e w1 ⟨rfl, h⟩
  have H1 := Lib.hid h
  clear h
  go_wp2_with fail
  refine (ofT H1.out 2 (N : Int)).mono ?_
  rintro e w2 ⟨A2, c2, rfl, h⟩
  rw [ofE_ok HN.out, ofL_ok HN.out, pts_len]
  rw [ofL_ok HN.out] at h
  have H2 := Lib.hid h
  clear h
  go_wp2_with fail
  refine (ofT H2.out 3 (M : Int)).mono ?_
  rintro e w3 ⟨A3, c3, rfl, h⟩
  rw [ofE_ok HM.out, ofL_ok HM.out, pts_len]
  rw [ofL_ok HM.out] at h
  have H3 := Lib.hid h
  clear h
  have hcap : M ≤ c3 := by have := (H3.out.rows ⟨3, A3, pts M, c3⟩ (by simp)).le; simpa [pts_len] using this
  have hcapi : (M : Int) ≤ (c3 : Int) := by omega
  have hcapn : (N : Int) ≤ (c3 : Int) := by omega
  have HCAP := Lib.hid hcap
  clear hcap
  go_wp2_with fail
  refine (same_any _ (H3.out.bytes (r := ⟨2, A2, pts N, c2⟩) (by simp)) ((H3.out.bytes (r := ⟨3, A3, pts M, c3⟩) (by simp)).take N) N N _ _ (pts_len N).symm (by rw [pts_take HLE.out, pts_len])).mono ?_
  rintro e w' ⟨rfl, rfl⟩
  rw [show sameB (pts N) ((pts M).take N) = true from sameB_yes (pts_take HLE.out).symm]
  go_wp2_with fail
  refine (sprT H3.out 4 (N : Int) al).mono ?_
  rintro e w4 ⟨A4, c4, rfl, h⟩
  rw [sprE_no HSP.out]
  have H4 := Lib.hid h
  clear h
  go_wp2_with fail
  refine (cosT H4.out 5 r gs).mono ?_
  rintro e w5 ⟨A5, c5, rfl, h⟩
  rw [cosE_no HCS.out]
  have H5 := Lib.hid h
  clear h
  go_wp2_with fail
  refine (works_any _).mono ?_
  rintro e w6 ⟨rfl, hb⟩
  have H6 := Lib.hid (PT.keep H5.out hb)
  clear hb
  go_wp2_with fail
  go_ret
  exact ⟨rfl, H6.out.below⟩
set_option maxRecDepth 100000 in
set_option maxHeartbeats 8000000 in
theorem first_11101 (w : World) (N : Nat) (hn : N ≤ 255) (M : Nat) (hm : M ≤ 255) (hle : N ≤ M) (al : Int) (hs : ¬ SprOk (N : Int) al) (R : Nat) (hc : CosOk (R : Int) 0) : Calls Try.prog 5 #[.int .i64 (N : Int), .int .i64 (M : Int), .int .i64 al, .int .i64 (R : Int), .int .i64 (0 : Int)] w fun e w' => e = .returned (.bool true) ∧ Below w.heap.size w w' := by
  have HN := Lib.hid hn
  have HM := Lib.hid hm
  have HSP := Lib.hid hs
  have HCS := Lib.hid hc
  have hni : (N : Int) ≤ 255 := by omega
  have hn0 : (0 : Int) ≤ (N : Int) := by omega
  have hmi : (M : Int) ≤ 255 := by omega
  have hm0 : (0 : Int) ≤ (M : Int) := by omega
  have hlei : (N : Int) ≤ (M : Int) := by omega
  have HLE := Lib.hid hle
  clear hle
  clear hn hm hs hc
  go_enter Try.func5, Try.ntmps5
  go_wp2_with fail
  refine (newT _).mono ?_
  rintro e w1 ⟨rfl, h⟩
  have H1 := Lib.hid h
  clear h
  go_wp2_with fail
  refine (ofT H1.out 2 (N : Int)).mono ?_
  rintro e w2 ⟨A2, c2, rfl, h⟩
  rw [ofE_ok HN.out, ofL_ok HN.out, pts_len]
  rw [ofL_ok HN.out] at h
  have H2 := Lib.hid h
  clear h
  go_wp2_with fail
  refine (ofT H2.out 3 (M : Int)).mono ?_
  rintro e w3 ⟨A3, c3, rfl, h⟩
  rw [ofE_ok HM.out, ofL_ok HM.out, pts_len]
  rw [ofL_ok HM.out] at h
  have H3 := Lib.hid h
  clear h
  have hcap : M ≤ c3 := by have := (H3.out.rows ⟨3, A3, pts M, c3⟩ (by simp)).le; simpa [pts_len] using this
  have hcapi : (M : Int) ≤ (c3 : Int) := by omega
  have hcapn : (N : Int) ≤ (c3 : Int) := by omega
  have HCAP := Lib.hid hcap
  clear hcap
  go_wp2_with fail
  refine (same_any _ (H3.out.bytes (r := ⟨2, A2, pts N, c2⟩) (by simp)) ((H3.out.bytes (r := ⟨3, A3, pts M, c3⟩) (by simp)).take N) N N _ _ (pts_len N).symm (by rw [pts_take HLE.out, pts_len])).mono ?_
  rintro e w' ⟨rfl, rfl⟩
  rw [show sameB (pts N) ((pts M).take N) = true from sameB_yes (pts_take HLE.out).symm]
  go_wp2_with fail
  refine (sprT H3.out 4 (N : Int) al).mono ?_
  rintro e w4 ⟨A4, c4, rfl, h⟩
  rw [sprE_no HSP.out]
  have H4 := Lib.hid h
  clear h
  go_wp2_with fail
  refine (cosT H4.out 5 (R : Int) 0).mono ?_
  rintro e w5 ⟨A5, c5, rfl, h⟩
  rw [cosE_ok HCS.out]
  have H5 := Lib.hid h
  clear h
  go_wp2_with fail
  refine (works_any _).mono ?_
  rintro e w6 ⟨rfl, hb⟩
  have H6 := Lib.hid (PT.keep H5.out hb)
  clear hb
  go_wp2_with fail
  go_ret
  exact ⟨rfl, H6.out.below⟩
set_option maxRecDepth 100000 in
set_option maxHeartbeats 8000000 in
theorem first_11102 (w : World) (N : Nat) (hn : N ≤ 255) (M : Nat) (hm : M ≤ 255) (hle : N ≤ M) (al : Int) (hs : ¬ SprOk (N : Int) al) (R G : Nat) (hc : CosOk (R : Int) ((G : Int) + 1)) : Calls Try.prog 5 #[.int .i64 (N : Int), .int .i64 (M : Int), .int .i64 al, .int .i64 (R : Int), .int .i64 ((G : Int) + 1)] w fun e w' => e = .returned (.bool true) ∧ Below w.heap.size w w' := by
  have HN := Lib.hid hn
  have HM := Lib.hid hm
  have HSP := Lib.hid hs
  have HCS := Lib.hid hc
  have hni : (N : Int) ≤ 255 := by omega
  have hn0 : (0 : Int) ≤ (N : Int) := by omega
  have hmi : (M : Int) ≤ 255 := by omega
  have hm0 : (0 : Int) ≤ (M : Int) := by omega
  have hlei : (N : Int) ≤ (M : Int) := by omega
  have HLE := Lib.hid hle
  clear hle
  have hr1 := hc.1
  have hr2 := hc.2.1
  have hG := cos_small hc
  have hgi : (G : Int) ≤ 255 := by omega
  have hg0 : (0 : Int) ≤ (G : Int) := by omega
  have HC2 := Lib.hid (cos_less hc)
  obtain ⟨L, hL⟩ : ∃ L, (R + 1) * (G + 1) = L := ⟨_, rfl⟩
  obtain ⟨K, hK⟩ : ∃ K, (R + 1) * G = K := ⟨_, rfl⟩
  have hLK : L = K + (R + 1) := by rw [← hL, ← hK, Nat.mul_succ]
  have hLm : L ≤ 255 := by rw [← hL]; exact cos_max hc
  have hmul : ((R : Int) + 1) * ((G : Int) + 1) = (L : Int) := by rw [← hL]; simp
  have hsub : (L : Int) - (R : Int) - 1 = (K : Int) := by omega
  have hsub2 : (L : Int) - (R : Int) = (K : Int) + 1 := by omega
  have hLi : (L : Int) ≤ 255 := by omega
  have hL0 : (0 : Int) ≤ (L : Int) := by omega
  have hK0 : (0 : Int) ≤ (K : Int) := by omega
  have hKL : (K : Int) ≤ (L : Int) := by omega
  have HLK := Lib.hid hLK
  have HL := Lib.hid hL
  have HK := Lib.hid hK
  clear hL hK hLK hLm hG
  clear hn hm hs hc
  go_enter Try.func5, Try.ntmps5
  go_wp2_with fail
  refine (newT _).mono ?_
  rintro e w1 ⟨rfl, h⟩
  have H1 := Lib.hid h
  clear h
  go_wp2_with fail
  refine (ofT H1.out 2 (N : Int)).mono ?_
  rintro e w2 ⟨A2, c2, rfl, h⟩
  rw [ofE_ok HN.out, ofL_ok HN.out, pts_len]
  rw [ofL_ok HN.out] at h
  have H2 := Lib.hid h
  clear h
  go_wp2_with fail
  refine (ofT H2.out 3 (M : Int)).mono ?_
  rintro e w3 ⟨A3, c3, rfl, h⟩
  rw [ofE_ok HM.out, ofL_ok HM.out, pts_len]
  rw [ofL_ok HM.out] at h
  have H3 := Lib.hid h
  clear h
  have hcap : M ≤ c3 := by have := (H3.out.rows ⟨3, A3, pts M, c3⟩ (by simp)).le; simpa [pts_len] using this
  have hcapi : (M : Int) ≤ (c3 : Int) := by omega
  have hcapn : (N : Int) ≤ (c3 : Int) := by omega
  have HCAP := Lib.hid hcap
  clear hcap
  go_wp2_with fail
  refine (same_any _ (H3.out.bytes (r := ⟨2, A2, pts N, c2⟩) (by simp)) ((H3.out.bytes (r := ⟨3, A3, pts M, c3⟩) (by simp)).take N) N N _ _ (pts_len N).symm (by rw [pts_take HLE.out, pts_len])).mono ?_
  rintro e w' ⟨rfl, rfl⟩
  rw [show sameB (pts N) ((pts M).take N) = true from sameB_yes (pts_take HLE.out).symm]
  go_wp2_with fail
  refine (sprT H3.out 4 (N : Int) al).mono ?_
  rintro e w4 ⟨A4, c4, rfl, h⟩
  rw [sprE_no HSP.out]
  have H4 := Lib.hid h
  clear h
  go_wp2_with fail
  refine (cosT H4.out 5 (R : Int) ((G : Int) + 1)).mono ?_
  rintro e w5 ⟨A5, c5, rfl, h⟩
  rw [cosE_ok HCS.out, cosR_ok1 HCS.out, cosL_len, HL.out]
  rw [cosR_ok1 HCS.out] at h
  have H5 := Lib.hid h
  clear h
  have hcap : L ≤ c5 := by have := (H5.out.rows ⟨5, A5, cosL (255 / (R + 1)) (R + 1) (G + 1), c5⟩ (by simp)).le; rw [List.length_map, cosL_len, HL.out] at this; exact this
  have hcapx : (K : Int) ≤ (c5 : Int) := by have := HLK.out; omega
  clear hcap
  go_wp2_with fail
  refine (cosT H5.out 6 (R : Int) (G : Int)).mono ?_
  rintro e w6 ⟨A6, c6, rfl, h⟩
  rw [cosE_ok HC2.out, cosR_ok0 HC2.out, cosL_len, HK.out]
  rw [cosR_ok0 HC2.out] at h
  have H6 := Lib.hid h
  clear h
  go_wp2_with fail
  refine (same_any _ (H6.out.bytes (r := ⟨6, A6, cosL (255 / (R + 1)) (R + 1) G, c6⟩) (by simp)) ((H6.out.bytes (r := ⟨5, A5, cosL (255 / (R + 1)) (R + 1) (G + 1), c5⟩) (by simp)).take K) K K _ _ (by rw [cosL_len, HK.out]) (by rw [List.length_take, cosL_len, HL.out, HLK.out]; omega)).mono ?_
  rintro e w' ⟨rfl, rfl⟩
  rw [show sameB (cosL (255 / (R + 1)) (R + 1) G) ((cosL (255 / (R + 1)) (R + 1) (G + 1)).take K) = true from sameB_yes (by rw [← HK.out]; exact (cosL_take _ _ _).symm)]
  go_wp2_with fail
  refine (works_any _).mono ?_
  rintro e w7 ⟨rfl, hb⟩
  have H7 := Lib.hid (PT.keep H6.out hb)
  clear hb
  go_wp2_with fail
  go_ret
  exact ⟨rfl, H7.out.below⟩
set_option maxRecDepth 100000 in
set_option maxHeartbeats 8000000 in
theorem first_11110 (w : World) (N : Nat) (hn : N ≤ 255) (M : Nat) (hm : M ≤ 255) (hle : N ≤ M) (al : Int) (hs : SprOk (N : Int) al) (r gs : Int) (hc : ¬ CosOk r gs) : Calls Try.prog 5 #[.int .i64 (N : Int), .int .i64 (M : Int), .int .i64 al, .int .i64 r, .int .i64 gs] w fun e w' => e = .returned (.bool true) ∧ Below w.heap.size w w' := by
  have HN := Lib.hid hn
  have HM := Lib.hid hm
  have HSP := Lib.hid hs
  have HCS := Lib.hid hc
  have hni : (N : Int) ≤ 255 := by omega
  have hn0 : (0 : Int) ≤ (N : Int) := by omega
  have hmi : (M : Int) ≤ 255 := by omega
  have hm0 : (0 : Int) ≤ (M : Int) := by omega
  have hlei : (N : Int) ≤ (M : Int) := by omega
  have HLE := Lib.hid hle
  clear hle
  clear hn hm hs hc
  go_enter Try.func5, Try.ntmps5
  go_wp2_with fail
  refine (newT _).mono ?_
  rintro e w1 ⟨rfl, h⟩
  have H1 := Lib.hid h
  clear h
  go_wp2_with fail
  refine (ofT H1.out 2 (N : Int)).mono ?_
  rintro e w2 ⟨A2, c2, rfl, h⟩
  rw [ofE_ok HN.out, ofL_ok HN.out, pts_len]
  rw [ofL_ok HN.out] at h
  have H2 := Lib.hid h
  clear h
  go_wp2_with fail
  refine (ofT H2.out 3 (M : Int)).mono ?_
  rintro e w3 ⟨A3, c3, rfl, h⟩
  rw [ofE_ok HM.out, ofL_ok HM.out, pts_len]
  rw [ofL_ok HM.out] at h
  have H3 := Lib.hid h
  clear h
  have hcap : M ≤ c3 := by have := (H3.out.rows ⟨3, A3, pts M, c3⟩ (by simp)).le; simpa [pts_len] using this
  have hcapi : (M : Int) ≤ (c3 : Int) := by omega
  have hcapn : (N : Int) ≤ (c3 : Int) := by omega
  have HCAP := Lib.hid hcap
  clear hcap
  go_wp2_with fail
  refine (same_any _ (H3.out.bytes (r := ⟨2, A2, pts N, c2⟩) (by simp)) ((H3.out.bytes (r := ⟨3, A3, pts M, c3⟩) (by simp)).take N) N N _ _ (pts_len N).symm (by rw [pts_take HLE.out, pts_len])).mono ?_
  rintro e w' ⟨rfl, rfl⟩
  rw [show sameB (pts N) ((pts M).take N) = true from sameB_yes (pts_take HLE.out).symm]
  go_wp2_with fail
  refine (sprT H3.out 4 (N : Int) al).mono ?_
  rintro e w4 ⟨A4, c4, rfl, h⟩
  rw [sprE_ok HSP.out, sprL_ok HSP.out, pts_len]
  rw [sprL_ok HSP.out] at h
  have H4 := Lib.hid h
  clear h
  go_wp2_with fail
  refine (sameT H4.out (a := ⟨2, A2, pts N, c2⟩) (b := ⟨4, A4, pts N, c4⟩) (by simp) (by simp) N (pts_len N).symm N (pts_len N).symm true (sameB_yes rfl)).mono ?_
  rintro e w' ⟨rfl, rfl⟩
  go_wp2_with fail
  refine (cosT H4.out 5 r gs).mono ?_
  rintro e w5 ⟨A5, c5, rfl, h⟩
  rw [cosE_no HCS.out]
  have H5 := Lib.hid h
  clear h
  go_wp2_with fail
  refine (works_any _).mono ?_
  rintro e w6 ⟨rfl, hb⟩
  have H6 := Lib.hid (PT.keep H5.out hb)
  clear hb
  go_wp2_with fail
  go_ret
  exact ⟨rfl, H6.out.below⟩
set_option maxRecDepth 100000 in
set_option maxHeartbeats 8000000 in
theorem first_11111 (w : World) (N : Nat) (hn : N ≤ 255) (M : Nat) (hm : M ≤ 255) (hle : N ≤ M) (al : Int) (hs : SprOk (N : Int) al) (R : Nat) (hc : CosOk (R : Int) 0) : Calls Try.prog 5 #[.int .i64 (N : Int), .int .i64 (M : Int), .int .i64 al, .int .i64 (R : Int), .int .i64 (0 : Int)] w fun e w' => e = .returned (.bool true) ∧ Below w.heap.size w w' := by
  have HN := Lib.hid hn
  have HM := Lib.hid hm
  have HSP := Lib.hid hs
  have HCS := Lib.hid hc
  have hni : (N : Int) ≤ 255 := by omega
  have hn0 : (0 : Int) ≤ (N : Int) := by omega
  have hmi : (M : Int) ≤ 255 := by omega
  have hm0 : (0 : Int) ≤ (M : Int) := by omega
  have hlei : (N : Int) ≤ (M : Int) := by omega
  have HLE := Lib.hid hle
  clear hle
  clear hn hm hs hc
  go_enter Try.func5, Try.ntmps5
  go_wp2_with fail
  refine (newT _).mono ?_
  rintro e w1 ⟨rfl, h⟩
  have H1 := Lib.hid h
  clear h
  go_wp2_with fail
  refine (ofT H1.out 2 (N : Int)).mono ?_
  rintro e w2 ⟨A2, c2, rfl, h⟩
  rw [ofE_ok HN.out, ofL_ok HN.out, pts_len]
  rw [ofL_ok HN.out] at h
  have H2 := Lib.hid h
  clear h
  go_wp2_with fail
  refine (ofT H2.out 3 (M : Int)).mono ?_
  rintro e w3 ⟨A3, c3, rfl, h⟩
  rw [ofE_ok HM.out, ofL_ok HM.out, pts_len]
  rw [ofL_ok HM.out] at h
  have H3 := Lib.hid h
  clear h
  have hcap : M ≤ c3 := by have := (H3.out.rows ⟨3, A3, pts M, c3⟩ (by simp)).le; simpa [pts_len] using this
  have hcapi : (M : Int) ≤ (c3 : Int) := by omega
  have hcapn : (N : Int) ≤ (c3 : Int) := by omega
  have HCAP := Lib.hid hcap
  clear hcap
  go_wp2_with fail
  refine (same_any _ (H3.out.bytes (r := ⟨2, A2, pts N, c2⟩) (by simp)) ((H3.out.bytes (r := ⟨3, A3, pts M, c3⟩) (by simp)).take N) N N _ _ (pts_len N).symm (by rw [pts_take HLE.out, pts_len])).mono ?_
  rintro e w' ⟨rfl, rfl⟩
  rw [show sameB (pts N) ((pts M).take N) = true from sameB_yes (pts_take HLE.out).symm]
  go_wp2_with fail
  refine (sprT H3.out 4 (N : Int) al).mono ?_
  rintro e w4 ⟨A4, c4, rfl, h⟩
  rw [sprE_ok HSP.out, sprL_ok HSP.out, pts_len]
  rw [sprL_ok HSP.out] at h
  have H4 := Lib.hid h
  clear h
  go_wp2_with fail
  refine (sameT H4.out (a := ⟨2, A2, pts N, c2⟩) (b := ⟨4, A4, pts N, c4⟩) (by simp) (by simp) N (pts_len N).symm N (pts_len N).symm true (sameB_yes rfl)).mono ?_
  rintro e w' ⟨rfl, rfl⟩
  go_wp2_with fail
  refine (cosT H4.out 5 (R : Int) 0).mono ?_
  rintro e w5 ⟨A5, c5, rfl, h⟩
  rw [cosE_ok HCS.out]
  have H5 := Lib.hid h
  clear h
  go_wp2_with fail
  refine (works_any _).mono ?_
  rintro e w6 ⟨rfl, hb⟩
  have H6 := Lib.hid (PT.keep H5.out hb)
  clear hb
  go_wp2_with fail
  go_ret
  exact ⟨rfl, H6.out.below⟩
set_option maxRecDepth 100000 in
set_option maxHeartbeats 8000000 in
theorem first_11112 (w : World) (N : Nat) (hn : N ≤ 255) (M : Nat) (hm : M ≤ 255) (hle : N ≤ M) (al : Int) (hs : SprOk (N : Int) al) (R G : Nat) (hc : CosOk (R : Int) ((G : Int) + 1)) : Calls Try.prog 5 #[.int .i64 (N : Int), .int .i64 (M : Int), .int .i64 al, .int .i64 (R : Int), .int .i64 ((G : Int) + 1)] w fun e w' => e = .returned (.bool true) ∧ Below w.heap.size w w' := by
  have HN := Lib.hid hn
  have HM := Lib.hid hm
  have HSP := Lib.hid hs
  have HCS := Lib.hid hc
  have hni : (N : Int) ≤ 255 := by omega
  have hn0 : (0 : Int) ≤ (N : Int) := by omega
  have hmi : (M : Int) ≤ 255 := by omega
  have hm0 : (0 : Int) ≤ (M : Int) := by omega
  have hlei : (N : Int) ≤ (M : Int) := by omega
  have HLE := Lib.hid hle
  clear hle
  have hr1 := hc.1
  have hr2 := hc.2.1
  have hG := cos_small hc
  have hgi : (G : Int) ≤ 255 := by omega
  have hg0 : (0 : Int) ≤ (G : Int) := by omega
  have HC2 := Lib.hid (cos_less hc)
  obtain ⟨L, hL⟩ : ∃ L, (R + 1) * (G + 1) = L := ⟨_, rfl⟩
  obtain ⟨K, hK⟩ : ∃ K, (R + 1) * G = K := ⟨_, rfl⟩
  have hLK : L = K + (R + 1) := by rw [← hL, ← hK, Nat.mul_succ]
  have hLm : L ≤ 255 := by rw [← hL]; exact cos_max hc
  have hmul : ((R : Int) + 1) * ((G : Int) + 1) = (L : Int) := by rw [← hL]; simp
  have hsub : (L : Int) - (R : Int) - 1 = (K : Int) := by omega
  have hsub2 : (L : Int) - (R : Int) = (K : Int) + 1 := by omega
  have hLi : (L : Int) ≤ 255 := by omega
  have hL0 : (0 : Int) ≤ (L : Int) := by omega
  have hK0 : (0 : Int) ≤ (K : Int) := by omega
  have hKL : (K : Int) ≤ (L : Int) := by omega
  have HLK := Lib.hid hLK
  have HL := Lib.hid hL
  have HK := Lib.hid hK
  clear hL hK hLK hLm hG
  clear hn hm hs hc
  go_enter Try.func5, Try.ntmps5
  go_wp2_with fail
  refine (newT _).mono ?_
  rintro e w1 ⟨rfl, h⟩
  have H1 := Lib.hid h
  clear h
  go_wp2_with fail
  refine (ofT H1.out 2 (N : Int)).mono ?_
  rintro e w2 ⟨A2, c2, rfl, h⟩
  rw [ofE_ok HN.out, ofL_ok HN.out, pts_len]
  rw [ofL_ok HN.out] at h
  have H2 := Lib.hid h
  clear h
  go_wp2_with fail
  refine (ofT H2.out 3 (M : Int)).mono ?_
  rintro e w3 ⟨A3, c3, rfl, h⟩
  rw [ofE_ok HM.out, ofL_ok HM.out, pts_len]
  rw [ofL_ok HM.out] at h
  have H3 := Lib.hid h
  clear h
  have hcap : M ≤ c3 := by have := (H3.out.rows ⟨3, A3, pts M, c3⟩ (by simp)).le; simpa [pts_len] using this
  have hcapi : (M : Int) ≤ (c3 : Int) := by omega
  have hcapn : (N : Int) ≤ (c3 : Int) := by omega
  have HCAP := Lib.hid hcap
  clear hcap
  go_wp2_with fail
  refine (same_any _ (H3.out.bytes (r := ⟨2, A2, pts N, c2⟩) (by simp)) ((H3.out.bytes (r := ⟨3, A3, pts M, c3⟩) (by simp)).take N) N N _ _ (pts_len N).symm (by rw [pts_take HLE.out, pts_len])).mono ?_
  rintro e w' ⟨rfl, rfl⟩
  rw [show sameB (pts N) ((pts M).take N) = true from sameB_yes (pts_take HLE.out).symm]
  go_wp2_with fail
  refine (sprT H3.out 4 (N : Int) al).mono ?_
  rintro e w4 ⟨A4, c4, rfl, h⟩
  rw [sprE_ok HSP.out, sprL_ok HSP.out, pts_len]
  rw [sprL_ok HSP.out] at h
  have H4 := Lib.hid h
  clear h
  go_wp2_with fail
  refine (sameT H4.out (a := ⟨2, A2, pts N, c2⟩) (b := ⟨4, A4, pts N, c4⟩) (by simp) (by simp) N (pts_len N).symm N (pts_len N).symm true (sameB_yes rfl)).mono ?_
  rintro e w' ⟨rfl, rfl⟩
  go_wp2_with fail
  refine (cosT H4.out 5 (R : Int) ((G : Int) + 1)).mono ?_
  rintro e w5 ⟨A5, c5, rfl, h⟩
  rw [cosE_ok HCS.out, cosR_ok1 HCS.out, cosL_len, HL.out]
  rw [cosR_ok1 HCS.out] at h
  have H5 := Lib.hid h
  clear h
  have hcap : L ≤ c5 := by have := (H5.out.rows ⟨5, A5, cosL (255 / (R + 1)) (R + 1) (G + 1), c5⟩ (by simp)).le; rw [List.length_map, cosL_len, HL.out] at this; exact this
  have hcapx : (K : Int) ≤ (c5 : Int) := by have := HLK.out; omega
  clear hcap
  go_wp2_with fail
  refine (cosT H5.out 6 (R : Int) (G : Int)).mono ?_
  rintro e w6 ⟨A6, c6, rfl, h⟩
  rw [cosE_ok HC2.out, cosR_ok0 HC2.out, cosL_len, HK.out]
  rw [cosR_ok0 HC2.out] at h
  have H6 := Lib.hid h
  clear h
  go_wp2_with fail
  refine (same_any _ (H6.out.bytes (r := ⟨6, A6, cosL (255 / (R + 1)) (R + 1) G, c6⟩) (by simp)) ((H6.out.bytes (r := ⟨5, A5, cosL (255 / (R + 1)) (R + 1) (G + 1), c5⟩) (by simp)).take K) K K _ _ (by rw [cosL_len, HK.out]) (by rw [List.length_take, cosL_len, HL.out, HLK.out]; omega)).mono ?_
  rintro e w' ⟨rfl, rfl⟩
  rw [show sameB (cosL (255 / (R + 1)) (R + 1) G) ((cosL (255 / (R + 1)) (R + 1) (G + 1)).take K) = true from sameB_yes (by rw [← HK.out]; exact (cosL_take _ _ _).symm)]
  go_wp2_with fail
  refine (works_any _).mono ?_
  rintro e w7 ⟨rfl, hb⟩
  have H7 := Lib.hid (PT.keep H6.out hb)
  clear hb
  go_wp2_with fail
  go_ret
  exact ⟨rfl, H7.out.below⟩
set_option maxRecDepth 100000 in
set_option maxHeartbeats 8000000 in
theorem first_11000 (w : World) (N : Nat) (hn : N ≤ 255) (M : Nat) (hm : M ≤ 255) (hle : ¬ N ≤ M) (al : Int) (hs : ¬ SprOk (N : Int) al) (r gs : Int) (hc : ¬ CosOk r gs) : Calls Try.prog 5 #[.int .i64 (N : Int), .int .i64 (M : Int), .int .i64 al, .int .i64 r, .int .i64 gs] w fun e w' => e = .returned (.bool true) ∧ Below w.heap.size w w' := by
  have HN := Lib.hid hn
  have HM := Lib.hid hm
  have HSP := Lib.hid hs
  have HCS := Lib.hid hc
  have hni : (N : Int) ≤ 255 := by omega
  have hn0 : (0 : Int) ≤ (N : Int) := by omega
  have hmi : (M : Int) ≤ 255 := by omega
  have hm0 : (0 : Int) ≤ (M : Int) := by omega
  have hlei : ¬ (N : Int) ≤ (M : Int) := by omega
  have HLE := Lib.hid hle
  clear hle
  clear hn hm hs hc
  go_enter Try.func5, Try.ntmps5
  go_wp2_with fail
  refine (newT _).mono ?_
  rintro e w1 ⟨rfl, h⟩
  have H1 := Lib.hid h
  clear h
  go_wp2_with fail
  refine (ofT H1.out 2 (N : Int)).mono ?_
  rintro e w2 ⟨A2, c2, rfl, h⟩
  rw [ofE_ok HN.out, ofL_ok HN.out, pts_len]
  rw [ofL_ok HN.out] at h
  have H2 := Lib.hid h
  clear h
  go_wp2_with fail
  refine (ofT H2.out 3 (M : Int)).mono ?_
  rintro e w3 ⟨A3, c3, rfl, h⟩
  rw [ofE_ok HM.out, ofL_ok HM.out, pts_len]
  rw [ofL_ok HM.out] at h
  have H3 := Lib.hid h
  clear h
  go_wp2_with fail
  refine (sprT H3.out 4 (N : Int) al).mono ?_
  rintro e w4 ⟨A4, c4, rfl, h⟩
  rw [sprE_no HSP.out]
  have H4 := Lib.hid h
  clear h
  go_wp2_with fail
  refine (cosT H4.out 5 r gs).mono ?_
  rintro e w5 ⟨A5, c5, rfl, h⟩
  rw [cosE_no HCS.out]
  have H5 := Lib.hid h
  clear h
  go_wp2_with fail
  refine (works_any _).mono ?_
  rintro e w6 ⟨rfl, hb⟩
  have H6 := Lib.hid (PT.keep H5.out hb)
  clear hb
  go_wp2_with fail
  go_ret
  exact ⟨rfl, H6.out.below⟩
set_option maxRecDepth 100000 in
set_option maxHeartbeats 8000000 in
theorem first_11001 (w : World) (N : Nat) (hn : N ≤ 255) (M : Nat) (hm : M ≤ 255) (hle : ¬ N ≤ M) (al : Int) (hs : ¬ SprOk (N : Int) al) (R : Nat) (hc : CosOk (R : Int) 0) : Calls Try.prog 5 #[.int .i64 (N : Int), .int .i64 (M : Int), .int .i64 al, .int .i64 (R : Int), .int .i64 (0 : Int)] w fun e w' => e = .returned (.bool true) ∧ Below w.heap.size w w' := by
  have HN := Lib.hid hn
  have HM := Lib.hid hm
  have HSP := Lib.hid hs
  have HCS := Lib.hid hc
  have hni : (N : Int) ≤ 255 := by omega
  have hn0 : (0 : Int) ≤ (N : Int) := by omega
  have hmi : (M : Int) ≤ 255 := by omega
  have hm0 : (0 : Int) ≤ (M : Int) := by omega
  have hlei : ¬ (N : Int) ≤ (M : Int) := by omega
  have HLE := Lib.hid hle
  clear hle
  clear hn hm hs hc
  go_enter Try.func5, Try.ntmps5
  go_wp2_with fail
  refine (newT _).mono ?_
  rintro e w1 ⟨rfl, h⟩
  have H1 := Lib.hid h
  clear h
  go_wp2_with fail
  refine (ofT H1.out 2 (N : Int)).mono ?_
  rintro e w2 ⟨A2, c2, rfl, h⟩
  rw [ofE_ok HN.out, ofL_ok HN.out, pts_len]
  rw [ofL_ok HN.out] at h
  have H2 := Lib.hid h
  clear h
  go_wp2_with fail
  refine (ofT H2.out 3 (M : Int)).mono ?_
  rintro e w3 ⟨A3, c3, rfl, h⟩
  rw [ofE_ok HM.out, ofL_ok HM.out, pts_len]
  rw [ofL_ok HM.out] at h
  have H3 := Lib.hid h
  clear h
  go_wp2_with fail
  refine (sprT H3.out 4 (N : Int) al).mono ?_
  rintro e w4 ⟨A4, c4, rfl, h⟩
  rw [sprE_no HSP.out]
  have H4 := Lib.hid h
  clear h
  go_wp2_with fail
  refine (cosT H4.out 5 (R : Int) 0).mono ?_
  rintro e w5 ⟨A5, c5, rfl, h⟩
  rw [cosE_ok HCS.out]
  have H5 := Lib.hid h
  clear h
  go_wp2_with fail
  refine (works_any _).mono ?_
  rintro e w6 ⟨rfl, hb⟩
  have H6 := Lib.hid (PT.keep H5.out hb)
  clear hb
  go_wp2_with fail
  go_ret
  exact ⟨rfl, H6.out.below⟩
set_option maxRecDepth 100000 in
set_option maxHeartbeats 8000000 in
theorem first_11002 (w : World) (N : Nat) (hn : N ≤ 255) (M : Nat) (hm : M ≤ 255) (hle : ¬ N ≤ M) (al : Int) (hs : ¬ SprOk (N : Int) al) (R G : Nat) (hc : CosOk (R : Int) ((G : Int) + 1)) : Calls Try.prog 5 #[.int .i64 (N : Int), .int .i64 (M : Int), .int .i64 al, .int .i64 (R : Int), .int .i64 ((G : Int) + 1)] w fun e w' => e = .returned (.bool true) ∧ Below w.heap.size w w' := by
  have HN := Lib.hid hn
  have HM := Lib.hid hm
  have HSP := Lib.hid hs
  have HCS := Lib.hid hc
  have hni : (N : Int) ≤ 255 := by omega
  have hn0 : (0 : Int) ≤ (N : Int) := by omega
  have hmi : (M : Int) ≤ 255 := by omega
  have hm0 : (0 : Int) ≤ (M : Int) := by omega
  have hlei : ¬ (N : Int) ≤ (M : Int) := by omega
  have HLE := Lib.hid hle
  clear hle
  have hr1 := hc.1
  have hr2 := hc.2.1
  have hG := cos_small hc
  have hgi : (G : Int) ≤ 255 := by omega
  have hg0 : (0 : Int) ≤ (G : Int) := by omega
  have HC2 := Lib.hid (cos_less hc)
  obtain ⟨L, hL⟩ : ∃ L, (R + 1) * (G + 1) = L := ⟨_, rfl⟩
  obtain ⟨K, hK⟩ : ∃ K, (R + 1) * G = K := ⟨_, rfl⟩
  have hLK : L = K + (R + 1) := by rw [← hL, ← hK, Nat.mul_succ]
  have hLm : L ≤ 255 := by rw [← hL]; exact cos_max hc
  have hmul : ((R : Int) + 1) * ((G : Int) + 1) = (L : Int) := by rw [← hL]; simp
  have hsub : (L : Int) - (R : Int) - 1 = (K : Int) := by omega
  have hsub2 : (L : Int) - (R : Int) = (K : Int) + 1 := by omega
  have hLi : (L : Int) ≤ 255 := by omega
  have hL0 : (0 : Int) ≤ (L : Int) := by omega
  have hK0 : (0 : Int) ≤ (K : Int) := by omega
  have hKL : (K : Int) ≤ (L : Int) := by omega
  have HLK := Lib.hid hLK
  have HL := Lib.hid hL
  have HK := Lib.hid hK
  clear hL hK hLK hLm hG
  clear hn hm hs hc
  go_enter Try.func5, Try.ntmps5
  go_wp2_with fail
  refine (newT _).mono ?_
  rintro e w1 ⟨rfl, h⟩
  have H1 := Lib.hid h
  clear h
  go_wp2_with fail
  refine (ofT H1.out 2 (N : Int)).mono ?_
  rintro e w2 ⟨A2, c2, rfl, h⟩
  rw [ofE_ok HN.out, ofL_ok HN.out, pts_len]
  rw [ofL_ok HN.out] at h
  have H2 := Lib.hid h
  clear h
  go_wp2_with fail
  refine (ofT H2.out 3 (M : Int)).mono ?_
  rintro e w3 ⟨A3, c3, rfl, h⟩
  rw [ofE_ok HM.out, ofL_ok HM.out, pts_len]
  rw [ofL_ok HM.out] at h
  have H3 := Lib.hid h
  clear h
  go_wp2_with fail
  refine (sprT H3.out 4 (N : Int) al).mono ?_
  rintro e w4 ⟨A4, c4, rfl, h⟩
  rw [sprE_no HSP.out]
  have H4 := Lib.hid h
  clear h
  go_wp2_with fail
  refine (cosT H4.out 5 (R : Int) ((G : Int) + 1)).mono ?_
  rintro e w5 ⟨A5, c5, rfl, h⟩
  rw [cosE_ok HCS.out, cosR_ok1 HCS.out, cosL_len, HL.out]
  rw [cosR_ok1 HCS.out] at h
  have H5 := Lib.hid h
  clear h
  have hcap : L ≤ c5 := by have := (H5.out.rows ⟨5, A5, cosL (255 / (R + 1)) (R + 1) (G + 1), c5⟩ (by simp)).le; rw [List.length_map, cosL_len, HL.out] at this; exact this
  have hcapx : (K : Int) ≤ (c5 : Int) := by have := HLK.out; omega
  clear hcap
  go_wp2_with fail
  refine (cosT H5.out 6 (R : Int) (G : Int)).mono ?_
  rintro e w6 ⟨A6, c6, rfl, h⟩
  rw [cosE_ok HC2.out, cosR_ok0 HC2.out, cosL_len, HK.out]
  rw [cosR_ok0 HC2.out] at h
  have H6 := Lib.hid h
  clear h
  go_wp2_with fail
  refine (same_any _ (H6.out.bytes (r := ⟨6, A6, cosL (255 / (R + 1)) (R + 1) G, c6⟩) (by simp)) ((H6.out.bytes (r := ⟨5, A5, cosL (255 / (R + 1)) (R + 1) (G + 1), c5⟩) (by simp)).take K) K K _ _ (by rw [cosL_len, HK.out]) (by rw [List.length_take, cosL_len, HL.out, HLK.out]; omega)).mono ?_
  rintro e w' ⟨rfl, rfl⟩
  rw [show sameB (cosL (255 / (R + 1)) (R + 1) G) ((cosL (255 / (R + 1)) (R + 1) (G + 1)).take K) = true from sameB_yes (by rw [← HK.out]; exact (cosL_take _ _ _).symm)]
  go_wp2_with fail
  refine (works_any _).mono ?_
  rintro e w7 ⟨rfl, hb⟩
  have H7 := Lib.hid (PT.keep H6.out hb)
  clear hb
  go_wp2_with fail
  go_ret
  exact ⟨rfl, H7.out.below⟩
set_option maxRecDepth 100000 in
set_option maxHeartbeats 8000000 in
theorem first_11010 (w : World) (N : Nat) (hn : N ≤ 255) (M : Nat) (hm : M ≤ 255) (hle : ¬ N ≤ M) (al : Int) (hs : SprOk (N : Int) al) (r gs : Int) (hc : ¬ CosOk r gs) : Calls Try.prog 5 #[.int .i64 (N : Int), .int .i64 (M : Int), .int .i64 al, .int .i64 r, .int .i64 gs] w fun e w' => e = .returned (.bool true) ∧ Below w.heap.size w w' := by
  have HN := Lib.hid hn
  have HM := Lib.hid hm
  have HSP := Lib.hid hs
  have HCS := Lib.hid hc
  have hni : (N : Int) ≤ 255 := by omega
  have hn0 : (0 : Int) ≤ (N : Int) := by omega
  have hmi : (M : Int) ≤ 255 := by omega
  have hm0 : (0 : Int) ≤ (M : Int) := by omega
  have hlei : ¬ (N : Int) ≤ (M : Int) := by omega
  have HLE := Lib.hid hle
  clear hle
  clear hn hm hs hc
  go_enter Try.func5, Try.ntmps5
  go_wp2_with fail
  refine (newT _).mono ?_
  rintro e w1 ⟨rfl, h⟩
  have H1 := Lib.hid h
  clear h
  go_wp2_with fail
  refine (ofT H1.out 2 (N : Int)).mono ?_
  rintro e w2 ⟨A2, c2, rfl, h⟩
  rw [ofE_ok HN.out, ofL_ok HN.out, pts_len]
  rw [ofL_ok HN.out] at h
  have H2 := Lib.hid h
  clear h
  go_wp2_with fail
  refine (ofT H2.out 3 (M : Int)).mono ?_
  rintro e w3 ⟨A3, c3, rfl, h⟩
  rw [ofE_ok HM.out, ofL_ok HM.out, pts_len]
  rw [ofL_ok HM.out] at h
  have H3 := Lib.hid h
  clear h
  go_wp2_with fail
  refine (sprT H3.out 4 (N : Int) al).mono ?_
  rintro e w4 ⟨A4, c4, rfl, h⟩
  rw [sprE_ok HSP.out, sprL_ok HSP.out, pts_len]
  rw [sprL_ok HSP.out] at h
  have H4 := Lib.hid h
  clear h
  go_wp2_with fail
  refine (sameT H4.out (a := ⟨2, A2, pts N, c2⟩) (b := ⟨4, A4, pts N, c4⟩) (by simp) (by simp) N (pts_len N).symm N (pts_len N).symm true (sameB_yes rfl)).mono ?_
  rintro e w' ⟨rfl, rfl⟩
  go_wp2_with fail
  refine (cosT H4.out 5 r gs).mono ?_
  rintro e w5 ⟨A5, c5, rfl, h⟩
  rw [cosE_no HCS.out]
  have H5 := Lib.hid h
  clear h
  go_wp2_with fail
  refine (works_any _).mono ?_
  rintro e w6 ⟨rfl, hb⟩
  have H6 := Lib.hid (PT.keep H5.out hb)
  clear hb
  go_wp2_with fail
  go_ret
  exact ⟨rfl, H6.out.below⟩
set_option maxRecDepth 100000 in
set_option maxHeartbeats 8000000 in
theorem first_11011 (w : World) (N : Nat) (hn : N ≤ 255) (M : Nat) (hm : M ≤ 255) (hle : ¬ N ≤ M) (al : Int) (hs : SprOk (N : Int) al) (R : Nat) (hc : CosOk (R : Int) 0) : Calls Try.prog 5 #[.int .i64 (N : Int), .int .i64 (M : Int), .int .i64 al, .int .i64 (R : Int), .int .i64 (0 : Int)] w fun e w' => e = .returned (.bool true) ∧ Below w.heap.size w w' := by
  have HN := Lib.hid hn
  have HM := Lib.hid hm
  have HSP := Lib.hid hs
  have HCS := Lib.hid hc
  have hni : (N : Int) ≤ 255 := by omega
  have hn0 : (0 : Int) ≤ (N : Int) := by omega
  have hmi : (M : Int) ≤ 255 := by omega
  have hm0 : (0 : Int) ≤ (M : Int) := by omega
  have hlei : ¬ (N : Int) ≤ (M : Int) := by omega
  have HLE := Lib.hid hle
  clear hle
  clear hn hm hs hc
  go_enter Try.func5, Try.ntmps5
  go_wp2_with fail
  refine (newT _).mono ?_
  rintro e w1 ⟨rfl, h⟩
  have H1 := Lib.hid h
  clear h
  go_wp2_with fail
  refine (ofT H1.out 2 (N : Int)).mono ?_
  rintro e w2 ⟨A2, c2, rfl, h⟩
  rw [ofE_ok HN.out, ofL_ok HN.out, pts_len]
  rw [ofL_ok HN.out] at h
  have H2 := Lib.hid h
  clear h
  go_wp2_with fail
  refine (ofT H2.out 3 (M : Int)).mono ?_
  rintro e w3 ⟨A3, c3, rfl, h⟩
  rw [ofE_ok HM.out, ofL_ok HM.out, pts_len]
  rw [ofL_ok HM.out] at h
  have H3 := Lib.hid h
  clear h
  go_wp2_with fail
  refine (sprT H3.out 4 (N : Int) al).mono ?_
  rintro e w4 ⟨A4, c4, rfl, h⟩
  rw [sprE_ok HSP.out, sprL_ok HSP.out, pts_len]
  rw [sprL_ok HSP.out] at h
  have H4 := Lib.hid h
  clear h
  go_wp2_with fail
  refine (sameT H4.out (a := ⟨2, A2, pts N, c2⟩) (b := ⟨4, A4, pts N, c4⟩) (by simp) (by simp) N (pts_len N).symm N (pts_len N).symm true (sameB_yes rfl)).mono ?_
  rintro e w' ⟨rfl, rfl⟩
  go_wp2_with fail
  refine (cosT H4.out 5 (R : Int) 0).mono ?_
  rintro e w5 ⟨A5, c5, rfl, h⟩
  rw [cosE_ok HCS.out]
  have H5 := Lib.hid h
  clear h
  go_wp2_with fail
  refine (works_any _).mono ?_
  rintro e w6 ⟨rfl, hb⟩
  have H6 := Lib.hid (PT.keep H5.out hb)
  clear hb
  go_wp2_with fail
  go_ret
  exact ⟨rfl, H6.out.below⟩
set_option maxRecDepth 100000 in
set_option maxHeartbeats 8000000 in
theorem first_11012 (w : World) (N : Nat) (hn : N ≤ 255) (M : Nat) (hm : M ≤ 255) (hle : ¬ N ≤ M) (al : Int) (hs : SprOk (N : Int) al) (R G : Nat) (hc : CosOk (R : Int) ((G : Int) + 1)) : Calls Try.prog 5 #[.int .i64 (N : Int), .int .i64 (M : Int), .int .i64 al, .int .i64 (R : Int), .int .i64 ((G : Int) + 1)] w fun e w' => e = .returned (.bool true) ∧ Below w.heap.size w w' := by
  have HN := Lib.hid hn
  have HM := Lib.hid hm
  have HSP := Lib.hid hs
  have HCS := Lib.hid hc
  have hni : (N : Int) ≤ 255 := by omega
  have hn0 : (0 : Int) ≤ (N : Int) := by omega
  have hmi : (M : Int) ≤ 255 := by omega
  have hm0 : (0 : Int) ≤ (M : Int) := by omega
  have hlei : ¬ (N : Int) ≤ (M : Int) := by omega
  have HLE := Lib.hid hle
  clear hle
  have hr1 := hc.1
  have hr2 := hc.2.1
  have hG := cos_small hc
  have hgi : (G : Int) ≤ 255 := by omega
  have hg0 : (0 : Int) ≤ (G : Int) := by omega
  have HC2 := Lib.hid (cos_less hc)
  obtain ⟨L, hL⟩ : ∃ L, (R + 1) * (G + 1) = L := ⟨_, rfl⟩
  obtain ⟨K, hK⟩ : ∃ K, (R + 1) * G = K := ⟨_, rfl⟩
  have hLK : L = K + (R + 1) := by rw [← hL, ← hK, Nat.mul_succ]
  have hLm : L ≤ 255 := by rw [← hL]; exact cos_max hc
  have hmul : ((R : Int) + 1) * ((G : Int) + 1) = (L : Int) := by rw [← hL]; simp
  have hsub : (L : Int) - (R : Int) - 1 = (K : Int) := by omega
  have hsub2 : (L : Int) - (R : Int) = (K : Int) + 1 := by omega
  have hLi : (L : Int) ≤ 255 := by omega
  have hL0 : (0 : Int) ≤ (L : Int) := by omega
  have hK0 : (0 : Int) ≤ (K : Int) := by omega
  have hKL : (K : Int) ≤ (L : Int) := by omega
  have HLK := Lib.hid hLK
  have HL := Lib.hid hL
  have HK := Lib.hid hK
  clear hL hK hLK hLm hG
  clear hn hm hs hc
  go_enter Try.func5, Try.ntmps5
  go_wp2_with fail
  refine (newT _).mono ?_
  rintro e w1 ⟨rfl, h⟩
  have H1 := Lib.hid h
  clear h
  go_wp2_with fail
  refine (ofT H1.out 2 (N : Int)).mono ?_
  rintro e w2 ⟨A2, c2, rfl, h⟩
  rw [ofE_ok HN.out, ofL_ok HN.out, pts_len]
  rw [ofL_ok HN.out] at h
  have H2 := Lib.hid h
  clear h
  go_wp2_with fail
  refine (ofT H2.out 3 (M : Int)).mono ?_
  rintro e w3 ⟨A3, c3, rfl, h⟩
  rw [ofE_ok HM.out, ofL_ok HM.out, pts_len]
  rw [ofL_ok HM.out] at h
  have H3 := Lib.hid h
  clear h
  go_wp2_with fail
  refine (sprT H3.out 4 (N : Int) al).mono ?_
  rintro e w4 ⟨A4, c4, rfl, h⟩
  rw [sprE_ok HSP.out, sprL_ok HSP.out, pts_len]
  rw [sprL_ok HSP.out] at h
  have H4 := Lib.hid h
  clear h
  go_wp2_with fail
  refine (sameT H4.out (a := ⟨2, A2, pts N, c2⟩) (b := ⟨4, A4, pts N, c4⟩) (by simp) (by simp) N (pts_len N).symm N (pts_len N).symm true (sameB_yes rfl)).mono ?_
  rintro e w' ⟨rfl, rfl⟩
  go_wp2_with fail
  refine (cosT H4.out 5 (R : Int) ((G : Int) + 1)).mono ?_
  rintro e w5 ⟨A5, c5, rfl, h⟩
  rw [cosE_ok HCS.out, cosR_ok1 HCS.out, cosL_len, HL.out]
  rw [cosR_ok1 HCS.out] at h
  have H5 := Lib.hid h
  clear h
  have hcap : L ≤ c5 := by have := (H5.out.rows ⟨5, A5, cosL (255 / (R + 1)) (R + 1) (G + 1), c5⟩ (by simp)).le; rw [List.length_map, cosL_len, HL.out] at this; exact this
  have hcapx : (K : Int) ≤ (c5 : Int) := by have := HLK.out; omega
  clear hcap
  go_wp2_with fail
  refine (cosT H5.out 6 (R : Int) (G : Int)).mono ?_
  rintro e w6 ⟨A6, c6, rfl, h⟩
  rw [cosE_ok HC2.out, cosR_ok0 HC2.out, cosL_len, HK.out]
  rw [cosR_ok0 HC2.out] at h
  have H6 := Lib.hid h
  clear h
  go_wp2_with fail
  refine (same_any _ (H6.out.bytes (r := ⟨6, A6, cosL (255 / (R + 1)) (R + 1) G, c6⟩) (by simp)) ((H6.out.bytes (r := ⟨5, A5, cosL (255 / (R + 1)) (R + 1) (G + 1), c5⟩) (by simp)).take K) K K _ _ (by rw [cosL_len, HK.out]) (by rw [List.length_take, cosL_len, HL.out, HLK.out]; omega)).mono ?_
  rintro e w' ⟨rfl, rfl⟩
  rw [show sameB (cosL (255 / (R + 1)) (R + 1) G) ((cosL (255 / (R + 1)) (R + 1) (G + 1)).take K) = true from sameB_yes (by rw [← HK.out]; exact (cosL_take _ _ _).symm)]
  go_wp2_with fail
  refine (works_any _).mono ?_
  rintro e w7 ⟨rfl, hb⟩
  have H7 := Lib.hid (PT.keep H6.out hb)
  clear hb
  go_wp2_with fail
  go_ret
  exact ⟨rfl, H7.out.below⟩
theorem spr_of {n al : Int} (h : SprOk n al) : 0 ≤ n ∧ n ≤ 255 := by
  obtain ⟨_, _, h3, h4⟩ := h
  exact ⟨h3, Int.le_trans h4 (by have := Nat.div_le_self 255 (Nat.gcd al.toNat 255); omega)⟩
theorem cos_split (r g : Int) : ¬ CosOk r g ∨ (∃ R : Nat, r = (R : Int) ∧ g = 0 ∧ CosOk (R : Int) 0) ∨ ∃ R G : Nat, r = (R : Int) ∧ g = (G : Int) + 1 ∧ CosOk (R : Int) ((G : Int) + 1) := by
  by_cases h : CosOk r g
  · obtain ⟨R, rfl⟩ : ∃ R : Nat, r = (R : Int) := ⟨r.toNat, by have := h.1; omega⟩
    have := h.2.2.2.1
    rcases (by omega : g = 0 ∨ 1 ≤ g) with rfl | hg
    · exact .inr (.inl ⟨R, rfl, rfl, h⟩)
    · obtain ⟨G, rfl⟩ : ∃ G : Nat, g = (G : Int) + 1 := ⟨(g - 1).toNat, by omega⟩
      exact .inr (.inr ⟨R, G, rfl, rfl, h⟩)
  · exact .inl h
theorem first_claim (w : World) (n : Int) (_ : B64 n) (m : Int) (_ : B64 m) (al : Int) (_ : B64 al) (r : Int) (_ : B64 r) (gs : Int) (_ : B64 gs) : Calls Try.prog 5 #[.int .i64 n, .int .i64 m, .int .i64 al, .int .i64 r, .int .i64 gs] w fun e w' => e = .returned (.bool true) ∧ Below w.heap.size w w' := by
  by_cases hn : 0 ≤ n ∧ n ≤ 255
  · obtain ⟨N, rfl⟩ : ∃ N : Nat, n = (N : Int) := ⟨n.toNat, by omega⟩
    have hn' : N ≤ 255 := by omega
    by_cases hm : 0 ≤ m ∧ m ≤ 255
    · obtain ⟨M, rfl⟩ : ∃ M : Nat, m = (M : Int) := ⟨m.toNat, by omega⟩
      have hm' : M ≤ 255 := by omega
      by_cases hle : N ≤ M <;> by_cases hs : SprOk (N : Int) al <;> rcases cos_split r gs with hc | ⟨R, rfl, rfl, hc⟩ | ⟨R, G, rfl, rfl, hc⟩
      · exact first_11110 w N hn' M hm' hle al hs r gs hc
      · exact first_11111 w N hn' M hm' hle al hs R hc
      · exact first_11112 w N hn' M hm' hle al hs R G hc
      · exact first_11100 w N hn' M hm' hle al hs r gs hc
      · exact first_11101 w N hn' M hm' hle al hs R hc
      · exact first_11102 w N hn' M hm' hle al hs R G hc
      · exact first_11010 w N hn' M hm' hle al hs r gs hc
      · exact first_11011 w N hn' M hm' hle al hs R hc
      · exact first_11012 w N hn' M hm' hle al hs R G hc
      · exact first_11000 w N hn' M hm' hle al hs r gs hc
      · exact first_11001 w N hn' M hm' hle al hs R hc
      · exact first_11002 w N hn' M hm' hle al hs R G hc
    · by_cases hs : SprOk (N : Int) al <;> rcases cos_split r gs with hc | ⟨R, rfl, rfl, hc⟩ | ⟨R, G, rfl, rfl, hc⟩
      · exact first_10010 w N hn' m hm al hs r gs hc
      · exact first_10011 w N hn' m hm al hs R hc
      · exact first_10012 w N hn' m hm al hs R G hc
      · exact first_10000 w N hn' m hm al hs r gs hc
      · exact first_10001 w N hn' m hm al hs R hc
      · exact first_10002 w N hn' m hm al hs R G hc
  · have hs : ¬ SprOk n al := fun h => hn (spr_of h)
    by_cases hm : 0 ≤ m ∧ m ≤ 255
    · obtain ⟨M, rfl⟩ : ∃ M : Nat, m = (M : Int) := ⟨m.toNat, by omega⟩
      have hm' : M ≤ 255 := by omega
      rcases cos_split r gs with hc | ⟨R, rfl, rfl, hc⟩ | ⟨R, G, rfl, rfl, hc⟩
      · exact first_01000 w n hn M hm' al hs r gs hc
      · exact first_01001 w n hn M hm' al hs R hc
      · exact first_01002 w n hn M hm' al hs R G hc
    · rcases cos_split r gs with hc | ⟨R, rfl, rfl, hc⟩ | ⟨R, G, rfl, rfl, hc⟩
      · exact first_00000 w n hn m hm al hs r gs hc
      · exact first_00001 w n hn m hm al hs R hc
      · exact first_00002 w n hn m hm al hs R G hc
end Go.Proofs.Ytaeoocpiggebmaa.PtW
