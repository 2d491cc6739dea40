/- Texts of a claim, one behind another. -/
import Derived.Test.YthdapoipfnnaeaaQLawMatrixSolves5
import Derived.Test.YthdapoipfnnaeaaOpenMx
import Derived.Test.YthdapoipfnnaeaaOpen
/- The law MatrixSolves: its walk. -/
namespace Go.Proofs.Ythdapoipfnnaeaa.MxW
open Go.RowKit Go.Shelf Mem Gf FdW Mx Rng
open PlW (In)
set_option linter.unusedVariables false
set_option linter.unusedSectionVars false
attribute [local go_sem] Oper.semAt_some wide_fn
set_option maxRecDepth 100000 in
set_option maxHeartbeats 4000000 in
theorem solves_in1 (w : World) (r c : Nat) (hd : r ≤ 8 ∧ c ≤ 8) (A : Option Addr) (ca : Nat) (ma : M) (hA : Bytes w w.heap.size A (flat r c ma)) (hca : (flat r c ma).length ≤ ca) (Rx Cx : Int) (X : Option Addr) (lx : List UInt8) (nx cx : Nat) (hlx : lx.length = nx) (hX : Bytes w w.heap.size X lx) (hcx : lx.length ≤ cx) (Rb Cb : Int) (B : Option Addr) (lb : List UInt8) (nb cb : Nat) (hlb : lb.length = nb) (hB : Bytes w w.heap.size B lb) (hcb : lb.length ≤ cb) (hsx : smallB 8 Rx Cx nx = true) (hsb : smallB 8 Rb Cb nb = true) (d : Nat) (hm : Rx = (c : Int) ∧ Cx = (d : Int) ∧ nx = c * d ∧ d ≤ 8) (hkc : rankM r c ma = c) :
    Calls Try.prog 5 #[.agg #[.int .i64 (r : Int), .int .i64 (c : Int), .slice A (r * c) ca], .agg #[.int .i64 Rx, .int .i64 Cx, .slice X nx cx], .agg #[.int .i64 Rb, .int .i64 Cb, .slice B nb cb]] w fun e w' => e = .returned (.bool true) ∧ Below w.heap.size w w' := by
  have H0 := Lib.hid ((((MS.start w).arg hA hca).arg hX hcx).arg hB hcb)
  have HLNx := Lib.hid hlx
  have HLNb := Lib.hid hlb
  have HSa := Lib.hid (small8 (r := r) (s := c) (by omega) (by omega))
  have HSx := Lib.hid hsx
  have HSb := Lib.hid hsb
  have HD := Lib.hid hd
  obtain ⟨k, hk⟩ : ∃ k, rankM r c ma = k := ⟨_, rfl⟩
  have HK := Lib.hid hk
  have HKM := Lib.hid (show k ≤ r ∧ k ≤ c from by have := rank_min r c ma; omega)
  obtain ⟨mn, hmn⟩ : ∃ mn, min (r : Int) (c : Int) = mn := ⟨_, rfl⟩
  have m1 := fun W => run_min2 (r : Int) (c : Int) mn hmn W
  have hkm : ¬ mn < (k : Int) := by have := HKM.out; omega
  have HM := Lib.hid hm
  have HMX := Lib.hid (show lx = flat c d (ent lx d) from (flat_ent (by rw [hlx]; exact hm.2.2.1)).symm)
  have HKC := Lib.hid hkc
  have hkc1 : ((k : Int) == (c : Int)) = true := by simp; omega
  clear hA hca hX hcx hlx hB hcb hlb hsx hsb hd hmn hk hm hkc
  go_enter Try.func5, Try.ntmps5
  have L1 := Lib.hid (show MS _ _ _ ((w.heap.size, #[.int .i64 (r : Int), .int .i64 (c : Int), .slice A (r * c) ca]) :: _) (w.alloc (.cells #[.int .i64 (r : Int), .int .i64 (c : Int), .slice A (r * c) ca] 27)) from by have h := H0.out.put #[.int .i64 (r : Int), .int .i64 (c : Int), .slice A (r * c) ca]; (try simp only [World.size_alloc] at h); exact h)
  have L2 := Lib.hid (show MS _ _ _ ((w.heap.size + 1, #[.int .i64 Rx, .int .i64 Cx, .slice X nx cx]) :: _) ((w.alloc (.cells #[.int .i64 (r : Int), .int .i64 (c : Int), .slice A (r * c) ca] 27)).alloc (.cells #[.int .i64 Rx, .int .i64 Cx, .slice X nx cx] 27)) from by have h := L1.out.put #[.int .i64 Rx, .int .i64 Cx, .slice X nx cx]; (try simp only [World.size_alloc] at h); exact h)
  have L3 := Lib.hid (show MS _ _ _ ((w.heap.size + 1 + 1, #[.int .i64 Rb, .int .i64 Cb, .slice B nb cb]) :: _) (((w.alloc (.cells #[.int .i64 (r : Int), .int .i64 (c : Int), .slice A (r * c) ca] 27)).alloc (.cells #[.int .i64 Rx, .int .i64 Cx, .slice X nx cx] 27)).alloc (.cells #[.int .i64 Rb, .int .i64 Cb, .slice B nb cb] 27)) from by have h := L2.out.put #[.int .i64 Rb, .int .i64 Cb, .slice B nb cb]; (try simp only [World.size_alloc] at h); exact h)
  obtain ⟨a4, b4, d4⟩ := L3.out.cells (.tail _ (.tail _ (.head _)))
  go_wp2_with fail
  clear a4 b4 d4
  have H1 := L3
  clear L1 L2 L3
  generalize (((w.alloc (.cells #[.int .i64 (r : Int), .int .i64 (c : Int), .slice A (r * c) ca] 27)).alloc (.cells #[.int .i64 Rx, .int .i64 Cx, .slice X nx cx] 27)).alloc (.cells #[.int .i64 Rb, .int .i64 Cb, .slice B nb cb] 27)) = w1 at *
  refine (smallR H1.out 8 (by decide) (v := true) HSa.out).mono ?_
  rintro e w2 ⟨rfl, h⟩
  have H2 := Lib.hid h
  clear h
  obtain ⟨a5, b5, d5⟩ := H2.out.cells (.tail _ (.head _))
  go_wp2_with fail
  clear a5 b5 d5
  refine (smallR H2.out 8 (by decide) (v := true) HSx.out).mono ?_
  rintro e w3 ⟨rfl, h⟩
  have H3 := Lib.hid h
  clear h
  obtain ⟨a6, b6, d6⟩ := H3.out.cells (.head _)
  go_wp2_with fail
  clear a6 b6 d6
  refine (smallR H3.out 8 (by decide) (v := true) HSb.out).mono ?_
  rintro e w4 ⟨rfl, h⟩
  have H4 := Lib.hid h
  clear h
  obtain ⟨a7, b7, d7⟩ := H4.out.cells (.tail _ (.tail _ (.head _)))
  go_wp2_with fail
  clear a7 b7 d7
  refine (rightR H4.out (v := true) (right_dim (by have := HD.out; omega) rfl)).mono ?_
  rintro e w5 ⟨rfl, h⟩
  have H5 := Lib.hid h
  clear h
  go_wp2_with fail
  refine (newR H5.out).mono ?_
  rintro e w6 ⟨rfl, h⟩
  have H6 := Lib.hid h
  clear h
  obtain ⟨a8, b8, d8⟩ := H6.out.cells (.tail _ (.tail _ (.head _)))
  go_wp2_with fail
  clear a8 b8 d8
  refine (rankR H6.out (r := r) (c := c) (.tail _ (.tail _ (.head _))) rfl ⟨rfl, rfl⟩ (by have := HD.out; omega) rfl (k : Int) (by rw [HK.out])).mono ?_
  rintro e w7 ⟨rfl, h⟩
  have H7 := Lib.hid h
  clear h
  obtain ⟨a9, b9, d9⟩ := H7.out.cells (.tail _ (.tail _ (.head _)))
  obtain ⟨a10, b10, d10⟩ := H7.out.cells (.tail _ (.head _))
  go_wp2_with fail
  clear a9 b9 d9 a10 b10 d10
  refine (mulR H7.out (r := r) (c := c) (d := d) (.tail _ (.tail _ (.head _))) (.tail _ (.head _)) rfl HM.out.2.2.1 ⟨rfl, rfl, HM.out.1, HM.out.2.1⟩ (by have := HD.out; have := HM.out.2.2.2; omega) rfl HMX.out r Cx (r * d) ⟨rfl, HM.out.2.1, rfl⟩ rfl).mono ?_
  rintro e w8 ⟨A8, c8, rfl, h⟩
  have H8 := Lib.hid h
  clear h
  have L11 := Lib.hid (show MS _ _ _ ((w8.heap.size, #[.int .i64 (r : Int), .int .i64 Cx, .slice A8 (r * d) c8]) :: _) (w8.alloc (.cells #[.int .i64 (r : Int), .int .i64 Cx, .slice A8 (r * d) c8] 27)) from by have h := H8.out.put #[.int .i64 (r : Int), .int .i64 Cx, .slice A8 (r * d) c8]; (try simp only [World.size_alloc] at h); exact h)
  obtain ⟨a12, b12, d12⟩ := L11.out.cells (.tail _ (.tail _ (.tail _ (.head _))))
  obtain ⟨a13, b13, d13⟩ := L11.out.cells (.head _)
  go_wp2_with fail
  clear a12 b12 d12 a13 b13 d13
  have H9 := L11
  clear L11
  generalize (w8.alloc (.cells #[.int .i64 (r : Int), .int .i64 Cx, .slice A8 (r * d) c8] 27)) = w9 at *
  refine (solveR H9.out (r := r) (c := c) (d := d) (.tail _ (.tail _ (.tail _ (.head _)))) (.head _) rfl rfl ⟨rfl, rfl, rfl, HM.out.2.1⟩ (by have := HD.out; have := HM.out.2.2.2; omega) rfl rfl (solve_full HKC.out).1 Rx Cx nx ⟨HM.out.1, HM.out.2.1, HM.out.2.2.1⟩ (l := lx) ((solve_full HKC.out).2.trans HMX.out.symm)).mono ?_
  rintro e w10 ⟨A10, c10, rfl, h⟩
  have H10 := Lib.hid h
  clear h
  have L14 := Lib.hid (show MS _ _ _ ((w10.heap.size, #[.int .i64 Rx, .int .i64 Cx, .slice A10 nx c10]) :: _) (w10.alloc (.cells #[.int .i64 Rx, .int .i64 Cx, .slice A10 nx c10] 27)) from by have h := H10.out.put #[.int .i64 Rx, .int .i64 Cx, .slice A10 nx c10]; (try simp only [World.size_alloc] at h); exact h)
  obtain ⟨a15, b15, d15⟩ := L14.out.cells (.tail _ (.tail _ (.tail _ (.tail _ (.head _)))))
  obtain ⟨a16, b16, d16⟩ := L14.out.cells (.tail _ (.tail _ (.tail _ (.head _))))
  obtain ⟨a17, b17, d17⟩ := L14.out.cells (.head _)
  go_wp2_with fail
  clear a15 b15 d15 a16 b16 d16 a17 b17 d17
  have H11 := L14
  clear L14
  generalize (w10.alloc (.cells #[.int .i64 Rx, .int .i64 Cx, .slice A10 nx c10] 27)) = w11 at *
  refine (sameR H11.out (.head _) HLNx.out (.tail _ (.tail _ (.tail _ (.head _)))) HLNx.out (v := true) (sameB_self _ _ _)).mono ?_
  rintro e w12 ⟨rfl, h⟩
  have H12 := Lib.hid h
  clear h
  obtain ⟨a18, b18, d18⟩ := H12.out.cells (.tail _ (.tail _ (.tail _ (.tail _ (.head _)))))
  obtain ⟨a19, b19, d19⟩ := H12.out.cells (.tail _ (.tail _ (.head _)))
  go_wp2_with fail
  clear a18 b18 d18 a19 b19 d19
  cases hb : solB (r : Int) (c : Int) (r * c) Rb Cb nb with
  | false =>
    have HB := Lib.hid hb
    clear hb
    refine (solve0R H12.out _ HB.out).mono ?_
    rintro e w13 ⟨rfl, h⟩
    have H13 := Lib.hid h
    clear h
    obtain ⟨a20, b20, d20⟩ := H13.out.cells (.tail _ (.tail _ (.tail _ (.tail _ (.head _)))))
    obtain ⟨a21, b21, d21⟩ := H13.out.cells (.tail _ (.tail _ (.head _)))
    have L22 := Lib.hid (show MS _ _ _ ((w13.heap.size, #[.int .i64 0, .int .i64 0, .slice none 0 0]) :: _) (w13.alloc (.cells #[.int .i64 0, .int .i64 0, .slice none 0 0] 27)) from by have h := H13.out.put #[.int .i64 0, .int .i64 0, .slice none 0 0]; (try simp only [World.size_alloc] at h); exact h)
    obtain ⟨a23, b23, d23⟩ := L22.out.cells (.tail _ (.tail _ (.tail _ (.tail _ (.tail _ (.head _))))))
    go_wp2_with fail
    clear a20 b20 d20 a21 b21 d21 a23 b23 d23
    have H14 := L22
    clear L22
    generalize (w13.alloc (.cells #[.int .i64 0, .int .i64 0, .slice none 0 0] 27)) = w14 at *
    by_cases hrc : r = c
    · have HRC := Lib.hid (show c = r from hrc.symm)
      have hrc1 : ((r : Int) != (c : Int)) = false := by simp; omega
      clear hrc
      cases hi : solves r r r ma idm with
      | false =>
        have HI := Lib.hid hi
        have hkr : (k : Int) < (r : Int) := by
          have h1 := HK.out; have h2 := HKM.out
          have h3 : k ≠ r := fun e => by
            rw [HRC.out] at h1
            rw [solve_sq (h1.trans e)] at hi; cases hi
          omega
        clear hi
        refine (inv1R H14.out (r := r) (.tail _ (.tail _ (.tail _ (.tail _ (.head _))))) (by rw [HRC.out]) ⟨rfl, by rw [HRC.out]⟩ (by have := HD.out; omega) (by rw [HRC.out]) HI.out).mono ?_
        rintro e w15 ⟨rfl, h⟩
        have H15 := Lib.hid h
        clear h
        obtain ⟨a24, b24, d24⟩ := H15.out.cells (.tail _ (.tail _ (.tail _ (.tail _ (.tail _ (.head _))))))
        have L25 := Lib.hid (show MS _ _ _ ((w15.heap.size, #[.int .i64 0, .int .i64 0, .slice none 0 0]) :: _) (w15.alloc (.cells #[.int .i64 0, .int .i64 0, .slice none 0 0] 27)) from by have h := H15.out.put #[.int .i64 0, .int .i64 0, .slice none 0 0]; (try simp only [World.size_alloc] at h); exact h)
        obtain ⟨a26, b26, d26⟩ := L25.out.cells (.tail _ (.tail _ (.tail _ (.tail _ (.tail _ (.tail _ (.head _)))))))
        go_wp2_with fail
        clear a24 b24 d24 a26 b26 d26
        have H16 := L25
        clear L25
        generalize (w15.alloc (.cells #[.int .i64 0, .int .i64 0, .slice none 0 0] 27)) = w16 at *
        refine (works_any _).mono ?_
        rintro e w17 ⟨rfl, hb⟩
        have H17 := Lib.hid (MS.keep H16.out hb)
        clear hb
        go_wp2_with fail
        go_ret
        exact ⟨rfl, H17.out.below⟩
      | true =>
        have HI := Lib.hid hi
        have hkr : ((k : Int) == (r : Int)) = true := by
          have h1 := HK.out; have h2 := solve_rank hi
          rw [HRC.out] at h1; simp; omega
        clear hi
        refine (invR H14.out (r := r) (.tail _ (.tail _ (.tail _ (.tail _ (.head _))))) (by rw [HRC.out]) ⟨rfl, by rw [HRC.out]⟩ (by have := HD.out; omega) (by rw [HRC.out]) HI.out r (r * r) ⟨rfl, rfl⟩ rfl).mono ?_
        rintro e w15 ⟨A15, c15, rfl, h⟩
        have H15 := Lib.hid h
        clear h
        obtain ⟨a24, b24, d24⟩ := H15.out.cells (.tail _ (.tail _ (.tail _ (.tail _ (.tail _ (.head _))))))
        have L25 := Lib.hid (show MS _ _ _ ((w15.heap.size, #[.int .i64 (r : Int), .int .i64 (r : Int), .slice A15 (r * r) c15]) :: _) (w15.alloc (.cells #[.int .i64 (r : Int), .int .i64 (r : Int), .slice A15 (r * r) c15] 27)) from by have h := H15.out.put #[.int .i64 (r : Int), .int .i64 (r : Int), .slice A15 (r * r) c15]; (try simp only [World.size_alloc] at h); exact h)
        obtain ⟨a26, b26, d26⟩ := L25.out.cells (.tail _ (.tail _ (.tail _ (.tail _ (.tail _ (.tail _ (.head _)))))))
        obtain ⟨a27, b27, d27⟩ := L25.out.cells (.head _)
        go_wp2_with fail
        clear a24 b24 d24 a26 b26 d26 a27 b27 d27
        have H16 := L25
        clear L25
        generalize (w15.alloc (.cells #[.int .i64 (r : Int), .int .i64 (r : Int), .slice A15 (r * r) c15] 27)) = w16 at *
        refine (mulR H16.out (r := r) (c := r) (d := r) (.tail _ (.tail _ (.tail _ (.tail _ (.tail _ (.head _)))))) (.head _) (by rw [HRC.out]) rfl ⟨rfl, by rw [HRC.out], rfl, rfl⟩ (by have := HD.out; omega) (by rw [HRC.out]) rfl r r (r * r) ⟨rfl, rfl, rfl⟩ (l := flat r r idm) (inv_right HI.out)).mono ?_
        rintro e w17 ⟨A17, c17, rfl, h⟩
        have H17 := Lib.hid h
        clear h
        have L28 := Lib.hid (show MS _ _ _ ((w17.heap.size, #[.int .i64 (r : Int), .int .i64 (r : Int), .slice A17 (r * r) c17]) :: _) (w17.alloc (.cells #[.int .i64 (r : Int), .int .i64 (r : Int), .slice A17 (r * r) c17] 27)) from by have h := H17.out.put #[.int .i64 (r : Int), .int .i64 (r : Int), .slice A17 (r * r) c17]; (try simp only [World.size_alloc] at h); exact h)
        obtain ⟨a29, b29, d29⟩ := L28.out.cells (.tail _ (.tail _ (.tail _ (.tail _ (.tail _ (.tail _ (.tail _ (.head _))))))))
        obtain ⟨a30, b30, d30⟩ := L28.out.cells (.tail _ (.head _))
        go_wp2_with fail
        clear a29 b29 d29 a30 b30 d30
        have H18 := L28
        clear L28
        generalize (w17.alloc (.cells #[.int .i64 (r : Int), .int .i64 (r : Int), .slice A17 (r * r) c17] 27)) = w18 at *
        refine (mulR H18.out (r := r) (c := r) (d := r) (.tail _ (.head _)) (.tail _ (.tail _ (.tail _ (.tail _ (.tail _ (.tail _ (.head _))))))) rfl (by rw [HRC.out]) ⟨rfl, rfl, rfl, by rw [HRC.out]⟩ (by have := HD.out; omega) rfl (by rw [HRC.out]) r r (r * r) ⟨rfl, rfl, rfl⟩ (l := flat r r idm) (inv_left HI.out)).mono ?_
        rintro e w19 ⟨A19, c19, rfl, h⟩
        have H19 := Lib.hid h
        clear h
        have L31 := Lib.hid (show MS _ _ _ ((w19.heap.size, #[.int .i64 (r : Int), .int .i64 (r : Int), .slice A19 (r * r) c19]) :: _) (w19.alloc (.cells #[.int .i64 (r : Int), .int .i64 (r : Int), .slice A19 (r * r) c19] 27)) from by have h := H19.out.put #[.int .i64 (r : Int), .int .i64 (r : Int), .slice A19 (r * r) c19]; (try simp only [World.size_alloc] at h); exact h)
        go_wp2_with fail
        have H20 := L31
        clear L31
        generalize (w19.alloc (.cells #[.int .i64 (r : Int), .int .i64 (r : Int), .slice A19 (r * r) c19] 27)) = w20 at *
        refine wp_region_noPanic ?_
        refine wp_heldG (fun w' => (w'.cell? ⟨w.heap.size, 0, none⟩ = some (.int .i64 (r : Int)) ∧ w'.cell? ⟨w.heap.size, 1, none⟩ = some (.int .i64 (c : Int)) ∧ w'.cell? ⟨w.heap.size, 2, none⟩ = some (.slice A (r * c) ca)) ∧ (w'.cell? ⟨w17.heap.size, 0, none⟩ = some (.int .i64 (r : Int)) ∧ w'.cell? ⟨w17.heap.size, 1, none⟩ = some (.int .i64 (r : Int)) ∧ w'.cell? ⟨w17.heap.size, 2, none⟩ = some (.slice A17 (r * r) c17)) ∧ (w'.cell? ⟨w19.heap.size, 0, none⟩ = some (.int .i64 (r : Int)) ∧ w'.cell? ⟨w19.heap.size, 1, none⟩ = some (.int .i64 (r : Int)) ∧ w'.cell? ⟨w19.heap.size, 2, none⟩ = some (.slice A19 (r * r) c19))) [] (by kernel_rfl) ?hs0 ?rg0
        case hs0 =>
          have h := H20.out.keep (nextN (Mem.start w20) 1)
          exact ⟨h.cells (.tail _ (.tail _ (.tail _ (.tail _ (.tail _ (.tail _ (.tail _ (.tail _ (.head _))))))))), h.cells (.tail _ (.head _)), h.cells (.head _)⟩
        case rg0 =>
        intro hHeld
        have HD20 := Lib.hid (show MS _ _ _ _ w20.drew from H20.out.keep (nextN (Mem.start w20) 1))
        generalize w20.drew = wd20 at *
        refine wpAnyG_pure (i := 0) (oi := { dst := some 161, op := Op.move (Operand.tmp 8), type := 3, pos := _, after := #[], guard := none }) (v := ?_) rfl (by kernel_rfl) (by kernel_rfl) (by kernel_rfl) (by kernel_rfl) (fun _ _ _ h => h) (Or.inl ⟨by rfl, ?_⟩) (fun _ => by assumption) ?_
        rotate_left
        · intro w hSw
          try dsimp only at hSw
          go_simp
          try with_reducible rfl
        try simp only [Act.put, List.setIfInBounds_toArray, List.set_cons_zero, List.set_cons_succ]
        refine wpAnyG_pure (i := 1) (oi := { dst := some 162, op := Op.fieldAddr 27 (Operand.tmp 3) 0, type := 0, pos := _, after := #[], guard := none }) (v := ?_) rfl (by kernel_rfl) (by kernel_rfl) (by kernel_rfl) (by kernel_rfl) (fun _ _ _ h => h) (Or.inl ⟨by rfl, ?_⟩) (fun _ => by assumption) ?_
        rotate_left
        · intro w hSw
          try dsimp only at hSw
          go_simp
          try with_reducible rfl
        try simp only [Act.put, List.setIfInBounds_toArray, List.set_cons_zero, List.set_cons_succ]
        refine wpAnyG_take (i := 2) (oi := { dst := some 163, op := Op.load 3 (Operand.tmp 162), type := 3, pos := _, after := #[{ on := 1, ground := Ground.data }], guard := none }) (v := ?_) rfl (by kernel_rfl) (by kernel_rfl) (by kernel_rfl) (by kernel_rfl) (fun _ _ _ h => h) (Or.inl ⟨by rfl, ?_⟩) (by assumption) ?_
        rotate_left
        · intro w hSw
          try dsimp only at hSw
          obtain ⟨⟨k0, k1, k2⟩, ⟨l0, l1, l2⟩, ⟨n0, n1, n2⟩⟩ := hSw
          go_simp
          try with_reducible rfl
        try simp only [Act.put, List.setIfInBounds_toArray, List.set_cons_zero, List.set_cons_succ]
        refine wpAnyG_pure (i := 3) (oi := { dst := some 164, op := Op.binOp BinOp.eql 3 (Operand.tmp 161) (Operand.tmp 163) 3, type := 4, pos := _, after := #[{ on := 0, ground := Ground.data }, { on := 2, ground := Ground.data }], guard := none }) (v := ?_) rfl (by kernel_rfl) (by kernel_rfl) (by kernel_rfl) (by kernel_rfl) (fun _ _ _ h => h) (Or.inl ⟨by rfl, ?_⟩) (fun _ => by assumption) ?_
        rotate_left
        · intro w hSw
          try dsimp only at hSw
          go_simp
          try with_reducible rfl
        try simp only [Act.put, List.setIfInBounds_toArray, List.set_cons_zero, List.set_cons_succ]
        refine wpAnyG_pure (i := 4) (oi := { dst := some 165, op := Op.move (Operand.tmp 164), type := 4, pos := _, after := #[{ on := 3, ground := Ground.data }], guard := none }) (v := ?_) rfl (by kernel_rfl) (by kernel_rfl) (by kernel_rfl) (by kernel_rfl) (fun _ _ _ h => h) (Or.inl ⟨by rfl, ?_⟩) (fun _ => by assumption) ?_
        rotate_left
        · intro w hSw
          try dsimp only at hSw
          go_simp
          try with_reducible rfl
        try simp only [Act.put, List.setIfInBounds_toArray, List.set_cons_zero, List.set_cons_succ]
        refine wpAnyG_take (i := 5) (oi := { dst := some 166, op := Op.load 27 (Operand.tmp 20), type := 27, pos := _, after := #[{ on := 4, ground := Ground.guard }], guard := some (4, true) }) (v := ?_) rfl (by kernel_rfl) (by kernel_rfl) (by kernel_rfl) (by kernel_rfl) (fun _ _ _ h => h) (Or.inl ⟨by rfl, ?_⟩) (by assumption) ?_
        rotate_left
        · intro w hSw
          try dsimp only at hSw
          obtain ⟨⟨k0, k1, k2⟩, ⟨l0, l1, l2⟩, ⟨n0, n1, n2⟩⟩ := hSw
          go_simp
          try with_reducible rfl
        try simp only [Act.put, List.setIfInBounds_toArray, List.set_cons_zero, List.set_cons_succ]
        refine wpAnyG_pure (i := 6) (oi := { dst := some 167, op := Op.fieldAddr 27 (Operand.tmp 3) 0, type := 0, pos := _, after := #[{ on := 4, ground := Ground.guard }], guard := some (4, true) }) (v := ?_) rfl (by kernel_rfl) (by kernel_rfl) (by kernel_rfl) (by kernel_rfl) (fun _ _ _ h => h) (Or.inl ⟨by rfl, ?_⟩) (fun _ => by assumption) ?_
        rotate_left
        · intro w hSw
          try dsimp only at hSw
          go_simp
          try with_reducible rfl
        try simp only [Act.put, List.setIfInBounds_toArray, List.set_cons_zero, List.set_cons_succ]
        refine wpAnyG_take (i := 7) (oi := { dst := some 168, op := Op.load 3 (Operand.tmp 167), type := 3, pos := _, after := #[{ on := 6, ground := Ground.data }, { on := 4, ground := Ground.guard }], guard := some (4, true) }) (v := ?_) rfl (by kernel_rfl) (by kernel_rfl) (by kernel_rfl) (by kernel_rfl) (fun _ _ _ h => h) (Or.inl ⟨by rfl, ?_⟩) (by assumption) ?_
        rotate_left
        · intro w hSw
          try dsimp only at hSw
          obtain ⟨⟨k0, k1, k2⟩, ⟨l0, l1, l2⟩, ⟨n0, n1, n2⟩⟩ := hSw
          go_simp
          try with_reducible rfl
        try simp only [Act.put, List.setIfInBounds_toArray, List.set_cons_zero, List.set_cons_succ]
        refine wpAnyG_one (i := 8) (o := { dst := some 169, op := Op.call { callee := Callee.value (Operand.func 27), args := #[Operand.tmp 168], argTypes := #[3] }, type := 27, pos := _, after := #[{ on := 7, ground := Ground.data }, { on := 4, ground := Ground.chain }, { on := 4, ground := Ground.guard }], guard := some (4, true) }) (by kernel_rfl) rfl (fun K hK => ?_)
        go_simp
        refine (oneR HD20.out (r := r) rfl (by have := HD.out; omega) (r * r) rfl rfl).mono ?_
        rintro e w21 ⟨A21, c21, rfl, h⟩
        have H21 := Lib.hid h
        clear h
        try dsimp only
        refine hK.out _ _ ?_ (fun hHeld => ?_)
        · intro _
          try dsimp only
          have h := H21.out
          exact ⟨h.cells (.tail _ (.tail _ (.tail _ (.tail _ (.tail _ (.tail _ (.tail _ (.tail _ (.head _))))))))), h.cells (.tail _ (.head _)), h.cells (.head _)⟩
        clear hK K
        try simp only [Act.put, List.setIfInBounds_toArray, List.set_cons_zero, List.set_cons_succ]
        have hHeld := hHeld (by kernel_rfl)
        refine wpAnyG_one (i := 9) (o := { dst := some 170, op := Op.call { callee := Callee.value (Operand.func 24), args := #[Operand.tmp 166, Operand.tmp 169], argTypes := #[27, 27] }, type := 4, pos := _, after := #[{ on := 5, ground := Ground.data }, { on := 8, ground := Ground.data }, { on := 8, ground := Ground.chain }, { on := 4, ground := Ground.guard }], guard := some (4, true) }) (by kernel_rfl) rfl (fun K hK => ?_)
        go_simp
        refine (sameR H21.out (.tail _ (.tail _ (.head _))) (flat_len _ _ _) (.head _) (flat_len _ _ _) (v := true) (sameB_self _ _ _)).mono ?_
        rintro e w22 ⟨rfl, h⟩
        have H22 := Lib.hid h
        clear h
        try dsimp only
        refine hK.out _ _ ?_ (fun hHeld => ?_)
        · intro _
          try dsimp only
          have h := H22.out
          exact ⟨h.cells (.tail _ (.tail _ (.tail _ (.tail _ (.tail _ (.tail _ (.tail _ (.tail _ (.head _))))))))), h.cells (.tail _ (.head _)), h.cells (.head _)⟩
        clear hK K
        try simp only [Act.put, List.setIfInBounds_toArray, List.set_cons_zero, List.set_cons_succ]
        have hHeld := hHeld (by kernel_rfl)
        refine wpAnyG_pure (i := 10) (oi := { dst := some 171, op := Op.pick (Operand.tmp 165) (Operand.tmp 170) (Operand.const (Value.bool false)), type := 4, pos := _, after := #[{ on := 4, ground := Ground.data }, { on := 9, ground := Ground.data }], guard := none }) (v := ?_) rfl (by kernel_rfl) (by kernel_rfl) (by kernel_rfl) (by kernel_rfl) (fun _ _ _ h => h) (Or.inl ⟨by rfl, ?_⟩) (fun _ => by assumption) ?_
        rotate_left
        · intro w hSw
          try dsimp only at hSw
          go_simp
          try with_reducible rfl
        try simp only [Act.put, List.setIfInBounds_toArray, List.set_cons_zero, List.set_cons_succ]
        refine wpAnyG_pure (i := 11) (oi := { dst := some 172, op := Op.move (Operand.tmp 171), type := 4, pos := _, after := #[{ on := 10, ground := Ground.data }, { on := 9, ground := Ground.chain }], guard := none }) (v := ?_) rfl (by kernel_rfl) (by kernel_rfl) (by kernel_rfl) (by kernel_rfl) (fun _ _ _ h => h) (Or.inl ⟨by rfl, ?_⟩) (fun _ => by assumption) ?_
        rotate_left
        · intro w hSw
          try dsimp only at hSw
          go_simp
          try with_reducible rfl
        try simp only [Act.put, List.setIfInBounds_toArray, List.set_cons_zero, List.set_cons_succ]
        refine wpAnyG_take (i := 12) (oi := { dst := some 173, op := Op.load 27 (Operand.tmp 22), type := 27, pos := _, after := #[{ on := 11, ground := Ground.guard }], guard := some (11, true) }) (v := ?_) rfl (by kernel_rfl) (by kernel_rfl) (by kernel_rfl) (by kernel_rfl) (fun _ _ _ h => h) (Or.inl ⟨by rfl, ?_⟩) (by assumption) ?_
        rotate_left
        · intro w hSw
          try dsimp only at hSw
          obtain ⟨⟨k0, k1, k2⟩, ⟨l0, l1, l2⟩, ⟨n0, n1, n2⟩⟩ := hSw
          go_simp
          try with_reducible rfl
        try simp only [Act.put, List.setIfInBounds_toArray, List.set_cons_zero, List.set_cons_succ]
        refine wpAnyG_take (i := 13) (oi := { dst := some 174, op := Op.load 27 (Operand.tmp 20), type := 27, pos := _, after := #[{ on := 11, ground := Ground.guard }], guard := some (11, true) }) (v := ?_) rfl (by kernel_rfl) (by kernel_rfl) (by kernel_rfl) (by kernel_rfl) (fun _ _ _ h => h) (Or.inl ⟨by rfl, ?_⟩) (by assumption) ?_
        rotate_left
        · intro w hSw
          try dsimp only at hSw
          obtain ⟨⟨k0, k1, k2⟩, ⟨l0, l1, l2⟩, ⟨n0, n1, n2⟩⟩ := hSw
          go_simp
          try with_reducible rfl
        try simp only [Act.put, List.setIfInBounds_toArray, List.set_cons_zero, List.set_cons_succ]
        refine wpAnyG_one (i := 14) (o := { dst := some 175, op := Op.call { callee := Callee.value (Operand.func 24), args := #[Operand.tmp 173, Operand.tmp 174], argTypes := #[27, 27] }, type := 4, pos := _, after := #[{ on := 12, ground := Ground.data }, { on := 13, ground := Ground.data }, { on := 11, ground := Ground.chain }, { on := 11, ground := Ground.guard }], guard := some (11, true) }) (by kernel_rfl) rfl (fun K hK => ?_)
        go_simp
        refine (sameR H22.out (.tail _ (.head _)) (flat_len _ _ _) (.tail _ (.tail _ (.head _))) (flat_len _ _ _) (v := true) (sameB_self _ _ _)).mono ?_
        rintro e w23 ⟨rfl, h⟩
        have H23 := Lib.hid h
        clear h
        try dsimp only
        refine hK.out _ _ ?_ (fun hHeld => ?_)
        · intro _
          try dsimp only
          have h := H23.out
          exact ⟨h.cells (.tail _ (.tail _ (.tail _ (.tail _ (.tail _ (.tail _ (.tail _ (.tail _ (.head _))))))))), h.cells (.tail _ (.head _)), h.cells (.head _)⟩
        clear hK K
        try simp only [Act.put, List.setIfInBounds_toArray, List.set_cons_zero, List.set_cons_succ]
        have hHeld := hHeld (by kernel_rfl)
        refine wpAnyG_pure (i := 15) (oi := { dst := some 176, op := Op.pick (Operand.tmp 172) (Operand.tmp 175) (Operand.const (Value.bool false)), type := 4, pos := _, after := #[{ on := 11, ground := Ground.data }, { on := 14, ground := Ground.data }], guard := none }) (v := ?_) rfl (by kernel_rfl) (by kernel_rfl) (by kernel_rfl) (by kernel_rfl) (fun _ _ _ h => h) (Or.inl ⟨by rfl, ?_⟩) (fun _ => by assumption) ?_
        rotate_left
        · intro w hSw
          try dsimp only at hSw
          go_simp
          try with_reducible rfl
        try simp only [Act.put, List.setIfInBounds_toArray, List.set_cons_zero, List.set_cons_succ]
        refine wpAnyG_pure (i := 16) (oi := { dst := some 177, op := Op.move (Operand.tmp 176), type := 4, pos := _, after := #[{ on := 15, ground := Ground.data }, { on := 14, ground := Ground.chain }], guard := none }) (v := ?_) rfl (by kernel_rfl) (by kernel_rfl) (by kernel_rfl) (by kernel_rfl) (fun _ _ _ h => h) (Or.inl ⟨by rfl, ?_⟩) (fun _ => by assumption) ?_
        rotate_left
        · intro w hSw
          try dsimp only at hSw
          go_simp
          try with_reducible rfl
        try simp only [Act.put, List.setIfInBounds_toArray, List.set_cons_zero, List.set_cons_succ]
        refine wpAnyG_one (i := 17) (o := { dst := some 178, op := Op.call { callee := Callee.value (Operand.func 11), args := #[], argTypes := #[] }, type := 4, pos := _, after := #[{ on := 16, ground := Ground.chain }, { on := 16, ground := Ground.guard }], guard := some (16, true) }) (by kernel_rfl) rfl (fun K hK => ?_)
        go_simp
        refine (works_any _).mono ?_
        rintro e w24 ⟨rfl, hb⟩
        have H24 := Lib.hid (MS.keep H23.out hb)
        clear hb
        try dsimp only
        refine hK.out _ _ ?_ (fun hHeld => ?_)
        · intro _
          try dsimp only
          have h := H24.out
          exact ⟨h.cells (.tail _ (.tail _ (.tail _ (.tail _ (.tail _ (.tail _ (.tail _ (.tail _ (.head _))))))))), h.cells (.tail _ (.head _)), h.cells (.head _)⟩
        clear hK K
        try simp only [Act.put, List.setIfInBounds_toArray, List.set_cons_zero, List.set_cons_succ]
        have hHeld := hHeld (by kernel_rfl)
        refine wpAnyG_pure (i := 18) (oi := { dst := some 179, op := Op.pick (Operand.tmp 177) (Operand.tmp 178) (Operand.const (Value.bool false)), type := 4, pos := _, after := #[{ on := 16, ground := Ground.data }, { on := 17, ground := Ground.data }], guard := none }) (v := ?_) rfl (by kernel_rfl) (by kernel_rfl) (by kernel_rfl) (by kernel_rfl) (fun _ _ _ h => h) (Or.inl ⟨by rfl, ?_⟩) (fun _ => by assumption) ?_
        rotate_left
        · intro w hSw
          try dsimp only at hSw
          go_simp
          try with_reducible rfl
        try simp only [Act.put, List.setIfInBounds_toArray, List.set_cons_zero, List.set_cons_succ]
        refine wpAnyG_pure (i := 19) (oi := { dst := some 6, op := Op.assign (Operand.tmp 179), type := 4, pos := _, after := #[{ on := 18, ground := Ground.data }, { on := 17, ground := Ground.chain }, { on := 0, ground := Ground.phase }, { on := 1, ground := Ground.phase }, { on := 2, ground := Ground.phase }, { on := 3, ground := Ground.phase }, { on := 4, ground := Ground.phase }, { on := 5, ground := Ground.phase }, { on := 6, ground := Ground.phase }, { on := 7, ground := Ground.phase }, { on := 8, ground := Ground.phase }, { on := 9, ground := Ground.phase }, { on := 10, ground := Ground.phase }, { on := 11, ground := Ground.phase }, { on := 12, ground := Ground.phase }, { on := 13, ground := Ground.phase }, { on := 14, ground := Ground.phase }, { on := 15, ground := Ground.phase }, { on := 16, ground := Ground.phase }, { on := 17, ground := Ground.phase }, { on := 18, ground := Ground.phase }], guard := none }) (v := ?_) rfl (by kernel_rfl) (by kernel_rfl) (by kernel_rfl) (by kernel_rfl) (fun _ _ _ h => h) (Or.inl ⟨by rfl, ?_⟩) (fun _ => by assumption) ?_
        rotate_left
        · intro w hSw
          try dsimp only at hSw
          go_simp
          try with_reducible rfl
        try simp only [Act.put, List.setIfInBounds_toArray, List.set_cons_zero, List.set_cons_succ]
        refine wpAnyG_done (by kernel_rfl) ?_ _
        refine NoPanic.normal ?_
        go_wp2_with fail
        go_ret
        exact ⟨rfl, H24.out.below⟩
    · have HV := Lib.hid (show (rightB (r : Int) (c : Int) (r * c) && (r : Int) == (c : Int)) = false from by rw [Bool.and_eq_false_iff]; right; simp; omega)
      have hrc1 : ((r : Int) != (c : Int)) = true := by simp; omega
      clear hrc
      refine (inv0R H14.out _ HV.out).mono ?_
      rintro e w15 ⟨rfl, h⟩
      have H15 := Lib.hid h
      clear h
      obtain ⟨a24, b24, d24⟩ := H15.out.cells (.tail _ (.tail _ (.tail _ (.tail _ (.tail _ (.head _))))))
      have L25 := Lib.hid (show MS _ _ _ ((w15.heap.size, #[.int .i64 0, .int .i64 0, .slice none 0 0]) :: _) (w15.alloc (.cells #[.int .i64 0, .int .i64 0, .slice none 0 0] 27)) from by have h := H15.out.put #[.int .i64 0, .int .i64 0, .slice none 0 0]; (try simp only [World.size_alloc] at h); exact h)
      obtain ⟨a26, b26, d26⟩ := L25.out.cells (.tail _ (.tail _ (.tail _ (.tail _ (.tail _ (.tail _ (.head _)))))))
      go_wp2_with fail
      clear a24 b24 d24 a26 b26 d26
      have H16 := L25
      clear L25
      generalize (w15.alloc (.cells #[.int .i64 0, .int .i64 0, .slice none 0 0] 27)) = w16 at *
      refine (works_any _).mono ?_
      rintro e w17 ⟨rfl, hb⟩
      have H17 := Lib.hid (MS.keep H16.out hb)
      clear hb
      go_wp2_with fail
      go_ret
      exact ⟨rfl, H17.out.below⟩
  | true =>
    obtain ⟨d2, hb1, hb2, hb3⟩ := sol_nat hb
    have HB := Lib.hid (And.intro hb1 (And.intro hb2 (And.intro hb3 (show d2 ≤ 8 from by have h := of_decide_eq_true HSb.out; omega))))
    have HMB := Lib.hid (show lb = flat r d2 (ent lb d2) from (flat_ent (by rw [HLNb.out]; exact hb3)).symm)
    clear hb hb1 hb2 hb3
    cases hs : solves r c d2 ma (ent lb d2) with
    | false =>
      have HT := Lib.hid hs
      clear hs
      refine (solve1R H12.out (r := r) (c := c) (d := d2) (.tail _ (.tail _ (.tail _ (.tail _ (.head _))))) (.tail _ (.tail _ (.head _))) rfl HB.out.2.2.1 ⟨rfl, rfl, HB.out.1, HB.out.2.1⟩ (by have := HD.out; have := HB.out.2.2.2; omega) rfl HMB.out HT.out).mono ?_
      rintro e w13 ⟨rfl, h⟩
      have H13 := Lib.hid h
      clear h
      obtain ⟨a20, b20, d20⟩ := H13.out.cells (.tail _ (.tail _ (.tail _ (.tail _ (.head _)))))
      obtain ⟨a21, b21, d21⟩ := H13.out.cells (.tail _ (.tail _ (.head _)))
      have L22 := Lib.hid (show MS _ _ _ ((w13.heap.size, #[.int .i64 0, .int .i64 0, .slice none 0 0]) :: _) (w13.alloc (.cells #[.int .i64 0, .int .i64 0, .slice none 0 0] 27)) from by have h := H13.out.put #[.int .i64 0, .int .i64 0, .slice none 0 0]; (try simp only [World.size_alloc] at h); exact h)
      obtain ⟨a23, b23, d23⟩ := L22.out.cells (.tail _ (.tail _ (.tail _ (.tail _ (.tail _ (.head _))))))
      go_wp2_with fail
      clear a20 b20 d20 a21 b21 d21 a23 b23 d23
      have H14 := L22
      clear L22
      generalize (w13.alloc (.cells #[.int .i64 0, .int .i64 0, .slice none 0 0] 27)) = w14 at *
      by_cases hrc : r = c
      · have HRC := Lib.hid (show c = r from hrc.symm)
        have hrc1 : ((r : Int) != (c : Int)) = false := by simp; omega
        clear hrc
        cases hi : solves r r r ma idm with
        | false =>
          have HI := Lib.hid hi
          have hkr : (k : Int) < (r : Int) := by
            have h1 := HK.out; have h2 := HKM.out
            have h3 : k ≠ r := fun e => by
              rw [HRC.out] at h1
              rw [solve_sq (h1.trans e)] at hi; cases hi
            omega
          clear hi
          refine (inv1R H14.out (r := r) (.tail _ (.tail _ (.tail _ (.tail _ (.head _))))) (by rw [HRC.out]) ⟨rfl, by rw [HRC.out]⟩ (by have := HD.out; omega) (by rw [HRC.out]) HI.out).mono ?_
          rintro e w15 ⟨rfl, h⟩
          have H15 := Lib.hid h
          clear h
          obtain ⟨a24, b24, d24⟩ := H15.out.cells (.tail _ (.tail _ (.tail _ (.tail _ (.tail _ (.head _))))))
          have L25 := Lib.hid (show MS _ _ _ ((w15.heap.size, #[.int .i64 0, .int .i64 0, .slice none 0 0]) :: _) (w15.alloc (.cells #[.int .i64 0, .int .i64 0, .slice none 0 0] 27)) from by have h := H15.out.put #[.int .i64 0, .int .i64 0, .slice none 0 0]; (try simp only [World.size_alloc] at h); exact h)
          obtain ⟨a26, b26, d26⟩ := L25.out.cells (.tail _ (.tail _ (.tail _ (.tail _ (.tail _ (.tail _ (.head _)))))))
          go_wp2_with fail
          clear a24 b24 d24 a26 b26 d26
          have H16 := L25
          clear L25
          generalize (w15.alloc (.cells #[.int .i64 0, .int .i64 0, .slice none 0 0] 27)) = w16 at *
          refine (works_any _).mono ?_
          rintro e w17 ⟨rfl, hb⟩
          have H17 := Lib.hid (MS.keep H16.out hb)
          clear hb
          go_wp2_with fail
          go_ret
          exact ⟨rfl, H17.out.below⟩
        | true =>
          have HI := Lib.hid hi
          have hkr : ((k : Int) == (r : Int)) = true := by
            have h1 := HK.out; have h2 := solve_rank hi
            rw [HRC.out] at h1; simp; omega
          clear hi
          refine (invR H14.out (r := r) (.tail _ (.tail _ (.tail _ (.tail _ (.head _))))) (by rw [HRC.out]) ⟨rfl, by rw [HRC.out]⟩ (by have := HD.out; omega) (by rw [HRC.out]) HI.out r (r * r) ⟨rfl, rfl⟩ rfl).mono ?_
          rintro e w15 ⟨A15, c15, rfl, h⟩
          have H15 := Lib.hid h
          clear h
          obtain ⟨a24, b24, d24⟩ := H15.out.cells (.tail _ (.tail _ (.tail _ (.tail _ (.tail _ (.head _))))))
          have L25 := Lib.hid (show MS _ _ _ ((w15.heap.size, #[.int .i64 (r : Int), .int .i64 (r : Int), .slice A15 (r * r) c15]) :: _) (w15.alloc (.cells #[.int .i64 (r : Int), .int .i64 (r : Int), .slice A15 (r * r) c15] 27)) from by have h := H15.out.put #[.int .i64 (r : Int), .int .i64 (r : Int), .slice A15 (r * r) c15]; (try simp only [World.size_alloc] at h); exact h)
          obtain ⟨a26, b26, d26⟩ := L25.out.cells (.tail _ (.tail _ (.tail _ (.tail _ (.tail _ (.tail _ (.head _)))))))
          obtain ⟨a27, b27, d27⟩ := L25.out.cells (.head _)
          go_wp2_with fail
          clear a24 b24 d24 a26 b26 d26 a27 b27 d27
          have H16 := L25
          clear L25
          generalize (w15.alloc (.cells #[.int .i64 (r : Int), .int .i64 (r : Int), .slice A15 (r * r) c15] 27)) = w16 at *
          refine (mulR H16.out (r := r) (c := r) (d := r) (.tail _ (.tail _ (.tail _ (.tail _ (.tail _ (.head _)))))) (.head _) (by rw [HRC.out]) rfl ⟨rfl, by rw [HRC.out], rfl, rfl⟩ (by have := HD.out; omega) (by rw [HRC.out]) rfl r r (r * r) ⟨rfl, rfl, rfl⟩ (l := flat r r idm) (inv_right HI.out)).mono ?_
          rintro e w17 ⟨A17, c17, rfl, h⟩
          have H17 := Lib.hid h
          clear h
          have L28 := Lib.hid (show MS _ _ _ ((w17.heap.size, #[.int .i64 (r : Int), .int .i64 (r : Int), .slice A17 (r * r) c17]) :: _) (w17.alloc (.cells #[.int .i64 (r : Int), .int .i64 (r : Int), .slice A17 (r * r) c17] 27)) from by have h := H17.out.put #[.int .i64 (r : Int), .int .i64 (r : Int), .slice A17 (r * r) c17]; (try simp only [World.size_alloc] at h); exact h)
          obtain ⟨a29, b29, d29⟩ := L28.out.cells (.tail _ (.tail _ (.tail _ (.tail _ (.tail _ (.tail _ (.tail _ (.head _))))))))
          obtain ⟨a30, b30, d30⟩ := L28.out.cells (.tail _ (.head _))
          go_wp2_with fail
          clear a29 b29 d29 a30 b30 d30
          have H18 := L28
          clear L28
          generalize (w17.alloc (.cells #[.int .i64 (r : Int), .int .i64 (r : Int), .slice A17 (r * r) c17] 27)) = w18 at *
          refine (mulR H18.out (r := r) (c := r) (d := r) (.tail _ (.head _)) (.tail _ (.tail _ (.tail _ (.tail _ (.tail _ (.tail _ (.head _))))))) rfl (by rw [HRC.out]) ⟨rfl, rfl, rfl, by rw [HRC.out]⟩ (by have := HD.out; omega) rfl (by rw [HRC.out]) r r (r * r) ⟨rfl, rfl, rfl⟩ (l := flat r r idm) (inv_left HI.out)).mono ?_
          rintro e w19 ⟨A19, c19, rfl, h⟩
          have H19 := Lib.hid h
          clear h
          have L31 := Lib.hid (show MS _ _ _ ((w19.heap.size, #[.int .i64 (r : Int), .int .i64 (r : Int), .slice A19 (r * r) c19]) :: _) (w19.alloc (.cells #[.int .i64 (r : Int), .int .i64 (r : Int), .slice A19 (r * r) c19] 27)) from by have h := H19.out.put #[.int .i64 (r : Int), .int .i64 (r : Int), .slice A19 (r * r) c19]; (try simp only [World.size_alloc] at h); exact h)
          go_wp2_with fail
          have H20 := L31
          clear L31
          generalize (w19.alloc (.cells #[.int .i64 (r : Int), .int .i64 (r : Int), .slice A19 (r * r) c19] 27)) = w20 at *
          refine wp_region_noPanic ?_
          refine wp_heldG (fun w' => (w'.cell? ⟨w.heap.size, 0, none⟩ = some (.int .i64 (r : Int)) ∧ w'.cell? ⟨w.heap.size, 1, none⟩ = some (.int .i64 (c : Int)) ∧ w'.cell? ⟨w.heap.size, 2, none⟩ = some (.slice A (r * c) ca)) ∧ (w'.cell? ⟨w17.heap.size, 0, none⟩ = some (.int .i64 (r : Int)) ∧ w'.cell? ⟨w17.heap.size, 1, none⟩ = some (.int .i64 (r : Int)) ∧ w'.cell? ⟨w17.heap.size, 2, none⟩ = some (.slice A17 (r * r) c17)) ∧ (w'.cell? ⟨w19.heap.size, 0, none⟩ = some (.int .i64 (r : Int)) ∧ w'.cell? ⟨w19.heap.size, 1, none⟩ = some (.int .i64 (r : Int)) ∧ w'.cell? ⟨w19.heap.size, 2, none⟩ = some (.slice A19 (r * r) c19))) [] (by kernel_rfl) ?hs0 ?rg0
          case hs0 =>
            have h := H20.out.keep (nextN (Mem.start w20) 1)
            exact ⟨h.cells (.tail _ (.tail _ (.tail _ (.tail _ (.tail _ (.tail _ (.tail _ (.tail _ (.head _))))))))), h.cells (.tail _ (.head _)), h.cells (.head _)⟩
          case rg0 =>
          intro hHeld
          have HD20 := Lib.hid (show MS _ _ _ _ w20.drew from H20.out.keep (nextN (Mem.start w20) 1))
          generalize w20.drew = wd20 at *
          refine wpAnyG_pure (i := 0) (oi := { dst := some 161, op := Op.move (Operand.tmp 8), type := 3, pos := _, after := #[], guard := none }) (v := ?_) rfl (by kernel_rfl) (by kernel_rfl) (by kernel_rfl) (by kernel_rfl) (fun _ _ _ h => h) (Or.inl ⟨by rfl, ?_⟩) (fun _ => by assumption) ?_
          rotate_left
          · intro w hSw
            try dsimp only at hSw
            go_simp
            try with_reducible rfl
          try simp only [Act.put, List.setIfInBounds_toArray, List.set_cons_zero, List.set_cons_succ]
          refine wpAnyG_pure (i := 1) (oi := { dst := some 162, op := Op.fieldAddr 27 (Operand.tmp 3) 0, type := 0, pos := _, after := #[], guard := none }) (v := ?_) rfl (by kernel_rfl) (by kernel_rfl) (by kernel_rfl) (by kernel_rfl) (fun _ _ _ h => h) (Or.inl ⟨by rfl, ?_⟩) (fun _ => by assumption) ?_
          rotate_left
          · intro w hSw
            try dsimp only at hSw
            go_simp
            try with_reducible rfl
          try simp only [Act.put, List.setIfInBounds_toArray, List.set_cons_zero, List.set_cons_succ]
          refine wpAnyG_take (i := 2) (oi := { dst := some 163, op := Op.load 3 (Operand.tmp 162), type := 3, pos := _, after := #[{ on := 1, ground := Ground.data }], guard := none }) (v := ?_) rfl (by kernel_rfl) (by kernel_rfl) (by kernel_rfl) (by kernel_rfl) (fun _ _ _ h => h) (Or.inl ⟨by rfl, ?_⟩) (by assumption) ?_
          rotate_left
          · intro w hSw
            try dsimp only at hSw
            obtain ⟨⟨k0, k1, k2⟩, ⟨l0, l1, l2⟩, ⟨n0, n1, n2⟩⟩ := hSw
            go_simp
            try with_reducible rfl
          try simp only [Act.put, List.setIfInBounds_toArray, List.set_cons_zero, List.set_cons_succ]
          refine wpAnyG_pure (i := 3) (oi := { dst := some 164, op := Op.binOp BinOp.eql 3 (Operand.tmp 161) (Operand.tmp 163) 3, type := 4, pos := _, after := #[{ on := 0, ground := Ground.data }, { on := 2, ground := Ground.data }], guard := none }) (v := ?_) rfl (by kernel_rfl) (by kernel_rfl) (by kernel_rfl) (by kernel_rfl) (fun _ _ _ h => h) (Or.inl ⟨by rfl, ?_⟩) (fun _ => by assumption) ?_
          rotate_left
          · intro w hSw
            try dsimp only at hSw
            go_simp
            try with_reducible rfl
          try simp only [Act.put, List.setIfInBounds_toArray, List.set_cons_zero, List.set_cons_succ]
          refine wpAnyG_pure (i := 4) (oi := { dst := some 165, op := Op.move (Operand.tmp 164), type := 4, pos := _, after := #[{ on := 3, ground := Ground.data }], guard := none }) (v := ?_) rfl (by kernel_rfl) (by kernel_rfl) (by kernel_rfl) (by kernel_rfl) (fun _ _ _ h => h) (Or.inl ⟨by rfl, ?_⟩) (fun _ => by assumption) ?_
          rotate_left
          · intro w hSw
            try dsimp only at hSw
            go_simp
            try with_reducible rfl
          try simp only [Act.put, List.setIfInBounds_toArray, List.set_cons_zero, List.set_cons_succ]
          refine wpAnyG_take (i := 5) (oi := { dst := some 166, op := Op.load 27 (Operand.tmp 20), type := 27, pos := _, after := #[{ on := 4, ground := Ground.guard }], guard := some (4, true) }) (v := ?_) rfl (by kernel_rfl) (by kernel_rfl) (by kernel_rfl) (by kernel_rfl) (fun _ _ _ h => h) (Or.inl ⟨by rfl, ?_⟩) (by assumption) ?_
          rotate_left
          · intro w hSw
            try dsimp only at hSw
            obtain ⟨⟨k0, k1, k2⟩, ⟨l0, l1, l2⟩, ⟨n0, n1, n2⟩⟩ := hSw
            go_simp
            try with_reducible rfl
          try simp only [Act.put, List.setIfInBounds_toArray, List.set_cons_zero, List.set_cons_succ]
          refine wpAnyG_pure (i := 6) (oi := { dst := some 167, op := Op.fieldAddr 27 (Operand.tmp 3) 0, type := 0, pos := _, after := #[{ on := 4, ground := Ground.guard }], guard := some (4, true) }) (v := ?_) rfl (by kernel_rfl) (by kernel_rfl) (by kernel_rfl) (by kernel_rfl) (fun _ _ _ h => h) (Or.inl ⟨by rfl, ?_⟩) (fun _ => by assumption) ?_
          rotate_left
          · intro w hSw
            try dsimp only at hSw
            go_simp
            try with_reducible rfl
          try simp only [Act.put, List.setIfInBounds_toArray, List.set_cons_zero, List.set_cons_succ]
          refine wpAnyG_take (i := 7) (oi := { dst := some 168, op := Op.load 3 (Operand.tmp 167), type := 3, pos := _, after := #[{ on := 6, ground := Ground.data }, { on := 4, ground := Ground.guard }], guard := some (4, true) }) (v := ?_) rfl (by kernel_rfl) (by kernel_rfl) (by kernel_rfl) (by kernel_rfl) (fun _ _ _ h => h) (Or.inl ⟨by rfl, ?_⟩) (by assumption) ?_
          rotate_left
          · intro w hSw
            try dsimp only at hSw
            obtain ⟨⟨k0, k1, k2⟩, ⟨l0, l1, l2⟩, ⟨n0, n1, n2⟩⟩ := hSw
            go_simp
            try with_reducible rfl
          try simp only [Act.put, List.setIfInBounds_toArray, List.set_cons_zero, List.set_cons_succ]
          refine wpAnyG_one (i := 8) (o := { dst := some 169, op := Op.call { callee := Callee.value (Operand.func 27), args := #[Operand.tmp 168], argTypes := #[3] }, type := 27, pos := _, after := #[{ on := 7, ground := Ground.data }, { on := 4, ground := Ground.chain }, { on := 4, ground := Ground.guard }], guard := some (4, true) }) (by kernel_rfl) rfl (fun K hK => ?_)
          go_simp
          refine (oneR HD20.out (r := r) rfl (by have := HD.out; omega) (r * r) rfl rfl).mono ?_
          rintro e w21 ⟨A21, c21, rfl, h⟩
          have H21 := Lib.hid h
          clear h
          try dsimp only
          refine hK.out _ _ ?_ (fun hHeld => ?_)
          · intro _
            try dsimp only
            have h := H21.out
            exact ⟨h.cells (.tail _ (.tail _ (.tail _ (.tail _ (.tail _ (.tail _ (.tail _ (.tail _ (.head _))))))))), h.cells (.tail _ (.head _)), h.cells (.head _)⟩
          clear hK K
          try simp only [Act.put, List.setIfInBounds_toArray, List.set_cons_zero, List.set_cons_succ]
          have hHeld := hHeld (by kernel_rfl)
          refine wpAnyG_one (i := 9) (o := { dst := some 170, op := Op.call { callee := Callee.value (Operand.func 24), args := #[Operand.tmp 166, Operand.tmp 169], argTypes := #[27, 27] }, type := 4, pos := _, after := #[{ on := 5, ground := Ground.data }, { on := 8, ground := Ground.data }, { on := 8, ground := Ground.chain }, { on := 4, ground := Ground.guard }], guard := some (4, true) }) (by kernel_rfl) rfl (fun K hK => ?_)
          go_simp
          refine (sameR H21.out (.tail _ (.tail _ (.head _))) (flat_len _ _ _) (.head _) (flat_len _ _ _) (v := true) (sameB_self _ _ _)).mono ?_
          rintro e w22 ⟨rfl, h⟩
          have H22 := Lib.hid h
          clear h
          try dsimp only
          refine hK.out _ _ ?_ (fun hHeld => ?_)
          · intro _
            try dsimp only
            have h := H22.out
            exact ⟨h.cells (.tail _ (.tail _ (.tail _ (.tail _ (.tail _ (.tail _ (.tail _ (.tail _ (.head _))))))))), h.cells (.tail _ (.head _)), h.cells (.head _)⟩
          clear hK K
          try simp only [Act.put, List.setIfInBounds_toArray, List.set_cons_zero, List.set_cons_succ]
          have hHeld := hHeld (by kernel_rfl)
          refine wpAnyG_pure (i := 10) (oi := { dst := some 171, op := Op.pick (Operand.tmp 165) (Operand.tmp 170) (Operand.const (Value.bool false)), type := 4, pos := _, after := #[{ on := 4, ground := Ground.data }, { on := 9, ground := Ground.data }], guard := none }) (v := ?_) rfl (by kernel_rfl) (by kernel_rfl) (by kernel_rfl) (by kernel_rfl) (fun _ _ _ h => h) (Or.inl ⟨by rfl, ?_⟩) (fun _ => by assumption) ?_
          rotate_left
          · intro w hSw
            try dsimp only at hSw
            go_simp
            try with_reducible rfl
          try simp only [Act.put, List.setIfInBounds_toArray, List.set_cons_zero, List.set_cons_succ]
          refine wpAnyG_pure (i := 11) (oi := { dst := some 172, op := Op.move (Operand.tmp 171), type := 4, pos := _, after := #[{ on := 10, ground := Ground.data }, { on := 9, ground := Ground.chain }], guard := none }) (v := ?_) rfl (by kernel_rfl) (by kernel_rfl) (by kernel_rfl) (by kernel_rfl) (fun _ _ _ h => h) (Or.inl ⟨by rfl, ?_⟩) (fun _ => by assumption) ?_
          rotate_left
          · intro w hSw
            try dsimp only at hSw
            go_simp
            try with_reducible rfl
          try simp only [Act.put, List.setIfInBounds_toArray, List.set_cons_zero, List.set_cons_succ]
          refine wpAnyG_take (i := 12) (oi := { dst := some 173, op := Op.load 27 (Operand.tmp 22), type := 27, pos := _, after := #[{ on := 11, ground := Ground.guard }], guard := some (11, true) }) (v := ?_) rfl (by kernel_rfl) (by kernel_rfl) (by kernel_rfl) (by kernel_rfl) (fun _ _ _ h => h) (Or.inl ⟨by rfl, ?_⟩) (by assumption) ?_
          rotate_left
          · intro w hSw
            try dsimp only at hSw
            obtain ⟨⟨k0, k1, k2⟩, ⟨l0, l1, l2⟩, ⟨n0, n1, n2⟩⟩ := hSw
            go_simp
            try with_reducible rfl
          try simp only [Act.put, List.setIfInBounds_toArray, List.set_cons_zero, List.set_cons_succ]
          refine wpAnyG_take (i := 13) (oi := { dst := some 174, op := Op.load 27 (Operand.tmp 20), type := 27, pos := _, after := #[{ on := 11, ground := Ground.guard }], guard := some (11, true) }) (v := ?_) rfl (by kernel_rfl) (by kernel_rfl) (by kernel_rfl) (by kernel_rfl) (fun _ _ _ h => h) (Or.inl ⟨by rfl, ?_⟩) (by assumption) ?_
          rotate_left
          · intro w hSw
            try dsimp only at hSw
            obtain ⟨⟨k0, k1, k2⟩, ⟨l0, l1, l2⟩, ⟨n0, n1, n2⟩⟩ := hSw
            go_simp
            try with_reducible rfl
          try simp only [Act.put, List.setIfInBounds_toArray, List.set_cons_zero, List.set_cons_succ]
          refine wpAnyG_one (i := 14) (o := { dst := some 175, op := Op.call { callee := Callee.value (Operand.func 24), args := #[Operand.tmp 173, Operand.tmp 174], argTypes := #[27, 27] }, type := 4, pos := _, after := #[{ on := 12, ground := Ground.data }, { on := 13, ground := Ground.data }, { on := 11, ground := Ground.chain }, { on := 11, ground := Ground.guard }], guard := some (11, true) }) (by kernel_rfl) rfl (fun K hK => ?_)
          go_simp
          refine (sameR H22.out (.tail _ (.head _)) (flat_len _ _ _) (.tail _ (.tail _ (.head _))) (flat_len _ _ _) (v := true) (sameB_self _ _ _)).mono ?_
          rintro e w23 ⟨rfl, h⟩
          have H23 := Lib.hid h
          clear h
          try dsimp only
          refine hK.out _ _ ?_ (fun hHeld => ?_)
          · intro _
            try dsimp only
            have h := H23.out
            exact ⟨h.cells (.tail _ (.tail _ (.tail _ (.tail _ (.tail _ (.tail _ (.tail _ (.tail _ (.head _))))))))), h.cells (.tail _ (.head _)), h.cells (.head _)⟩
          clear hK K
          try simp only [Act.put, List.setIfInBounds_toArray, List.set_cons_zero, List.set_cons_succ]
          have hHeld := hHeld (by kernel_rfl)
          refine wpAnyG_pure (i := 15) (oi := { dst := some 176, op := Op.pick (Operand.tmp 172) (Operand.tmp 175) (Operand.const (Value.bool false)), type := 4, pos := _, after := #[{ on := 11, ground := Ground.data }, { on := 14, ground := Ground.data }], guard := none }) (v := ?_) rfl (by kernel_rfl) (by kernel_rfl) (by kernel_rfl) (by kernel_rfl) (fun _ _ _ h => h) (Or.inl ⟨by rfl, ?_⟩) (fun _ => by assumption) ?_
          rotate_left
          · intro w hSw
            try dsimp only at hSw
            go_simp
            try with_reducible rfl
          try simp only [Act.put, List.setIfInBounds_toArray, List.set_cons_zero, List.set_cons_succ]
          refine wpAnyG_pure (i := 16) (oi := { dst := some 177, op := Op.move (Operand.tmp 176), type := 4, pos := _, after := #[{ on := 15, ground := Ground.data }, { on := 14, ground := Ground.chain }], guard := none }) (v := ?_) rfl (by kernel_rfl) (by kernel_rfl) (by kernel_rfl) (by kernel_rfl) (fun _ _ _ h => h) (Or.inl ⟨by rfl, ?_⟩) (fun _ => by assumption) ?_
          rotate_left
          · intro w hSw
            try dsimp only at hSw
            go_simp
            try with_reducible rfl
          try simp only [Act.put, List.setIfInBounds_toArray, List.set_cons_zero, List.set_cons_succ]
          refine wpAnyG_one (i := 17) (o := { dst := some 178, op := Op.call { callee := Callee.value (Operand.func 11), args := #[], argTypes := #[] }, type := 4, pos := _, after := #[{ on := 16, ground := Ground.chain }, { on := 16, ground := Ground.guard }], guard := some (16, true) }) (by kernel_rfl) rfl (fun K hK => ?_)
          go_simp
          refine (works_any _).mono ?_
          rintro e w24 ⟨rfl, hb⟩
          have H24 := Lib.hid (MS.keep H23.out hb)
          clear hb
          try dsimp only
          refine hK.out _ _ ?_ (fun hHeld => ?_)
          · intro _
            try dsimp only
            have h := H24.out
            exact ⟨h.cells (.tail _ (.tail _ (.tail _ (.tail _ (.tail _ (.tail _ (.tail _ (.tail _ (.head _))))))))), h.cells (.tail _ (.head _)), h.cells (.head _)⟩
          clear hK K
          try simp only [Act.put, List.setIfInBounds_toArray, List.set_cons_zero, List.set_cons_succ]
          have hHeld := hHeld (by kernel_rfl)
          refine wpAnyG_pure (i := 18) (oi := { dst := some 179, op := Op.pick (Operand.tmp 177) (Operand.tmp 178) (Operand.const (Value.bool false)), type := 4, pos := _, after := #[{ on := 16, ground := Ground.data }, { on := 17, ground := Ground.data }], guard := none }) (v := ?_) rfl (by kernel_rfl) (by kernel_rfl) (by kernel_rfl) (by kernel_rfl) (fun _ _ _ h => h) (Or.inl ⟨by rfl, ?_⟩) (fun _ => by assumption) ?_
          rotate_left
          · intro w hSw
            try dsimp only at hSw
            go_simp
            try with_reducible rfl
          try simp only [Act.put, List.setIfInBounds_toArray, List.set_cons_zero, List.set_cons_succ]
          refine wpAnyG_pure (i := 19) (oi := { dst := some 6, op := Op.assign (Operand.tmp 179), type := 4, pos := _, after := #[{ on := 18, ground := Ground.data }, { on := 17, ground := Ground.chain }, { on := 0, ground := Ground.phase }, { on := 1, ground := Ground.phase }, { on := 2, ground := Ground.phase }, { on := 3, ground := Ground.phase }, { on := 4, ground := Ground.phase }, { on := 5, ground := Ground.phase }, { on := 6, ground := Ground.phase }, { on := 7, ground := Ground.phase }, { on := 8, ground := Ground.phase }, { on := 9, ground := Ground.phase }, { on := 10, ground := Ground.phase }, { on := 11, ground := Ground.phase }, { on := 12, ground := Ground.phase }, { on := 13, ground := Ground.phase }, { on := 14, ground := Ground.phase }, { on := 15, ground := Ground.phase }, { on := 16, ground := Ground.phase }, { on := 17, ground := Ground.phase }, { on := 18, ground := Ground.phase }], guard := none }) (v := ?_) rfl (by kernel_rfl) (by kernel_rfl) (by kernel_rfl) (by kernel_rfl) (fun _ _ _ h => h) (Or.inl ⟨by rfl, ?_⟩) (fun _ => by assumption) ?_
          rotate_left
          · intro w hSw
            try dsimp only at hSw
            go_simp
            try with_reducible rfl
          try simp only [Act.put, List.setIfInBounds_toArray, List.set_cons_zero, List.set_cons_succ]
          refine wpAnyG_done (by kernel_rfl) ?_ _
          refine NoPanic.normal ?_
          go_wp2_with fail
          go_ret
          exact ⟨rfl, H24.out.below⟩
      · have HV := Lib.hid (show (rightB (r : Int) (c : Int) (r * c) && (r : Int) == (c : Int)) = false from by rw [Bool.and_eq_false_iff]; right; simp; omega)
        have hrc1 : ((r : Int) != (c : Int)) = true := by simp; omega
        clear hrc
        refine (inv0R H14.out _ HV.out).mono ?_
        rintro e w15 ⟨rfl, h⟩
        have H15 := Lib.hid h
        clear h
        obtain ⟨a24, b24, d24⟩ := H15.out.cells (.tail _ (.tail _ (.tail _ (.tail _ (.tail _ (.head _))))))
        have L25 := Lib.hid (show MS _ _ _ ((w15.heap.size, #[.int .i64 0, .int .i64 0, .slice none 0 0]) :: _) (w15.alloc (.cells #[.int .i64 0, .int .i64 0, .slice none 0 0] 27)) from by have h := H15.out.put #[.int .i64 0, .int .i64 0, .slice none 0 0]; (try simp only [World.size_alloc] at h); exact h)
        obtain ⟨a26, b26, d26⟩ := L25.out.cells (.tail _ (.tail _ (.tail _ (.tail _ (.tail _ (.tail _ (.head _)))))))
        go_wp2_with fail
        clear a24 b24 d24 a26 b26 d26
        have H16 := L25
        clear L25
        generalize (w15.alloc (.cells #[.int .i64 0, .int .i64 0, .slice none 0 0] 27)) = w16 at *
        refine (works_any _).mono ?_
        rintro e w17 ⟨rfl, hb⟩
        have H17 := Lib.hid (MS.keep H16.out hb)
        clear hb
        go_wp2_with fail
        go_ret
        exact ⟨rfl, H17.out.below⟩
    | true =>
      have HT := Lib.hid hs
      clear hs
      refine (solveR H12.out (r := r) (c := c) (d := d2) (.tail _ (.tail _ (.tail _ (.tail _ (.head _))))) (.tail _ (.tail _ (.head _))) rfl HB.out.2.2.1 ⟨rfl, rfl, HB.out.1, HB.out.2.1⟩ (by have := HD.out; have := HB.out.2.2.2; omega) rfl HMB.out HT.out c Cb (c * d2) ⟨rfl, HB.out.2.1, rfl⟩ rfl).mono ?_
      rintro e w13 ⟨A13, c13, rfl, h⟩
      have H13 := Lib.hid h
      clear h
      obtain ⟨a20, b20, d20⟩ := H13.out.cells (.tail _ (.tail _ (.tail _ (.tail _ (.head _)))))
      obtain ⟨a21, b21, d21⟩ := H13.out.cells (.tail _ (.tail _ (.head _)))
      have L22 := Lib.hid (show MS _ _ _ ((w13.heap.size, #[.int .i64 (c : Int), .int .i64 Cb, .slice A13 (c * d2) c13]) :: _) (w13.alloc (.cells #[.int .i64 (c : Int), .int .i64 Cb, .slice A13 (c * d2) c13] 27)) from by have h := H13.out.put #[.int .i64 (c : Int), .int .i64 Cb, .slice A13 (c * d2) c13]; (try simp only [World.size_alloc] at h); exact h)
      obtain ⟨a23, b23, d23⟩ := L22.out.cells (.tail _ (.tail _ (.tail _ (.tail _ (.tail _ (.head _))))))
      obtain ⟨a24, b24, d24⟩ := L22.out.cells (.head _)
      go_wp2_with fail
      clear a20 b20 d20 a21 b21 d21 a23 b23 d23 a24 b24 d24
      have H14 := L22
      clear L22
      generalize (w13.alloc (.cells #[.int .i64 (c : Int), .int .i64 Cb, .slice A13 (c * d2) c13] 27)) = w14 at *
      refine (mulR H14.out (r := r) (c := c) (d := d2) (.tail _ (.tail _ (.tail _ (.tail _ (.tail _ (.head _)))))) (.head _) rfl rfl ⟨rfl, rfl, rfl, HB.out.2.1⟩ (by have := HD.out; have := HB.out.2.2.2; omega) rfl rfl Rb Cb nb ⟨HB.out.1, HB.out.2.1, HB.out.2.2.1⟩ (l := lb) ((solve_is HT.out).trans HMB.out.symm)).mono ?_
      rintro e w15 ⟨A15, c15, rfl, h⟩
      have H15 := Lib.hid h
      clear h
      have L25 := Lib.hid (show MS _ _ _ ((w15.heap.size, #[.int .i64 Rb, .int .i64 Cb, .slice A15 nb c15]) :: _) (w15.alloc (.cells #[.int .i64 Rb, .int .i64 Cb, .slice A15 nb c15] 27)) from by have h := H15.out.put #[.int .i64 Rb, .int .i64 Cb, .slice A15 nb c15]; (try simp only [World.size_alloc] at h); exact h)
      obtain ⟨a26, b26, d26⟩ := L25.out.cells (.head _)
      obtain ⟨a27, b27, d27⟩ := L25.out.cells (.tail _ (.tail _ (.tail _ (.tail _ (.head _)))))
      go_wp2_with fail
      clear a26 b26 d26 a27 b27 d27
      have H16 := L25
      clear L25
      generalize (w15.alloc (.cells #[.int .i64 Rb, .int .i64 Cb, .slice A15 nb c15] 27)) = w16 at *
      refine (sameR H16.out (.head _) HLNb.out (.tail _ (.tail _ (.tail _ (.tail _ (.head _))))) HLNb.out (v := true) (sameB_self _ _ _)).mono ?_
      rintro e w17 ⟨rfl, h⟩
      have H17 := Lib.hid h
      clear h
      obtain ⟨a28, b28, d28⟩ := H17.out.cells (.tail _ (.tail _ (.tail _ (.tail _ (.tail _ (.tail _ (.head _)))))))
      go_wp2_with fail
      clear a28 b28 d28
      by_cases hrc : r = c
      · have HRC := Lib.hid (show c = r from hrc.symm)
        have hrc1 : ((r : Int) != (c : Int)) = false := by simp; omega
        clear hrc
        cases hi : solves r r r ma idm with
        | false =>
          have HI := Lib.hid hi
          have hkr : (k : Int) < (r : Int) := by
            have h1 := HK.out; have h2 := HKM.out
            have h3 : k ≠ r := fun e => by
              rw [HRC.out] at h1
              rw [solve_sq (h1.trans e)] at hi; cases hi
            omega
          clear hi
          refine (inv1R H17.out (r := r) (.tail _ (.tail _ (.tail _ (.tail _ (.tail _ (.tail _ (.head _))))))) (by rw [HRC.out]) ⟨rfl, by rw [HRC.out]⟩ (by have := HD.out; omega) (by rw [HRC.out]) HI.out).mono ?_
          rintro e w18 ⟨rfl, h⟩
          have H18 := Lib.hid h
          clear h
          obtain ⟨a29, b29, d29⟩ := H18.out.cells (.tail _ (.tail _ (.tail _ (.tail _ (.tail _ (.tail _ (.head _)))))))
          have L30 := Lib.hid (show MS _ _ _ ((w18.heap.size, #[.int .i64 0, .int .i64 0, .slice none 0 0]) :: _) (w18.alloc (.cells #[.int .i64 0, .int .i64 0, .slice none 0 0] 27)) from by have h := H18.out.put #[.int .i64 0, .int .i64 0, .slice none 0 0]; (try simp only [World.size_alloc] at h); exact h)
          obtain ⟨a31, b31, d31⟩ := L30.out.cells (.tail _ (.tail _ (.tail _ (.tail _ (.tail _ (.tail _ (.tail _ (.head _))))))))
          go_wp2_with fail
          clear a29 b29 d29 a31 b31 d31
          have H19 := L30
          clear L30
          generalize (w18.alloc (.cells #[.int .i64 0, .int .i64 0, .slice none 0 0] 27)) = w19 at *
          refine (works_any _).mono ?_
          rintro e w20 ⟨rfl, hb⟩
          have H20 := Lib.hid (MS.keep H19.out hb)
          clear hb
          go_wp2_with fail
          go_ret
          exact ⟨rfl, H20.out.below⟩
        | true =>
          have HI := Lib.hid hi
          have hkr : ((k : Int) == (r : Int)) = true := by
            have h1 := HK.out; have h2 := solve_rank hi
            rw [HRC.out] at h1; simp; omega
          clear hi
          refine (invR H17.out (r := r) (.tail _ (.tail _ (.tail _ (.tail _ (.tail _ (.tail _ (.head _))))))) (by rw [HRC.out]) ⟨rfl, by rw [HRC.out]⟩ (by have := HD.out; omega) (by rw [HRC.out]) HI.out r (r * r) ⟨rfl, rfl⟩ rfl).mono ?_
          rintro e w18 ⟨A18, c18, rfl, h⟩
          have H18 := Lib.hid h
          clear h
          obtain ⟨a29, b29, d29⟩ := H18.out.cells (.tail _ (.tail _ (.tail _ (.tail _ (.tail _ (.tail _ (.head _)))))))
          have L30 := Lib.hid (show MS _ _ _ ((w18.heap.size, #[.int .i64 (r : Int), .int .i64 (r : Int), .slice A18 (r * r) c18]) :: _) (w18.alloc (.cells #[.int .i64 (r : Int), .int .i64 (r : Int), .slice A18 (r * r) c18] 27)) from by have h := H18.out.put #[.int .i64 (r : Int), .int .i64 (r : Int), .slice A18 (r * r) c18]; (try simp only [World.size_alloc] at h); exact h)
          obtain ⟨a31, b31, d31⟩ := L30.out.cells (.tail _ (.tail _ (.tail _ (.tail _ (.tail _ (.tail _ (.tail _ (.head _))))))))
          obtain ⟨a32, b32, d32⟩ := L30.out.cells (.head _)
          go_wp2_with fail
          clear a29 b29 d29 a31 b31 d31 a32 b32 d32
          have H19 := L30
          clear L30
          generalize (w18.alloc (.cells #[.int .i64 (r : Int), .int .i64 (r : Int), .slice A18 (r * r) c18] 27)) = w19 at *
          refine (mulR H19.out (r := r) (c := r) (d := r) (.tail _ (.tail _ (.tail _ (.tail _ (.tail _ (.tail _ (.tail _ (.head _)))))))) (.head _) (by rw [HRC.out]) rfl ⟨rfl, by rw [HRC.out], rfl, rfl⟩ (by have := HD.out; omega) (by rw [HRC.out]) rfl r r (r * r) ⟨rfl, rfl, rfl⟩ (l := flat r r idm) (inv_right HI.out)).mono ?_
          rintro e w20 ⟨A20, c20, rfl, h⟩
          have H20 := Lib.hid h
          clear h
          have L33 := Lib.hid (show MS _ _ _ ((w20.heap.size, #[.int .i64 (r : Int), .int .i64 (r : Int), .slice A20 (r * r) c20]) :: _) (w20.alloc (.cells #[.int .i64 (r : Int), .int .i64 (r : Int), .slice A20 (r * r) c20] 27)) from by have h := H20.out.put #[.int .i64 (r : Int), .int .i64 (r : Int), .slice A20 (r * r) c20]; (try simp only [World.size_alloc] at h); exact h)
          obtain ⟨a34, b34, d34⟩ := L33.out.cells (.tail _ (.tail _ (.tail _ (.tail _ (.tail _ (.tail _ (.tail _ (.tail _ (.head _)))))))))
          obtain ⟨a35, b35, d35⟩ := L33.out.cells (.tail _ (.head _))
          go_wp2_with fail
          clear a34 b34 d34 a35 b35 d35
          have H21 := L33
          clear L33
          generalize (w20.alloc (.cells #[.int .i64 (r : Int), .int .i64 (r : Int), .slice A20 (r * r) c20] 27)) = w21 at *
          refine (mulR H21.out (r := r) (c := r) (d := r) (.tail _ (.head _)) (.tail _ (.tail _ (.tail _ (.tail _ (.tail _ (.tail _ (.tail _ (.tail _ (.head _))))))))) rfl (by rw [HRC.out]) ⟨rfl, rfl, rfl, by rw [HRC.out]⟩ (by have := HD.out; omega) rfl (by rw [HRC.out]) r r (r * r) ⟨rfl, rfl, rfl⟩ (l := flat r r idm) (inv_left HI.out)).mono ?_
          rintro e w22 ⟨A22, c22, rfl, h⟩
          have H22 := Lib.hid h
          clear h
          have L36 := Lib.hid (show MS _ _ _ ((w22.heap.size, #[.int .i64 (r : Int), .int .i64 (r : Int), .slice A22 (r * r) c22]) :: _) (w22.alloc (.cells #[.int .i64 (r : Int), .int .i64 (r : Int), .slice A22 (r * r) c22] 27)) from by have h := H22.out.put #[.int .i64 (r : Int), .int .i64 (r : Int), .slice A22 (r * r) c22]; (try simp only [World.size_alloc] at h); exact h)
          go_wp2_with fail
          have H23 := L36
          clear L36
          generalize (w22.alloc (.cells #[.int .i64 (r : Int), .int .i64 (r : Int), .slice A22 (r * r) c22] 27)) = w23 at *
          refine wp_region_noPanic ?_
          refine wp_heldG (fun w' => (w'.cell? ⟨w.heap.size, 0, none⟩ = some (.int .i64 (r : Int)) ∧ w'.cell? ⟨w.heap.size, 1, none⟩ = some (.int .i64 (c : Int)) ∧ w'.cell? ⟨w.heap.size, 2, none⟩ = some (.slice A (r * c) ca)) ∧ (w'.cell? ⟨w20.heap.size, 0, none⟩ = some (.int .i64 (r : Int)) ∧ w'.cell? ⟨w20.heap.size, 1, none⟩ = some (.int .i64 (r : Int)) ∧ w'.cell? ⟨w20.heap.size, 2, none⟩ = some (.slice A20 (r * r) c20)) ∧ (w'.cell? ⟨w22.heap.size, 0, none⟩ = some (.int .i64 (r : Int)) ∧ w'.cell? ⟨w22.heap.size, 1, none⟩ = some (.int .i64 (r : Int)) ∧ w'.cell? ⟨w22.heap.size, 2, none⟩ = some (.slice A22 (r * r) c22))) [] (by kernel_rfl) ?hs0 ?rg0
          case hs0 =>
            have h := H23.out.keep (nextN (Mem.start w23) 1)
            exact ⟨h.cells (.tail _ (.tail _ (.tail _ (.tail _ (.tail _ (.tail _ (.tail _ (.tail _ (.tail _ (.head _)))))))))), h.cells (.tail _ (.head _)), h.cells (.head _)⟩
          case rg0 =>
          intro hHeld
          have HD23 := Lib.hid (show MS _ _ _ _ w23.drew from H23.out.keep (nextN (Mem.start w23) 1))
          generalize w23.drew = wd23 at *
          refine wpAnyG_pure (i := 0) (oi := { dst := some 161, op := Op.move (Operand.tmp 8), type := 3, pos := _, after := #[], guard := none }) (v := ?_) rfl (by kernel_rfl) (by kernel_rfl) (by kernel_rfl) (by kernel_rfl) (fun _ _ _ h => h) (Or.inl ⟨by rfl, ?_⟩) (fun _ => by assumption) ?_
          rotate_left
          · intro w hSw
            try dsimp only at hSw
            go_simp
            try with_reducible rfl
          try simp only [Act.put, List.setIfInBounds_toArray, List.set_cons_zero, List.set_cons_succ]
          refine wpAnyG_pure (i := 1) (oi := { dst := some 162, op := Op.fieldAddr 27 (Operand.tmp 3) 0, type := 0, pos := _, after := #[], guard := none }) (v := ?_) rfl (by kernel_rfl) (by kernel_rfl) (by kernel_rfl) (by kernel_rfl) (fun _ _ _ h => h) (Or.inl ⟨by rfl, ?_⟩) (fun _ => by assumption) ?_
          rotate_left
          · intro w hSw
            try dsimp only at hSw
            go_simp
            try with_reducible rfl
          try simp only [Act.put, List.setIfInBounds_toArray, List.set_cons_zero, List.set_cons_succ]
          refine wpAnyG_take (i := 2) (oi := { dst := some 163, op := Op.load 3 (Operand.tmp 162), type := 3, pos := _, after := #[{ on := 1, ground := Ground.data }], guard := none }) (v := ?_) rfl (by kernel_rfl) (by kernel_rfl) (by kernel_rfl) (by kernel_rfl) (fun _ _ _ h => h) (Or.inl ⟨by rfl, ?_⟩) (by assumption) ?_
          rotate_left
          · intro w hSw
            try dsimp only at hSw
            obtain ⟨⟨k0, k1, k2⟩, ⟨l0, l1, l2⟩, ⟨n0, n1, n2⟩⟩ := hSw
            go_simp
            try with_reducible rfl
          try simp only [Act.put, List.setIfInBounds_toArray, List.set_cons_zero, List.set_cons_succ]
          refine wpAnyG_pure (i := 3) (oi := { dst := some 164, op := Op.binOp BinOp.eql 3 (Operand.tmp 161) (Operand.tmp 163) 3, type := 4, pos := _, after := #[{ on := 0, ground := Ground.data }, { on := 2, ground := Ground.data }], guard := none }) (v := ?_) rfl (by kernel_rfl) (by kernel_rfl) (by kernel_rfl) (by kernel_rfl) (fun _ _ _ h => h) (Or.inl ⟨by rfl, ?_⟩) (fun _ => by assumption) ?_
          rotate_left
          · intro w hSw
            try dsimp only at hSw
            go_simp
            try with_reducible rfl
          try simp only [Act.put, List.setIfInBounds_toArray, List.set_cons_zero, List.set_cons_succ]
          refine wpAnyG_pure (i := 4) (oi := { dst := some 165, op := Op.move (Operand.tmp 164), type := 4, pos := _, after := #[{ on := 3, ground := Ground.data }], guard := none }) (v := ?_) rfl (by kernel_rfl) (by kernel_rfl) (by kernel_rfl) (by kernel_rfl) (fun _ _ _ h => h) (Or.inl ⟨by rfl, ?_⟩) (fun _ => by assumption) ?_
          rotate_left
          · intro w hSw
            try dsimp only at hSw
            go_simp
            try with_reducible rfl
          try simp only [Act.put, List.setIfInBounds_toArray, List.set_cons_zero, List.set_cons_succ]
          refine wpAnyG_take (i := 5) (oi := { dst := some 166, op := Op.load 27 (Operand.tmp 20), type := 27, pos := _, after := #[{ on := 4, ground := Ground.guard }], guard := some (4, true) }) (v := ?_) rfl (by kernel_rfl) (by kernel_rfl) (by kernel_rfl) (by kernel_rfl) (fun _ _ _ h => h) (Or.inl ⟨by rfl, ?_⟩) (by assumption) ?_
          rotate_left
          · intro w hSw
            try dsimp only at hSw
            obtain ⟨⟨k0, k1, k2⟩, ⟨l0, l1, l2⟩, ⟨n0, n1, n2⟩⟩ := hSw
            go_simp
            try with_reducible rfl
          try simp only [Act.put, List.setIfInBounds_toArray, List.set_cons_zero, List.set_cons_succ]
          refine wpAnyG_pure (i := 6) (oi := { dst := some 167, op := Op.fieldAddr 27 (Operand.tmp 3) 0, type := 0, pos := _, after := #[{ on := 4, ground := Ground.guard }], guard := some (4, true) }) (v := ?_) rfl (by kernel_rfl) (by kernel_rfl) (by kernel_rfl) (by kernel_rfl) (fun _ _ _ h => h) (Or.inl ⟨by rfl, ?_⟩) (fun _ => by assumption) ?_
          rotate_left
          · intro w hSw
            try dsimp only at hSw
            go_simp
            try with_reducible rfl
          try simp only [Act.put, List.setIfInBounds_toArray, List.set_cons_zero, List.set_cons_succ]
          refine wpAnyG_take (i := 7) (oi := { dst := some 168, op := Op.load 3 (Operand.tmp 167), type := 3, pos := _, after := #[{ on := 6, ground := Ground.data }, { on := 4, ground := Ground.guard }], guard := some (4, true) }) (v := ?_) rfl (by kernel_rfl) (by kernel_rfl) (by kernel_rfl) (by kernel_rfl) (fun _ _ _ h => h) (Or.inl ⟨by rfl, ?_⟩) (by assumption) ?_
          rotate_left
          · intro w hSw
            try dsimp only at hSw
            obtain ⟨⟨k0, k1, k2⟩, ⟨l0, l1, l2⟩, ⟨n0, n1, n2⟩⟩ := hSw
            go_simp
            try with_reducible rfl
          try simp only [Act.put, List.setIfInBounds_toArray, List.set_cons_zero, List.set_cons_succ]
          refine wpAnyG_one (i := 8) (o := { dst := some 169, op := Op.call { callee := Callee.value (Operand.func 27), args := #[Operand.tmp 168], argTypes := #[3] }, type := 27, pos := _, after := #[{ on := 7, ground := Ground.data }, { on := 4, ground := Ground.chain }, { on := 4, ground := Ground.guard }], guard := some (4, true) }) (by kernel_rfl) rfl (fun K hK => ?_)
          go_simp
          refine (oneR HD23.out (r := r) rfl (by have := HD.out; omega) (r * r) rfl rfl).mono ?_
          rintro e w24 ⟨A24, c24, rfl, h⟩
          have H24 := Lib.hid h
          clear h
          try dsimp only
          refine hK.out _ _ ?_ (fun hHeld => ?_)
          · intro _
            try dsimp only
            have h := H24.out
            exact ⟨h.cells (.tail _ (.tail _ (.tail _ (.tail _ (.tail _ (.tail _ (.tail _ (.tail _ (.tail _ (.head _)))))))))), h.cells (.tail _ (.head _)), h.cells (.head _)⟩
          clear hK K
          try simp only [Act.put, List.setIfInBounds_toArray, List.set_cons_zero, List.set_cons_succ]
          have hHeld := hHeld (by kernel_rfl)
          refine wpAnyG_one (i := 9) (o := { dst := some 170, op := Op.call { callee := Callee.value (Operand.func 24), args := #[Operand.tmp 166, Operand.tmp 169], argTypes := #[27, 27] }, type := 4, pos := _, after := #[{ on := 5, ground := Ground.data }, { on := 8, ground := Ground.data }, { on := 8, ground := Ground.chain }, { on := 4, ground := Ground.guard }], guard := some (4, true) }) (by kernel_rfl) rfl (fun K hK => ?_)
          go_simp
          refine (sameR H24.out (.tail _ (.tail _ (.head _))) (flat_len _ _ _) (.head _) (flat_len _ _ _) (v := true) (sameB_self _ _ _)).mono ?_
          rintro e w25 ⟨rfl, h⟩
          have H25 := Lib.hid h
          clear h
          try dsimp only
          refine hK.out _ _ ?_ (fun hHeld => ?_)
          · intro _
            try dsimp only
            have h := H25.out
            exact ⟨h.cells (.tail _ (.tail _ (.tail _ (.tail _ (.tail _ (.tail _ (.tail _ (.tail _ (.tail _ (.head _)))))))))), h.cells (.tail _ (.head _)), h.cells (.head _)⟩
          clear hK K
          try simp only [Act.put, List.setIfInBounds_toArray, List.set_cons_zero, List.set_cons_succ]
          have hHeld := hHeld (by kernel_rfl)
          refine wpAnyG_pure (i := 10) (oi := { dst := some 171, op := Op.pick (Operand.tmp 165) (Operand.tmp 170) (Operand.const (Value.bool false)), type := 4, pos := _, after := #[{ on := 4, ground := Ground.data }, { on := 9, ground := Ground.data }], guard := none }) (v := ?_) rfl (by kernel_rfl) (by kernel_rfl) (by kernel_rfl) (by kernel_rfl) (fun _ _ _ h => h) (Or.inl ⟨by rfl, ?_⟩) (fun _ => by assumption) ?_
          rotate_left
          · intro w hSw
            try dsimp only at hSw
            go_simp
            try with_reducible rfl
          try simp only [Act.put, List.setIfInBounds_toArray, List.set_cons_zero, List.set_cons_succ]
          refine wpAnyG_pure (i := 11) (oi := { dst := some 172, op := Op.move (Operand.tmp 171), type := 4, pos := _, after := #[{ on := 10, ground := Ground.data }, { on := 9, ground := Ground.chain }], guard := none }) (v := ?_) rfl (by kernel_rfl) (by kernel_rfl) (by kernel_rfl) (by kernel_rfl) (fun _ _ _ h => h) (Or.inl ⟨by rfl, ?_⟩) (fun _ => by assumption) ?_
          rotate_left
          · intro w hSw
            try dsimp only at hSw
            go_simp
            try with_reducible rfl
          try simp only [Act.put, List.setIfInBounds_toArray, List.set_cons_zero, List.set_cons_succ]
          refine wpAnyG_take (i := 12) (oi := { dst := some 173, op := Op.load 27 (Operand.tmp 22), type := 27, pos := _, after := #[{ on := 11, ground := Ground.guard }], guard := some (11, true) }) (v := ?_) rfl (by kernel_rfl) (by kernel_rfl) (by kernel_rfl) (by kernel_rfl) (fun _ _ _ h => h) (Or.inl ⟨by rfl, ?_⟩) (by assumption) ?_
          rotate_left
          · intro w hSw
            try dsimp only at hSw
            obtain ⟨⟨k0, k1, k2⟩, ⟨l0, l1, l2⟩, ⟨n0, n1, n2⟩⟩ := hSw
            go_simp
            try with_reducible rfl
          try simp only [Act.put, List.setIfInBounds_toArray, List.set_cons_zero, List.set_cons_succ]
          refine wpAnyG_take (i := 13) (oi := { dst := some 174, op := Op.load 27 (Operand.tmp 20), type := 27, pos := _, after := #[{ on := 11, ground := Ground.guard }], guard := some (11, true) }) (v := ?_) rfl (by kernel_rfl) (by kernel_rfl) (by kernel_rfl) (by kernel_rfl) (fun _ _ _ h => h) (Or.inl ⟨by rfl, ?_⟩) (by assumption) ?_
          rotate_left
          · intro w hSw
            try dsimp only at hSw
            obtain ⟨⟨k0, k1, k2⟩, ⟨l0, l1, l2⟩, ⟨n0, n1, n2⟩⟩ := hSw
            go_simp
            try with_reducible rfl
          try simp only [Act.put, List.setIfInBounds_toArray, List.set_cons_zero, List.set_cons_succ]
          refine wpAnyG_one (i := 14) (o := { dst := some 175, op := Op.call { callee := Callee.value (Operand.func 24), args := #[Operand.tmp 173, Operand.tmp 174], argTypes := #[27, 27] }, type := 4, pos := _, after := #[{ on := 12, ground := Ground.data }, { on := 13, ground := Ground.data }, { on := 11, ground := Ground.chain }, { on := 11, ground := Ground.guard }], guard := some (11, true) }) (by kernel_rfl) rfl (fun K hK => ?_)
          go_simp
          refine (sameR H25.out (.tail _ (.head _)) (flat_len _ _ _) (.tail _ (.tail _ (.head _))) (flat_len _ _ _) (v := true) (sameB_self _ _ _)).mono ?_
          rintro e w26 ⟨rfl, h⟩
          have H26 := Lib.hid h
          clear h
          try dsimp only
          refine hK.out _ _ ?_ (fun hHeld => ?_)
          · intro _
            try dsimp only
            have h := H26.out
            exact ⟨h.cells (.tail _ (.tail _ (.tail _ (.tail _ (.tail _ (.tail _ (.tail _ (.tail _ (.tail _ (.head _)))))))))), h.cells (.tail _ (.head _)), h.cells (.head _)⟩
          clear hK K
          try simp only [Act.put, List.setIfInBounds_toArray, List.set_cons_zero, List.set_cons_succ]
          have hHeld := hHeld (by kernel_rfl)
          refine wpAnyG_pure (i := 15) (oi := { dst := some 176, op := Op.pick (Operand.tmp 172) (Operand.tmp 175) (Operand.const (Value.bool false)), type := 4, pos := _, after := #[{ on := 11, ground := Ground.data }, { on := 14, ground := Ground.data }], guard := none }) (v := ?_) rfl (by kernel_rfl) (by kernel_rfl) (by kernel_rfl) (by kernel_rfl) (fun _ _ _ h => h) (Or.inl ⟨by rfl, ?_⟩) (fun _ => by assumption) ?_
          rotate_left
          · intro w hSw
            try dsimp only at hSw
            go_simp
            try with_reducible rfl
          try simp only [Act.put, List.setIfInBounds_toArray, List.set_cons_zero, List.set_cons_succ]
          refine wpAnyG_pure (i := 16) (oi := { dst := some 177, op := Op.move (Operand.tmp 176), type := 4, pos := _, after := #[{ on := 15, ground := Ground.data }, { on := 14, ground := Ground.chain }], guard := none }) (v := ?_) rfl (by kernel_rfl) (by kernel_rfl) (by kernel_rfl) (by kernel_rfl) (fun _ _ _ h => h) (Or.inl ⟨by rfl, ?_⟩) (fun _ => by assumption) ?_
          rotate_left
          · intro w hSw
            try dsimp only at hSw
            go_simp
            try with_reducible rfl
          try simp only [Act.put, List.setIfInBounds_toArray, List.set_cons_zero, List.set_cons_succ]
          refine wpAnyG_one (i := 17) (o := { dst := some 178, op := Op.call { callee := Callee.value (Operand.func 11), args := #[], argTypes := #[] }, type := 4, pos := _, after := #[{ on := 16, ground := Ground.chain }, { on := 16, ground := Ground.guard }], guard := some (16, true) }) (by kernel_rfl) rfl (fun K hK => ?_)
          go_simp
          refine (works_any _).mono ?_
          rintro e w27 ⟨rfl, hb⟩
          have H27 := Lib.hid (MS.keep H26.out hb)
          clear hb
          try dsimp only
          refine hK.out _ _ ?_ (fun hHeld => ?_)
          · intro _
            try dsimp only
            have h := H27.out
            exact ⟨h.cells (.tail _ (.tail _ (.tail _ (.tail _ (.tail _ (.tail _ (.tail _ (.tail _ (.tail _ (.head _)))))))))), h.cells (.tail _ (.head _)), h.cells (.head _)⟩
          clear hK K
          try simp only [Act.put, List.setIfInBounds_toArray, List.set_cons_zero, List.set_cons_succ]
          have hHeld := hHeld (by kernel_rfl)
          refine wpAnyG_pure (i := 18) (oi := { dst := some 179, op := Op.pick (Operand.tmp 177) (Operand.tmp 178) (Operand.const (Value.bool false)), type := 4, pos := _, after := #[{ on := 16, ground := Ground.data }, { on := 17, ground := Ground.data }], guard := none }) (v := ?_) rfl (by kernel_rfl) (by kernel_rfl) (by kernel_rfl) (by kernel_rfl) (fun _ _ _ h => h) (Or.inl ⟨by rfl, ?_⟩) (fun _ => by assumption) ?_
          rotate_left
          · intro w hSw
            try dsimp only at hSw
            go_simp
            try with_reducible rfl
          try simp only [Act.put, List.setIfInBounds_toArray, List.set_cons_zero, List.set_cons_succ]
          refine wpAnyG_pure (i := 19) (oi := { dst := some 6, op := Op.assign (Operand.tmp 179), type := 4, pos := _, after := #[{ on := 18, ground := Ground.data }, { on := 17, ground := Ground.chain }, { on := 0, ground := Ground.phase }, { on := 1, ground := Ground.phase }, { on := 2, ground := Ground.phase }, { on := 3, ground := Ground.phase }, { on := 4, ground := Ground.phase }, { on := 5, ground := Ground.phase }, { on := 6, ground := Ground.phase }, { on := 7, ground := Ground.phase }, { on := 8, ground := Ground.phase }, { on := 9, ground := Ground.phase }, { on := 10, ground := Ground.phase }, { on := 11, ground := Ground.phase }, { on := 12, ground := Ground.phase }, { on := 13, ground := Ground.phase }, { on := 14, ground := Ground.phase }, { on := 15, ground := Ground.phase }, { on := 16, ground := Ground.phase }, { on := 17, ground := Ground.phase }, { on := 18, ground := Ground.phase }], guard := none }) (v := ?_) rfl (by kernel_rfl) (by kernel_rfl) (by kernel_rfl) (by kernel_rfl) (fun _ _ _ h => h) (Or.inl ⟨by rfl, ?_⟩) (fun _ => by assumption) ?_
          rotate_left
          · intro w hSw
            try dsimp only at hSw
            go_simp
            try with_reducible rfl
          try simp only [Act.put, List.setIfInBounds_toArray, List.set_cons_zero, List.set_cons_succ]
          refine wpAnyG_done (by kernel_rfl) ?_ _
          refine NoPanic.normal ?_
          go_wp2_with fail
          go_ret
          exact ⟨rfl, H27.out.below⟩
      · have HV := Lib.hid (show (rightB (r : Int) (c : Int) (r * c) && (r : Int) == (c : Int)) = false from by rw [Bool.and_eq_false_iff]; right; simp; omega)
        have hrc1 : ((r : Int) != (c : Int)) = true := by simp; omega
        clear hrc
        refine (inv0R H17.out _ HV.out).mono ?_
        rintro e w18 ⟨rfl, h⟩
        have H18 := Lib.hid h
        clear h
        obtain ⟨a29, b29, d29⟩ := H18.out.cells (.tail _ (.tail _ (.tail _ (.tail _ (.tail _ (.tail _ (.head _)))))))
        have L30 := Lib.hid (show MS _ _ _ ((w18.heap.size, #[.int .i64 0, .int .i64 0, .slice none 0 0]) :: _) (w18.alloc (.cells #[.int .i64 0, .int .i64 0, .slice none 0 0] 27)) from by have h := H18.out.put #[.int .i64 0, .int .i64 0, .slice none 0 0]; (try simp only [World.size_alloc] at h); exact h)
        obtain ⟨a31, b31, d31⟩ := L30.out.cells (.tail _ (.tail _ (.tail _ (.tail _ (.tail _ (.tail _ (.tail _ (.head _))))))))
        go_wp2_with fail
        clear a29 b29 d29 a31 b31 d31
        have H19 := L30
        clear L30
        generalize (w18.alloc (.cells #[.int .i64 0, .int .i64 0, .slice none 0 0] 27)) = w19 at *
        refine (works_any _).mono ?_
        rintro e w20 ⟨rfl, hb⟩
        have H20 := Lib.hid (MS.keep H19.out hb)
        clear hb
        go_wp2_with fail
        go_ret
        exact ⟨rfl, H20.out.below⟩
end Go.Proofs.Ythdapoipfnnaeaa.MxW
/- The law MatrixSolves: its walk. -/
namespace Go.Proofs.Ythdapoipfnnaeaa.MxW
open Go.RowKit Go.Shelf Mem Gf FdW Mx Rng
open PlW (In)
set_option linter.unusedVariables false
set_option linter.unusedSectionVars false
attribute [local go_sem] Oper.semAt_some wide_fn
set_option maxRecDepth 100000 in
set_option maxHeartbeats 4000000 in
theorem solves_in2 (w : World) (r c : Nat) (hd : r ≤ 8 ∧ c ≤ 8) (A : Option Addr) (ca : Nat) (ma : M) (hA : Bytes w w.heap.size A (flat r c ma)) (hca : (flat r c ma).length ≤ ca) (Rx Cx : Int) (X : Option Addr) (lx : List UInt8) (nx cx : Nat) (hlx : lx.length = nx) (hX : Bytes w w.heap.size X lx) (hcx : lx.length ≤ cx) (Rb Cb : Int) (B : Option Addr) (lb : List UInt8) (nb cb : Nat) (hlb : lb.length = nb) (hB : Bytes w w.heap.size B lb) (hcb : lb.length ≤ cb) (hsx : smallB 8 Rx Cx nx = true) (hsb : smallB 8 Rb Cb nb = true) (d : Nat) (hm : Rx = (c : Int) ∧ Cx = (d : Int) ∧ nx = c * d ∧ d ≤ 8) (hkc : rankM r c ma ≠ c) :
    Calls Try.prog 5 #[.agg #[.int .i64 (r : Int), .int .i64 (c : Int), .slice A (r * c) ca], .agg #[.int .i64 Rx, .int .i64 Cx, .slice X nx cx], .agg #[.int .i64 Rb, .int .i64 Cb, .slice B nb cb]] w fun e w' => e = .returned (.bool true) ∧ Below w.heap.size w w' := by
  have H0 := Lib.hid ((((MS.start w).arg hA hca).arg hX hcx).arg hB hcb)
  have HLNx := Lib.hid hlx
  have HLNb := Lib.hid hlb
  have HSa := Lib.hid (small8 (r := r) (s := c) (by omega) (by omega))
  have HSx := Lib.hid hsx
  have HSb := Lib.hid hsb
  have HD := Lib.hid hd
  obtain ⟨k, hk⟩ : ∃ k, rankM r c ma = k := ⟨_, rfl⟩
  have HK := Lib.hid hk
  have HKM := Lib.hid (show k ≤ r ∧ k ≤ c from by have := rank_min r c ma; omega)
  obtain ⟨mn, hmn⟩ : ∃ mn, min (r : Int) (c : Int) = mn := ⟨_, rfl⟩
  have m1 := fun W => run_min2 (r : Int) (c : Int) mn hmn W
  have hkm : ¬ mn < (k : Int) := by have := HKM.out; omega
  have HM := Lib.hid hm
  have HMX := Lib.hid (show lx = flat c d (ent lx d) from (flat_ent (by rw [hlx]; exact hm.2.2.1)).symm)
  have HKC := Lib.hid hkc
  have hkc1 : ((k : Int) == (c : Int)) = false := by simp; omega
  clear hA hca hX hcx hlx hB hcb hlb hsx hsb hd hmn hk hm hkc
  go_enter Try.func5, Try.ntmps5
  have L1 := Lib.hid (show MS _ _ _ ((w.heap.size, #[.int .i64 (r : Int), .int .i64 (c : Int), .slice A (r * c) ca]) :: _) (w.alloc (.cells #[.int .i64 (r : Int), .int .i64 (c : Int), .slice A (r * c) ca] 27)) from by have h := H0.out.put #[.int .i64 (r : Int), .int .i64 (c : Int), .slice A (r * c) ca]; (try simp only [World.size_alloc] at h); exact h)
  have L2 := Lib.hid (show MS _ _ _ ((w.heap.size + 1, #[.int .i64 Rx, .int .i64 Cx, .slice X nx cx]) :: _) ((w.alloc (.cells #[.int .i64 (r : Int), .int .i64 (c : Int), .slice A (r * c) ca] 27)).alloc (.cells #[.int .i64 Rx, .int .i64 Cx, .slice X nx cx] 27)) from by have h := L1.out.put #[.int .i64 Rx, .int .i64 Cx, .slice X nx cx]; (try simp only [World.size_alloc] at h); exact h)
  have L3 := Lib.hid (show MS _ _ _ ((w.heap.size + 1 + 1, #[.int .i64 Rb, .int .i64 Cb, .slice B nb cb]) :: _) (((w.alloc (.cells #[.int .i64 (r : Int), .int .i64 (c : Int), .slice A (r * c) ca] 27)).alloc (.cells #[.int .i64 Rx, .int .i64 Cx, .slice X nx cx] 27)).alloc (.cells #[.int .i64 Rb, .int .i64 Cb, .slice B nb cb] 27)) from by have h := L2.out.put #[.int .i64 Rb, .int .i64 Cb, .slice B nb cb]; (try simp only [World.size_alloc] at h); exact h)
  obtain ⟨a4, b4, d4⟩ := L3.out.cells (.tail _ (.tail _ (.head _)))
  go_wp2_with fail
  clear a4 b4 d4
  have H1 := L3
  clear L1 L2 L3
  generalize (((w.alloc (.cells #[.int .i64 (r : Int), .int .i64 (c : Int), .slice A (r * c) ca] 27)).alloc (.cells #[.int .i64 Rx, .int .i64 Cx, .slice X nx cx] 27)).alloc (.cells #[.int .i64 Rb, .int .i64 Cb, .slice B nb cb] 27)) = w1 at *
  refine (smallR H1.out 8 (by decide) (v := true) HSa.out).mono ?_
  rintro e w2 ⟨rfl, h⟩
  have H2 := Lib.hid h
  clear h
  obtain ⟨a5, b5, d5⟩ := H2.out.cells (.tail _ (.head _))
  go_wp2_with fail
  clear a5 b5 d5
  refine (smallR H2.out 8 (by decide) (v := true) HSx.out).mono ?_
  rintro e w3 ⟨rfl, h⟩
  have H3 := Lib.hid h
  clear h
  obtain ⟨a6, b6, d6⟩ := H3.out.cells (.head _)
  go_wp2_with fail
  clear a6 b6 d6
  refine (smallR H3.out 8 (by decide) (v := true) HSb.out).mono ?_
  rintro e w4 ⟨rfl, h⟩
  have H4 := Lib.hid h
  clear h
  obtain ⟨a7, b7, d7⟩ := H4.out.cells (.tail _ (.tail _ (.head _)))
  go_wp2_with fail
  clear a7 b7 d7
  refine (rightR H4.out (v := true) (right_dim (by have := HD.out; omega) rfl)).mono ?_
  rintro e w5 ⟨rfl, h⟩
  have H5 := Lib.hid h
  clear h
  go_wp2_with fail
  refine (newR H5.out).mono ?_
  rintro e w6 ⟨rfl, h⟩
  have H6 := Lib.hid h
  clear h
  obtain ⟨a8, b8, d8⟩ := H6.out.cells (.tail _ (.tail _ (.head _)))
  go_wp2_with fail
  clear a8 b8 d8
  refine (rankR H6.out (r := r) (c := c) (.tail _ (.tail _ (.head _))) rfl ⟨rfl, rfl⟩ (by have := HD.out; omega) rfl (k : Int) (by rw [HK.out])).mono ?_
  rintro e w7 ⟨rfl, h⟩
  have H7 := Lib.hid h
  clear h
  obtain ⟨a9, b9, d9⟩ := H7.out.cells (.tail _ (.tail _ (.head _)))
  obtain ⟨a10, b10, d10⟩ := H7.out.cells (.tail _ (.head _))
  go_wp2_with fail
  clear a9 b9 d9 a10 b10 d10
  refine (mulR H7.out (r := r) (c := c) (d := d) (.tail _ (.tail _ (.head _))) (.tail _ (.head _)) rfl HM.out.2.2.1 ⟨rfl, rfl, HM.out.1, HM.out.2.1⟩ (by have := HD.out; have := HM.out.2.2.2; omega) rfl HMX.out r Cx (r * d) ⟨rfl, HM.out.2.1, rfl⟩ rfl).mono ?_
  rintro e w8 ⟨A8, c8, rfl, h⟩
  have H8 := Lib.hid h
  clear h
  have L11 := Lib.hid (show MS _ _ _ ((w8.heap.size, #[.int .i64 (r : Int), .int .i64 Cx, .slice A8 (r * d) c8]) :: _) (w8.alloc (.cells #[.int .i64 (r : Int), .int .i64 Cx, .slice A8 (r * d) c8] 27)) from by have h := H8.out.put #[.int .i64 (r : Int), .int .i64 Cx, .slice A8 (r * d) c8]; (try simp only [World.size_alloc] at h); exact h)
  obtain ⟨a12, b12, d12⟩ := L11.out.cells (.tail _ (.tail _ (.tail _ (.head _))))
  obtain ⟨a13, b13, d13⟩ := L11.out.cells (.head _)
  go_wp2_with fail
  clear a12 b12 d12 a13 b13 d13
  have H9 := L11
  clear L11
  generalize (w8.alloc (.cells #[.int .i64 (r : Int), .int .i64 Cx, .slice A8 (r * d) c8] 27)) = w9 at *
  refine (solve1R H9.out (r := r) (c := c) (d := d) (.tail _ (.tail _ (.tail _ (.head _)))) (.head _) rfl rfl ⟨rfl, rfl, rfl, HM.out.2.1⟩ (by have := HD.out; have := HM.out.2.2.2; omega) rfl rfl (solve_less HKC.out)).mono ?_
  rintro e w10 ⟨rfl, h⟩
  have H10 := Lib.hid h
  clear h
  have L14 := Lib.hid (show MS _ _ _ ((w10.heap.size, #[.int .i64 0, .int .i64 0, .slice none 0 0]) :: _) (w10.alloc (.cells #[.int .i64 0, .int .i64 0, .slice none 0 0] 27)) from by have h := H10.out.put #[.int .i64 0, .int .i64 0, .slice none 0 0]; (try simp only [World.size_alloc] at h); exact h)
  obtain ⟨a15, b15, d15⟩ := L14.out.cells (.tail _ (.tail _ (.tail _ (.tail _ (.head _)))))
  obtain ⟨a16, b16, d16⟩ := L14.out.cells (.tail _ (.tail _ (.tail _ (.tail _ (.head _)))))
  obtain ⟨a17, b17, d17⟩ := L14.out.cells (.tail _ (.tail _ (.head _)))
  go_wp2_with fail
  clear a15 b15 d15 a16 b16 d16 a17 b17 d17
  have H11 := L14
  clear L14
  generalize (w10.alloc (.cells #[.int .i64 0, .int .i64 0, .slice none 0 0] 27)) = w11 at *
  cases hb : solB (r : Int) (c : Int) (r * c) Rb Cb nb with
  | false =>
    have HB := Lib.hid hb
    clear hb
    refine (solve0R H11.out _ HB.out).mono ?_
    rintro e w12 ⟨rfl, h⟩
    have H12 := Lib.hid h
    clear h
    obtain ⟨a18, b18, d18⟩ := H12.out.cells (.tail _ (.tail _ (.tail _ (.tail _ (.head _)))))
    obtain ⟨a19, b19, d19⟩ := H12.out.cells (.tail _ (.tail _ (.head _)))
    have L20 := Lib.hid (show MS _ _ _ ((w12.heap.size, #[.int .i64 0, .int .i64 0, .slice none 0 0]) :: _) (w12.alloc (.cells #[.int .i64 0, .int .i64 0, .slice none 0 0] 27)) from by have h := H12.out.put #[.int .i64 0, .int .i64 0, .slice none 0 0]; (try simp only [World.size_alloc] at h); exact h)
    obtain ⟨a21, b21, d21⟩ := L20.out.cells (.tail _ (.tail _ (.tail _ (.tail _ (.tail _ (.head _))))))
    go_wp2_with fail
    clear a18 b18 d18 a19 b19 d19 a21 b21 d21
    have H13 := L20
    clear L20
    generalize (w12.alloc (.cells #[.int .i64 0, .int .i64 0, .slice none 0 0] 27)) = w13 at *
    by_cases hrc : r = c
    · have HRC := Lib.hid (show c = r from hrc.symm)
      have hrc1 : ((r : Int) != (c : Int)) = false := by simp; omega
      clear hrc
      cases hi : solves r r r ma idm with
      | false =>
        have HI := Lib.hid hi
        have hkr : (k : Int) < (r : Int) := by
          have h1 := HK.out; have h2 := HKM.out
          have h3 : k ≠ r := fun e => by
            rw [HRC.out] at h1
            rw [solve_sq (h1.trans e)] at hi; cases hi
          omega
        clear hi
        refine (inv1R H13.out (r := r) (.tail _ (.tail _ (.tail _ (.head _)))) (by rw [HRC.out]) ⟨rfl, by rw [HRC.out]⟩ (by have := HD.out; omega) (by rw [HRC.out]) HI.out).mono ?_
        rintro e w14 ⟨rfl, h⟩
        have H14 := Lib.hid h
        clear h
        obtain ⟨a22, b22, d22⟩ := H14.out.cells (.tail _ (.tail _ (.tail _ (.tail _ (.tail _ (.head _))))))
        have L23 := Lib.hid (show MS _ _ _ ((w14.heap.size, #[.int .i64 0, .int .i64 0, .slice none 0 0]) :: _) (w14.alloc (.cells #[.int .i64 0, .int .i64 0, .slice none 0 0] 27)) from by have h := H14.out.put #[.int .i64 0, .int .i64 0, .slice none 0 0]; (try simp only [World.size_alloc] at h); exact h)
        obtain ⟨a24, b24, d24⟩ := L23.out.cells (.tail _ (.tail _ (.tail _ (.tail _ (.tail _ (.tail _ (.head _)))))))
        go_wp2_with fail
        clear a22 b22 d22 a24 b24 d24
        have H15 := L23
        clear L23
        generalize (w14.alloc (.cells #[.int .i64 0, .int .i64 0, .slice none 0 0] 27)) = w15 at *
        refine (works_any _).mono ?_
        rintro e w16 ⟨rfl, hb⟩
        have H16 := Lib.hid (MS.keep H15.out hb)
        clear hb
        go_wp2_with fail
        go_ret
        exact ⟨rfl, H16.out.below⟩
      | true =>
        have HI := Lib.hid hi
        have hkr : ((k : Int) == (r : Int)) = true := by
          have h1 := HK.out; have h2 := solve_rank hi
          rw [HRC.out] at h1; simp; omega
        clear hi
        refine (invR H13.out (r := r) (.tail _ (.tail _ (.tail _ (.head _)))) (by rw [HRC.out]) ⟨rfl, by rw [HRC.out]⟩ (by have := HD.out; omega) (by rw [HRC.out]) HI.out r (r * r) ⟨rfl, rfl⟩ rfl).mono ?_
        rintro e w14 ⟨A14, c14, rfl, h⟩
        have H14 := Lib.hid h
        clear h
        obtain ⟨a22, b22, d22⟩ := H14.out.cells (.tail _ (.tail _ (.tail _ (.tail _ (.tail _ (.head _))))))
        have L23 := Lib.hid (show MS _ _ _ ((w14.heap.size, #[.int .i64 (r : Int), .int .i64 (r : Int), .slice A14 (r * r) c14]) :: _) (w14.alloc (.cells #[.int .i64 (r : Int), .int .i64 (r : Int), .slice A14 (r * r) c14] 27)) from by have h := H14.out.put #[.int .i64 (r : Int), .int .i64 (r : Int), .slice A14 (r * r) c14]; (try simp only [World.size_alloc] at h); exact h)
        obtain ⟨a24, b24, d24⟩ := L23.out.cells (.tail _ (.tail _ (.tail _ (.tail _ (.tail _ (.tail _ (.head _)))))))
        obtain ⟨a25, b25, d25⟩ := L23.out.cells (.head _)
        go_wp2_with fail
        clear a22 b22 d22 a24 b24 d24 a25 b25 d25
        have H15 := L23
        clear L23
        generalize (w14.alloc (.cells #[.int .i64 (r : Int), .int .i64 (r : Int), .slice A14 (r * r) c14] 27)) = w15 at *
        refine (mulR H15.out (r := r) (c := r) (d := r) (.tail _ (.tail _ (.tail _ (.tail _ (.head _))))) (.head _) (by rw [HRC.out]) rfl ⟨rfl, by rw [HRC.out], rfl, rfl⟩ (by have := HD.out; omega) (by rw [HRC.out]) rfl r r (r * r) ⟨rfl, rfl, rfl⟩ (l := flat r r idm) (inv_right HI.out)).mono ?_
        rintro e w16 ⟨A16, c16, rfl, h⟩
        have H16 := Lib.hid h
        clear h
        have L26 := Lib.hid (show MS _ _ _ ((w16.heap.size, #[.int .i64 (r : Int), .int .i64 (r : Int), .slice A16 (r * r) c16]) :: _) (w16.alloc (.cells #[.int .i64 (r : Int), .int .i64 (r : Int), .slice A16 (r * r) c16] 27)) from by have h := H16.out.put #[.int .i64 (r : Int), .int .i64 (r : Int), .slice A16 (r * r) c16]; (try simp only [World.size_alloc] at h); exact h)
        obtain ⟨a27, b27, d27⟩ := L26.out.cells (.tail _ (.tail _ (.tail _ (.tail _ (.tail _ (.tail _ (.tail _ (.head _))))))))
        obtain ⟨a28, b28, d28⟩ := L26.out.cells (.tail _ (.head _))
        go_wp2_with fail
        clear a27 b27 d27 a28 b28 d28
        have H17 := L26
        clear L26
        generalize (w16.alloc (.cells #[.int .i64 (r : Int), .int .i64 (r : Int), .slice A16 (r * r) c16] 27)) = w17 at *
        refine (mulR H17.out (r := r) (c := r) (d := r) (.tail _ (.head _)) (.tail _ (.tail _ (.tail _ (.tail _ (.tail _ (.head _)))))) rfl (by rw [HRC.out]) ⟨rfl, rfl, rfl, by rw [HRC.out]⟩ (by have := HD.out; omega) rfl (by rw [HRC.out]) r r (r * r) ⟨rfl, rfl, rfl⟩ (l := flat r r idm) (inv_left HI.out)).mono ?_
        rintro e w18 ⟨A18, c18, rfl, h⟩
        have H18 := Lib.hid h
        clear h
        have L29 := Lib.hid (show MS _ _ _ ((w18.heap.size, #[.int .i64 (r : Int), .int .i64 (r : Int), .slice A18 (r * r) c18]) :: _) (w18.alloc (.cells #[.int .i64 (r : Int), .int .i64 (r : Int), .slice A18 (r * r) c18] 27)) from by have h := H18.out.put #[.int .i64 (r : Int), .int .i64 (r : Int), .slice A18 (r * r) c18]; (try simp only [World.size_alloc] at h); exact h)
        go_wp2_with fail
        have H19 := L29
        clear L29
        generalize (w18.alloc (.cells #[.int .i64 (r : Int), .int .i64 (r : Int), .slice A18 (r * r) c18] 27)) = w19 at *
        refine wp_region_noPanic ?_
        refine wp_heldG (fun w' => (w'.cell? ⟨w.heap.size, 0, none⟩ = some (.int .i64 (r : Int)) ∧ w'.cell? ⟨w.heap.size, 1, none⟩ = some (.int .i64 (c : Int)) ∧ w'.cell? ⟨w.heap.size, 2, none⟩ = some (.slice A (r * c) ca)) ∧ (w'.cell? ⟨w16.heap.size, 0, none⟩ = some (.int .i64 (r : Int)) ∧ w'.cell? ⟨w16.heap.size, 1, none⟩ = some (.int .i64 (r : Int)) ∧ w'.cell? ⟨w16.heap.size, 2, none⟩ = some (.slice A16 (r * r) c16)) ∧ (w'.cell? ⟨w18.heap.size, 0, none⟩ = some (.int .i64 (r : Int)) ∧ w'.cell? ⟨w18.heap.size, 1, none⟩ = some (.int .i64 (r : Int)) ∧ w'.cell? ⟨w18.heap.size, 2, none⟩ = some (.slice A18 (r * r) c18))) [] (by kernel_rfl) ?hs0 ?rg0
        case hs0 =>
          have h := H19.out.keep (nextN (Mem.start w19) 1)
          exact ⟨h.cells (.tail _ (.tail _ (.tail _ (.tail _ (.tail _ (.tail _ (.tail _ (.tail _ (.head _))))))))), h.cells (.tail _ (.head _)), h.cells (.head _)⟩
        case rg0 =>
        intro hHeld
        have HD19 := Lib.hid (show MS _ _ _ _ w19.drew from H19.out.keep (nextN (Mem.start w19) 1))
        generalize w19.drew = wd19 at *
        refine wpAnyG_pure (i := 0) (oi := { dst := some 161, op := Op.move (Operand.tmp 8), type := 3, pos := _, after := #[], guard := none }) (v := ?_) rfl (by kernel_rfl) (by kernel_rfl) (by kernel_rfl) (by kernel_rfl) (fun _ _ _ h => h) (Or.inl ⟨by rfl, ?_⟩) (fun _ => by assumption) ?_
        rotate_left
        · intro w hSw
          try dsimp only at hSw
          go_simp
          try with_reducible rfl
        try simp only [Act.put, List.setIfInBounds_toArray, List.set_cons_zero, List.set_cons_succ]
        refine wpAnyG_pure (i := 1) (oi := { dst := some 162, op := Op.fieldAddr 27 (Operand.tmp 3) 0, type := 0, pos := _, after := #[], guard := none }) (v := ?_) rfl (by kernel_rfl) (by kernel_rfl) (by kernel_rfl) (by kernel_rfl) (fun _ _ _ h => h) (Or.inl ⟨by rfl, ?_⟩) (fun _ => by assumption) ?_
        rotate_left
        · intro w hSw
          try dsimp only at hSw
          go_simp
          try with_reducible rfl
        try simp only [Act.put, List.setIfInBounds_toArray, List.set_cons_zero, List.set_cons_succ]
        refine wpAnyG_take (i := 2) (oi := { dst := some 163, op := Op.load 3 (Operand.tmp 162), type := 3, pos := _, after := #[{ on := 1, ground := Ground.data }], guard := none }) (v := ?_) rfl (by kernel_rfl) (by kernel_rfl) (by kernel_rfl) (by kernel_rfl) (fun _ _ _ h => h) (Or.inl ⟨by rfl, ?_⟩) (by assumption) ?_
        rotate_left
        · intro w hSw
          try dsimp only at hSw
          obtain ⟨⟨k0, k1, k2⟩, ⟨l0, l1, l2⟩, ⟨n0, n1, n2⟩⟩ := hSw
          go_simp
          try with_reducible rfl
        try simp only [Act.put, List.setIfInBounds_toArray, List.set_cons_zero, List.set_cons_succ]
        refine wpAnyG_pure (i := 3) (oi := { dst := some 164, op := Op.binOp BinOp.eql 3 (Operand.tmp 161) (Operand.tmp 163) 3, type := 4, pos := _, after := #[{ on := 0, ground := Ground.data }, { on := 2, ground := Ground.data }], guard := none }) (v := ?_) rfl (by kernel_rfl) (by kernel_rfl) (by kernel_rfl) (by kernel_rfl) (fun _ _ _ h => h) (Or.inl ⟨by rfl, ?_⟩) (fun _ => by assumption) ?_
        rotate_left
        · intro w hSw
          try dsimp only at hSw
          go_simp
          try with_reducible rfl
        try simp only [Act.put, List.setIfInBounds_toArray, List.set_cons_zero, List.set_cons_succ]
        refine wpAnyG_pure (i := 4) (oi := { dst := some 165, op := Op.move (Operand.tmp 164), type := 4, pos := _, after := #[{ on := 3, ground := Ground.data }], guard := none }) (v := ?_) rfl (by kernel_rfl) (by kernel_rfl) (by kernel_rfl) (by kernel_rfl) (fun _ _ _ h => h) (Or.inl ⟨by rfl, ?_⟩) (fun _ => by assumption) ?_
        rotate_left
        · intro w hSw
          try dsimp only at hSw
          go_simp
          try with_reducible rfl
        try simp only [Act.put, List.setIfInBounds_toArray, List.set_cons_zero, List.set_cons_succ]
        refine wpAnyG_take (i := 5) (oi := { dst := some 166, op := Op.load 27 (Operand.tmp 20), type := 27, pos := _, after := #[{ on := 4, ground := Ground.guard }], guard := some (4, true) }) (v := ?_) rfl (by kernel_rfl) (by kernel_rfl) (by kernel_rfl) (by kernel_rfl) (fun _ _ _ h => h) (Or.inl ⟨by rfl, ?_⟩) (by assumption) ?_
        rotate_left
        · intro w hSw
          try dsimp only at hSw
          obtain ⟨⟨k0, k1, k2⟩, ⟨l0, l1, l2⟩, ⟨n0, n1, n2⟩⟩ := hSw
          go_simp
          try with_reducible rfl
        try simp only [Act.put, List.setIfInBounds_toArray, List.set_cons_zero, List.set_cons_succ]
        refine wpAnyG_pure (i := 6) (oi := { dst := some 167, op := Op.fieldAddr 27 (Operand.tmp 3) 0, type := 0, pos := _, after := #[{ on := 4, ground := Ground.guard }], guard := some (4, true) }) (v := ?_) rfl (by kernel_rfl) (by kernel_rfl) (by kernel_rfl) (by kernel_rfl) (fun _ _ _ h => h) (Or.inl ⟨by rfl, ?_⟩) (fun _ => by assumption) ?_
        rotate_left
        · intro w hSw
          try dsimp only at hSw
          go_simp
          try with_reducible rfl
        try simp only [Act.put, List.setIfInBounds_toArray, List.set_cons_zero, List.set_cons_succ]
        refine wpAnyG_take (i := 7) (oi := { dst := some 168, op := Op.load 3 (Operand.tmp 167), type := 3, pos := _, after := #[{ on := 6, ground := Ground.data }, { on := 4, ground := Ground.guard }], guard := some (4, true) }) (v := ?_) rfl (by kernel_rfl) (by kernel_rfl) (by kernel_rfl) (by kernel_rfl) (fun _ _ _ h => h) (Or.inl ⟨by rfl, ?_⟩) (by assumption) ?_
        rotate_left
        · intro w hSw
          try dsimp only at hSw
          obtain ⟨⟨k0, k1, k2⟩, ⟨l0, l1, l2⟩, ⟨n0, n1, n2⟩⟩ := hSw
          go_simp
          try with_reducible rfl
        try simp only [Act.put, List.setIfInBounds_toArray, List.set_cons_zero, List.set_cons_succ]
        refine wpAnyG_one (i := 8) (o := { dst := some 169, op := Op.call { callee := Callee.value (Operand.func 27), args := #[Operand.tmp 168], argTypes := #[3] }, type := 27, pos := _, after := #[{ on := 7, ground := Ground.data }, { on := 4, ground := Ground.chain }, { on := 4, ground := Ground.guard }], guard := some (4, true) }) (by kernel_rfl) rfl (fun K hK => ?_)
        go_simp
        refine (oneR HD19.out (r := r) rfl (by have := HD.out; omega) (r * r) rfl rfl).mono ?_
        rintro e w20 ⟨A20, c20, rfl, h⟩
        have H20 := Lib.hid h
        clear h
        try dsimp only
        refine hK.out _ _ ?_ (fun hHeld => ?_)
        · intro _
          try dsimp only
          have h := H20.out
          exact ⟨h.cells (.tail _ (.tail _ (.tail _ (.tail _ (.tail _ (.tail _ (.tail _ (.tail _ (.head _))))))))), h.cells (.tail _ (.head _)), h.cells (.head _)⟩
        clear hK K
        try simp only [Act.put, List.setIfInBounds_toArray, List.set_cons_zero, List.set_cons_succ]
        have hHeld := hHeld (by kernel_rfl)
        refine wpAnyG_one (i := 9) (o := { dst := some 170, op := Op.call { callee := Callee.value (Operand.func 24), args := #[Operand.tmp 166, Operand.tmp 169], argTypes := #[27, 27] }, type := 4, pos := _, after := #[{ on := 5, ground := Ground.data }, { on := 8, ground := Ground.data }, { on := 8, ground := Ground.chain }, { on := 4, ground := Ground.guard }], guard := some (4, true) }) (by kernel_rfl) rfl (fun K hK => ?_)
        go_simp
        refine (sameR H20.out (.tail _ (.tail _ (.head _))) (flat_len _ _ _) (.head _) (flat_len _ _ _) (v := true) (sameB_self _ _ _)).mono ?_
        rintro e w21 ⟨rfl, h⟩
        have H21 := Lib.hid h
        clear h
        try dsimp only
        refine hK.out _ _ ?_ (fun hHeld => ?_)
        · intro _
          try dsimp only
          have h := H21.out
          exact ⟨h.cells (.tail _ (.tail _ (.tail _ (.tail _ (.tail _ (.tail _ (.tail _ (.tail _ (.head _))))))))), h.cells (.tail _ (.head _)), h.cells (.head _)⟩
        clear hK K
        try simp only [Act.put, List.setIfInBounds_toArray, List.set_cons_zero, List.set_cons_succ]
        have hHeld := hHeld (by kernel_rfl)
        refine wpAnyG_pure (i := 10) (oi := { dst := some 171, op := Op.pick (Operand.tmp 165) (Operand.tmp 170) (Operand.const (Value.bool false)), type := 4, pos := _, after := #[{ on := 4, ground := Ground.data }, { on := 9, ground := Ground.data }], guard := none }) (v := ?_) rfl (by kernel_rfl) (by kernel_rfl) (by kernel_rfl) (by kernel_rfl) (fun _ _ _ h => h) (Or.inl ⟨by rfl, ?_⟩) (fun _ => by assumption) ?_
        rotate_left
        · intro w hSw
          try dsimp only at hSw
          go_simp
          try with_reducible rfl
        try simp only [Act.put, List.setIfInBounds_toArray, List.set_cons_zero, List.set_cons_succ]
        refine wpAnyG_pure (i := 11) (oi := { dst := some 172, op := Op.move (Operand.tmp 171), type := 4, pos := _, after := #[{ on := 10, ground := Ground.data }, { on := 9, ground := Ground.chain }], guard := none }) (v := ?_) rfl (by kernel_rfl) (by kernel_rfl) (by kernel_rfl) (by kernel_rfl) (fun _ _ _ h => h) (Or.inl ⟨by rfl, ?_⟩) (fun _ => by assumption) ?_
        rotate_left
        · intro w hSw
          try dsimp only at hSw
          go_simp
          try with_reducible rfl
        try simp only [Act.put, List.setIfInBounds_toArray, List.set_cons_zero, List.set_cons_succ]
        refine wpAnyG_take (i := 12) (oi := { dst := some 173, op := Op.load 27 (Operand.tmp 22), type := 27, pos := _, after := #[{ on := 11, ground := Ground.guard }], guard := some (11, true) }) (v := ?_) rfl (by kernel_rfl) (by kernel_rfl) (by kernel_rfl) (by kernel_rfl) (fun _ _ _ h => h) (Or.inl ⟨by rfl, ?_⟩) (by assumption) ?_
        rotate_left
        · intro w hSw
          try dsimp only at hSw
          obtain ⟨⟨k0, k1, k2⟩, ⟨l0, l1, l2⟩, ⟨n0, n1, n2⟩⟩ := hSw
          go_simp
          try with_reducible rfl
        try simp only [Act.put, List.setIfInBounds_toArray, List.set_cons_zero, List.set_cons_succ]
        refine wpAnyG_take (i := 13) (oi := { dst := some 174, op := Op.load 27 (Operand.tmp 20), type := 27, pos := _, after := #[{ on := 11, ground := Ground.guard }], guard := some (11, true) }) (v := ?_) rfl (by kernel_rfl) (by kernel_rfl) (by kernel_rfl) (by kernel_rfl) (fun _ _ _ h => h) (Or.inl ⟨by rfl, ?_⟩) (by assumption) ?_
        rotate_left
        · intro w hSw
          try dsimp only at hSw
          obtain ⟨⟨k0, k1, k2⟩, ⟨l0, l1, l2⟩, ⟨n0, n1, n2⟩⟩ := hSw
          go_simp
          try with_reducible rfl
        try simp only [Act.put, List.setIfInBounds_toArray, List.set_cons_zero, List.set_cons_succ]
        refine wpAnyG_one (i := 14) (o := { dst := some 175, op := Op.call { callee := Callee.value (Operand.func 24), args := #[Operand.tmp 173, Operand.tmp 174], argTypes := #[27, 27] }, type := 4, pos := _, after := #[{ on := 12, ground := Ground.data }, { on := 13, ground := Ground.data }, { on := 11, ground := Ground.chain }, { on := 11, ground := Ground.guard }], guard := some (11, true) }) (by kernel_rfl) rfl (fun K hK => ?_)
        go_simp
        refine (sameR H21.out (.tail _ (.head _)) (flat_len _ _ _) (.tail _ (.tail _ (.head _))) (flat_len _ _ _) (v := true) (sameB_self _ _ _)).mono ?_
        rintro e w22 ⟨rfl, h⟩
        have H22 := Lib.hid h
        clear h
        try dsimp only
        refine hK.out _ _ ?_ (fun hHeld => ?_)
        · intro _
          try dsimp only
          have h := H22.out
          exact ⟨h.cells (.tail _ (.tail _ (.tail _ (.tail _ (.tail _ (.tail _ (.tail _ (.tail _ (.head _))))))))), h.cells (.tail _ (.head _)), h.cells (.head _)⟩
        clear hK K
        try simp only [Act.put, List.setIfInBounds_toArray, List.set_cons_zero, List.set_cons_succ]
        have hHeld := hHeld (by kernel_rfl)
        refine wpAnyG_pure (i := 15) (oi := { dst := some 176, op := Op.pick (Operand.tmp 172) (Operand.tmp 175) (Operand.const (Value.bool false)), type := 4, pos := _, after := #[{ on := 11, ground := Ground.data }, { on := 14, ground := Ground.data }], guard := none }) (v := ?_) rfl (by kernel_rfl) (by kernel_rfl) (by kernel_rfl) (by kernel_rfl) (fun _ _ _ h => h) (Or.inl ⟨by rfl, ?_⟩) (fun _ => by assumption) ?_
        rotate_left
        · intro w hSw
          try dsimp only at hSw
          go_simp
          try with_reducible rfl
        try simp only [Act.put, List.setIfInBounds_toArray, List.set_cons_zero, List.set_cons_succ]
        refine wpAnyG_pure (i := 16) (oi := { dst := some 177, op := Op.move (Operand.tmp 176), type := 4, pos := _, after := #[{ on := 15, ground := Ground.data }, { on := 14, ground := Ground.chain }], guard := none }) (v := ?_) rfl (by kernel_rfl) (by kernel_rfl) (by kernel_rfl) (by kernel_rfl) (fun _ _ _ h => h) (Or.inl ⟨by rfl, ?_⟩) (fun _ => by assumption) ?_
        rotate_left
        · intro w hSw
          try dsimp only at hSw
          go_simp
          try with_reducible rfl
        try simp only [Act.put, List.setIfInBounds_toArray, List.set_cons_zero, List.set_cons_succ]
        refine wpAnyG_one (i := 17) (o := { dst := some 178, op := Op.call { callee := Callee.value (Operand.func 11), args := #[], argTypes := #[] }, type := 4, pos := _, after := #[{ on := 16, ground := Ground.chain }, { on := 16, ground := Ground.guard }], guard := some (16, true) }) (by kernel_rfl) rfl (fun K hK => ?_)
        go_simp
        refine (works_any _).mono ?_
        rintro e w23 ⟨rfl, hb⟩
        have H23 := Lib.hid (MS.keep H22.out hb)
        clear hb
        try dsimp only
        refine hK.out _ _ ?_ (fun hHeld => ?_)
        · intro _
          try dsimp only
          have h := H23.out
          exact ⟨h.cells (.tail _ (.tail _ (.tail _ (.tail _ (.tail _ (.tail _ (.tail _ (.tail _ (.head _))))))))), h.cells (.tail _ (.head _)), h.cells (.head _)⟩
        clear hK K
        try simp only [Act.put, List.setIfInBounds_toArray, List.set_cons_zero, List.set_cons_succ]
        have hHeld := hHeld (by kernel_rfl)
        refine wpAnyG_pure (i := 18) (oi := { dst := some 179, op := Op.pick (Operand.tmp 177) (Operand.tmp 178) (Operand.const (Value.bool false)), type := 4, pos := _, after := #[{ on := 16, ground := Ground.data }, { on := 17, ground := Ground.data }], guard := none }) (v := ?_) rfl (by kernel_rfl) (by kernel_rfl) (by kernel_rfl) (by kernel_rfl) (fun _ _ _ h => h) (Or.inl ⟨by rfl, ?_⟩) (fun _ => by assumption) ?_
        rotate_left
        · intro w hSw
          try dsimp only at hSw
          go_simp
          try with_reducible rfl
        try simp only [Act.put, List.setIfInBounds_toArray, List.set_cons_zero, List.set_cons_succ]
        refine wpAnyG_pure (i := 19) (oi := { dst := some 6, op := Op.assign (Operand.tmp 179), type := 4, pos := _, after := #[{ on := 18, ground := Ground.data }, { on := 17, ground := Ground.chain }, { on := 0, ground := Ground.phase }, { on := 1, ground := Ground.phase }, { on := 2, ground := Ground.phase }, { on := 3, ground := Ground.phase }, { on := 4, ground := Ground.phase }, { on := 5, ground := Ground.phase }, { on := 6, ground := Ground.phase }, { on := 7, ground := Ground.phase }, { on := 8, ground := Ground.phase }, { on := 9, ground := Ground.phase }, { on := 10, ground := Ground.phase }, { on := 11, ground := Ground.phase }, { on := 12, ground := Ground.phase }, { on := 13, ground := Ground.phase }, { on := 14, ground := Ground.phase }, { on := 15, ground := Ground.phase }, { on := 16, ground := Ground.phase }, { on := 17, ground := Ground.phase }, { on := 18, ground := Ground.phase }], guard := none }) (v := ?_) rfl (by kernel_rfl) (by kernel_rfl) (by kernel_rfl) (by kernel_rfl) (fun _ _ _ h => h) (Or.inl ⟨by rfl, ?_⟩) (fun _ => by assumption) ?_
        rotate_left
        · intro w hSw
          try dsimp only at hSw
          go_simp
          try with_reducible rfl
        try simp only [Act.put, List.setIfInBounds_toArray, List.set_cons_zero, List.set_cons_succ]
        refine wpAnyG_done (by kernel_rfl) ?_ _
        refine NoPanic.normal ?_
        go_wp2_with fail
        go_ret
        exact ⟨rfl, H23.out.below⟩
    · have HV := Lib.hid (show (rightB (r : Int) (c : Int) (r * c) && (r : Int) == (c : Int)) = false from by rw [Bool.and_eq_false_iff]; right; simp; omega)
      have hrc1 : ((r : Int) != (c : Int)) = true := by simp; omega
      clear hrc
      refine (inv0R H13.out _ HV.out).mono ?_
      rintro e w14 ⟨rfl, h⟩
      have H14 := Lib.hid h
      clear h
      obtain ⟨a22, b22, d22⟩ := H14.out.cells (.tail _ (.tail _ (.tail _ (.tail _ (.tail _ (.head _))))))
      have L23 := Lib.hid (show MS _ _ _ ((w14.heap.size, #[.int .i64 0, .int .i64 0, .slice none 0 0]) :: _) (w14.alloc (.cells #[.int .i64 0, .int .i64 0, .slice none 0 0] 27)) from by have h := H14.out.put #[.int .i64 0, .int .i64 0, .slice none 0 0]; (try simp only [World.size_alloc] at h); exact h)
      obtain ⟨a24, b24, d24⟩ := L23.out.cells (.tail _ (.tail _ (.tail _ (.tail _ (.tail _ (.tail _ (.head _)))))))
      go_wp2_with fail
      clear a22 b22 d22 a24 b24 d24
      have H15 := L23
      clear L23
      generalize (w14.alloc (.cells #[.int .i64 0, .int .i64 0, .slice none 0 0] 27)) = w15 at *
      refine (works_any _).mono ?_
      rintro e w16 ⟨rfl, hb⟩
      have H16 := Lib.hid (MS.keep H15.out hb)
      clear hb
      go_wp2_with fail
      go_ret
      exact ⟨rfl, H16.out.below⟩
  | true =>
    obtain ⟨d2, hb1, hb2, hb3⟩ := sol_nat hb
    have HB := Lib.hid (And.intro hb1 (And.intro hb2 (And.intro hb3 (show d2 ≤ 8 from by have h := of_decide_eq_true HSb.out; omega))))
    have HMB := Lib.hid (show lb = flat r d2 (ent lb d2) from (flat_ent (by rw [HLNb.out]; exact hb3)).symm)
    clear hb hb1 hb2 hb3
    cases hs : solves r c d2 ma (ent lb d2) with
    | false =>
      have HT := Lib.hid hs
      clear hs
      refine (solve1R H11.out (r := r) (c := c) (d := d2) (.tail _ (.tail _ (.tail _ (.head _)))) (.tail _ (.head _)) rfl HB.out.2.2.1 ⟨rfl, rfl, HB.out.1, HB.out.2.1⟩ (by have := HD.out; have := HB.out.2.2.2; omega) rfl HMB.out HT.out).mono ?_
      rintro e w12 ⟨rfl, h⟩
      have H12 := Lib.hid h
      clear h
      obtain ⟨a18, b18, d18⟩ := H12.out.cells (.tail _ (.tail _ (.tail _ (.tail _ (.head _)))))
      obtain ⟨a19, b19, d19⟩ := H12.out.cells (.tail _ (.tail _ (.head _)))
      have L20 := Lib.hid (show MS _ _ _ ((w12.heap.size, #[.int .i64 0, .int .i64 0, .slice none 0 0]) :: _) (w12.alloc (.cells #[.int .i64 0, .int .i64 0, .slice none 0 0] 27)) from by have h := H12.out.put #[.int .i64 0, .int .i64 0, .slice none 0 0]; (try simp only [World.size_alloc] at h); exact h)
      obtain ⟨a21, b21, d21⟩ := L20.out.cells (.tail _ (.tail _ (.tail _ (.tail _ (.tail _ (.head _))))))
      go_wp2_with fail
      clear a18 b18 d18 a19 b19 d19 a21 b21 d21
      have H13 := L20
      clear L20
      generalize (w12.alloc (.cells #[.int .i64 0, .int .i64 0, .slice none 0 0] 27)) = w13 at *
      by_cases hrc : r = c
      · have HRC := Lib.hid (show c = r from hrc.symm)
        have hrc1 : ((r : Int) != (c : Int)) = false := by simp; omega
        clear hrc
        cases hi : solves r r r ma idm with
        | false =>
          have HI := Lib.hid hi
          have hkr : (k : Int) < (r : Int) := by
            have h1 := HK.out; have h2 := HKM.out
            have h3 : k ≠ r := fun e => by
              rw [HRC.out] at h1
              rw [solve_sq (h1.trans e)] at hi; cases hi
            omega
          clear hi
          refine (inv1R H13.out (r := r) (.tail _ (.tail _ (.tail _ (.head _)))) (by rw [HRC.out]) ⟨rfl, by rw [HRC.out]⟩ (by have := HD.out; omega) (by rw [HRC.out]) HI.out).mono ?_
          rintro e w14 ⟨rfl, h⟩
          have H14 := Lib.hid h
          clear h
          obtain ⟨a22, b22, d22⟩ := H14.out.cells (.tail _ (.tail _ (.tail _ (.tail _ (.tail _ (.head _))))))
          have L23 := Lib.hid (show MS _ _ _ ((w14.heap.size, #[.int .i64 0, .int .i64 0, .slice none 0 0]) :: _) (w14.alloc (.cells #[.int .i64 0, .int .i64 0, .slice none 0 0] 27)) from by have h := H14.out.put #[.int .i64 0, .int .i64 0, .slice none 0 0]; (try simp only [World.size_alloc] at h); exact h)
          obtain ⟨a24, b24, d24⟩ := L23.out.cells (.tail _ (.tail _ (.tail _ (.tail _ (.tail _ (.tail _ (.head _)))))))
          go_wp2_with fail
          clear a22 b22 d22 a24 b24 d24
          have H15 := L23
          clear L23
          generalize (w14.alloc (.cells #[.int .i64 0, .int .i64 0, .slice none 0 0] 27)) = w15 at *
          refine (works_any _).mono ?_
          rintro e w16 ⟨rfl, hb⟩
          have H16 := Lib.hid (MS.keep H15.out hb)
          clear hb
          go_wp2_with fail
          go_ret
          exact ⟨rfl, H16.out.below⟩
        | true =>
          have HI := Lib.hid hi
          have hkr : ((k : Int) == (r : Int)) = true := by
            have h1 := HK.out; have h2 := solve_rank hi
            rw [HRC.out] at h1; simp; omega
          clear hi
          refine (invR H13.out (r := r) (.tail _ (.tail _ (.tail _ (.head _)))) (by rw [HRC.out]) ⟨rfl, by rw [HRC.out]⟩ (by have := HD.out; omega) (by rw [HRC.out]) HI.out r (r * r) ⟨rfl, rfl⟩ rfl).mono ?_
          rintro e w14 ⟨A14, c14, rfl, h⟩
          have H14 := Lib.hid h
          clear h
          obtain ⟨a22, b22, d22⟩ := H14.out.cells (.tail _ (.tail _ (.tail _ (.tail _ (.tail _ (.head _))))))
          have L23 := Lib.hid (show MS _ _ _ ((w14.heap.size, #[.int .i64 (r : Int), .int .i64 (r : Int), .slice A14 (r * r) c14]) :: _) (w14.alloc (.cells #[.int .i64 (r : Int), .int .i64 (r : Int), .slice A14 (r * r) c14] 27)) from by have h := H14.out.put #[.int .i64 (r : Int), .int .i64 (r : Int), .slice A14 (r * r) c14]; (try simp only [World.size_alloc] at h); exact h)
          obtain ⟨a24, b24, d24⟩ := L23.out.cells (.tail _ (.tail _ (.tail _ (.tail _ (.tail _ (.tail _ (.head _)))))))
          obtain ⟨a25, b25, d25⟩ := L23.out.cells (.head _)
          go_wp2_with fail
          clear a22 b22 d22 a24 b24 d24 a25 b25 d25
          have H15 := L23
          clear L23
          generalize (w14.alloc (.cells #[.int .i64 (r : Int), .int .i64 (r : Int), .slice A14 (r * r) c14] 27)) = w15 at *
          refine (mulR H15.out (r := r) (c := r) (d := r) (.tail _ (.tail _ (.tail _ (.tail _ (.head _))))) (.head _) (by rw [HRC.out]) rfl ⟨rfl, by rw [HRC.out], rfl, rfl⟩ (by have := HD.out; omega) (by rw [HRC.out]) rfl r r (r * r) ⟨rfl, rfl, rfl⟩ (l := flat r r idm) (inv_right HI.out)).mono ?_
          rintro e w16 ⟨A16, c16, rfl, h⟩
          have H16 := Lib.hid h
          clear h
          have L26 := Lib.hid (show MS _ _ _ ((w16.heap.size, #[.int .i64 (r : Int), .int .i64 (r : Int), .slice A16 (r * r) c16]) :: _) (w16.alloc (.cells #[.int .i64 (r : Int), .int .i64 (r : Int), .slice A16 (r * r) c16] 27)) from by have h := H16.out.put #[.int .i64 (r : Int), .int .i64 (r : Int), .slice A16 (r * r) c16]; (try simp only [World.size_alloc] at h); exact h)
          obtain ⟨a27, b27, d27⟩ := L26.out.cells (.tail _ (.tail _ (.tail _ (.tail _ (.tail _ (.tail _ (.tail _ (.head _))))))))
          obtain ⟨a28, b28, d28⟩ := L26.out.cells (.tail _ (.head _))
          go_wp2_with fail
          clear a27 b27 d27 a28 b28 d28
          have H17 := L26
          clear L26
          generalize (w16.alloc (.cells #[.int .i64 (r : Int), .int .i64 (r : Int), .slice A16 (r * r) c16] 27)) = w17 at *
          refine (mulR H17.out (r := r) (c := r) (d := r) (.tail _ (.head _)) (.tail _ (.tail _ (.tail _ (.tail _ (.tail _ (.head _)))))) rfl (by rw [HRC.out]) ⟨rfl, rfl, rfl, by rw [HRC.out]⟩ (by have := HD.out; omega) rfl (by rw [HRC.out]) r r (r * r) ⟨rfl, rfl, rfl⟩ (l := flat r r idm) (inv_left HI.out)).mono ?_
          rintro e w18 ⟨A18, c18, rfl, h⟩
          have H18 := Lib.hid h
          clear h
          have L29 := Lib.hid (show MS _ _ _ ((w18.heap.size, #[.int .i64 (r : Int), .int .i64 (r : Int), .slice A18 (r * r) c18]) :: _) (w18.alloc (.cells #[.int .i64 (r : Int), .int .i64 (r : Int), .slice A18 (r * r) c18] 27)) from by have h := H18.out.put #[.int .i64 (r : Int), .int .i64 (r : Int), .slice A18 (r * r) c18]; (try simp only [World.size_alloc] at h); exact h)
          go_wp2_with fail
          have H19 := L29
          clear L29
          generalize (w18.alloc (.cells #[.int .i64 (r : Int), .int .i64 (r : Int), .slice A18 (r * r) c18] 27)) = w19 at *
          refine wp_region_noPanic ?_
          refine wp_heldG (fun w' => (w'.cell? ⟨w.heap.size, 0, none⟩ = some (.int .i64 (r : Int)) ∧ w'.cell? ⟨w.heap.size, 1, none⟩ = some (.int .i64 (c : Int)) ∧ w'.cell? ⟨w.heap.size, 2, none⟩ = some (.slice A (r * c) ca)) ∧ (w'.cell? ⟨w16.heap.size, 0, none⟩ = some (.int .i64 (r : Int)) ∧ w'.cell? ⟨w16.heap.size, 1, none⟩ = some (.int .i64 (r : Int)) ∧ w'.cell? ⟨w16.heap.size, 2, none⟩ = some (.slice A16 (r * r) c16)) ∧ (w'.cell? ⟨w18.heap.size, 0, none⟩ = some (.int .i64 (r : Int)) ∧ w'.cell? ⟨w18.heap.size, 1, none⟩ = some (.int .i64 (r : Int)) ∧ w'.cell? ⟨w18.heap.size, 2, none⟩ = some (.slice A18 (r * r) c18))) [] (by kernel_rfl) ?hs0 ?rg0
          case hs0 =>
            have h := H19.out.keep (nextN (Mem.start w19) 1)
            exact ⟨h.cells (.tail _ (.tail _ (.tail _ (.tail _ (.tail _ (.tail _ (.tail _ (.tail _ (.head _))))))))), h.cells (.tail _ (.head _)), h.cells (.head _)⟩
          case rg0 =>
          intro hHeld
          have HD19 := Lib.hid (show MS _ _ _ _ w19.drew from H19.out.keep (nextN (Mem.start w19) 1))
          generalize w19.drew = wd19 at *
          refine wpAnyG_pure (i := 0) (oi := { dst := some 161, op := Op.move (Operand.tmp 8), type := 3, pos := _, after := #[], guard := none }) (v := ?_) rfl (by kernel_rfl) (by kernel_rfl) (by kernel_rfl) (by kernel_rfl) (fun _ _ _ h => h) (Or.inl ⟨by rfl, ?_⟩) (fun _ => by assumption) ?_
          rotate_left
          · intro w hSw
            try dsimp only at hSw
            go_simp
            try with_reducible rfl
          try simp only [Act.put, List.setIfInBounds_toArray, List.set_cons_zero, List.set_cons_succ]
          refine wpAnyG_pure (i := 1) (oi := { dst := some 162, op := Op.fieldAddr 27 (Operand.tmp 3) 0, type := 0, pos := _, after := #[], guard := none }) (v := ?_) rfl (by kernel_rfl) (by kernel_rfl) (by kernel_rfl) (by kernel_rfl) (fun _ _ _ h => h) (Or.inl ⟨by rfl, ?_⟩) (fun _ => by assumption) ?_
          rotate_left
          · intro w hSw
            try dsimp only at hSw
            go_simp
            try with_reducible rfl
          try simp only [Act.put, List.setIfInBounds_toArray, List.set_cons_zero, List.set_cons_succ]
          refine wpAnyG_take (i := 2) (oi := { dst := some 163, op := Op.load 3 (Operand.tmp 162), type := 3, pos := _, after := #[{ on := 1, ground := Ground.data }], guard := none }) (v := ?_) rfl (by kernel_rfl) (by kernel_rfl) (by kernel_rfl) (by kernel_rfl) (fun _ _ _ h => h) (Or.inl ⟨by rfl, ?_⟩) (by assumption) ?_
          rotate_left
          · intro w hSw
            try dsimp only at hSw
            obtain ⟨⟨k0, k1, k2⟩, ⟨l0, l1, l2⟩, ⟨n0, n1, n2⟩⟩ := hSw
            go_simp
            try with_reducible rfl
          try simp only [Act.put, List.setIfInBounds_toArray, List.set_cons_zero, List.set_cons_succ]
          refine wpAnyG_pure (i := 3) (oi := { dst := some 164, op := Op.binOp BinOp.eql 3 (Operand.tmp 161) (Operand.tmp 163) 3, type := 4, pos := _, after := #[{ on := 0, ground := Ground.data }, { on := 2, ground := Ground.data }], guard := none }) (v := ?_) rfl (by kernel_rfl) (by kernel_rfl) (by kernel_rfl) (by kernel_rfl) (fun _ _ _ h => h) (Or.inl ⟨by rfl, ?_⟩) (fun _ => by assumption) ?_
          rotate_left
          · intro w hSw
            try dsimp only at hSw
            go_simp
            try with_reducible rfl
          try simp only [Act.put, List.setIfInBounds_toArray, List.set_cons_zero, List.set_cons_succ]
          refine wpAnyG_pure (i := 4) (oi := { dst := some 165, op := Op.move (Operand.tmp 164), type := 4, pos := _, after := #[{ on := 3, ground := Ground.data }], guard := none }) (v := ?_) rfl (by kernel_rfl) (by kernel_rfl) (by kernel_rfl) (by kernel_rfl) (fun _ _ _ h => h) (Or.inl ⟨by rfl, ?_⟩) (fun _ => by assumption) ?_
          rotate_left
          · intro w hSw
            try dsimp only at hSw
            go_simp
            try with_reducible rfl
          try simp only [Act.put, List.setIfInBounds_toArray, List.set_cons_zero, List.set_cons_succ]
          refine wpAnyG_take (i := 5) (oi := { dst := some 166, op := Op.load 27 (Operand.tmp 20), type := 27, pos := _, after := #[{ on := 4, ground := Ground.guard }], guard := some (4, true) }) (v := ?_) rfl (by kernel_rfl) (by kernel_rfl) (by kernel_rfl) (by kernel_rfl) (fun _ _ _ h => h) (Or.inl ⟨by rfl, ?_⟩) (by assumption) ?_
          rotate_left
          · intro w hSw
            try dsimp only at hSw
            obtain ⟨⟨k0, k1, k2⟩, ⟨l0, l1, l2⟩, ⟨n0, n1, n2⟩⟩ := hSw
            go_simp
            try with_reducible rfl
          try simp only [Act.put, List.setIfInBounds_toArray, List.set_cons_zero, List.set_cons_succ]
          refine wpAnyG_pure (i := 6) (oi := { dst := some 167, op := Op.fieldAddr 27 (Operand.tmp 3) 0, type := 0, pos := _, after := #[{ on := 4, ground := Ground.guard }], guard := some (4, true) }) (v := ?_) rfl (by kernel_rfl) (by kernel_rfl) (by kernel_rfl) (by kernel_rfl) (fun _ _ _ h => h) (Or.inl ⟨by rfl, ?_⟩) (fun _ => by assumption) ?_
          rotate_left
          · intro w hSw
            try dsimp only at hSw
            go_simp
            try with_reducible rfl
          try simp only [Act.put, List.setIfInBounds_toArray, List.set_cons_zero, List.set_cons_succ]
          refine wpAnyG_take (i := 7) (oi := { dst := some 168, op := Op.load 3 (Operand.tmp 167), type := 3, pos := _, after := #[{ on := 6, ground := Ground.data }, { on := 4, ground := Ground.guard }], guard := some (4, true) }) (v := ?_) rfl (by kernel_rfl) (by kernel_rfl) (by kernel_rfl) (by kernel_rfl) (fun _ _ _ h => h) (Or.inl ⟨by rfl, ?_⟩) (by assumption) ?_
          rotate_left
          · intro w hSw
            try dsimp only at hSw
            obtain ⟨⟨k0, k1, k2⟩, ⟨l0, l1, l2⟩, ⟨n0, n1, n2⟩⟩ := hSw
            go_simp
            try with_reducible rfl
          try simp only [Act.put, List.setIfInBounds_toArray, List.set_cons_zero, List.set_cons_succ]
          refine wpAnyG_one (i := 8) (o := { dst := some 169, op := Op.call { callee := Callee.value (Operand.func 27), args := #[Operand.tmp 168], argTypes := #[3] }, type := 27, pos := _, after := #[{ on := 7, ground := Ground.data }, { on := 4, ground := Ground.chain }, { on := 4, ground := Ground.guard }], guard := some (4, true) }) (by kernel_rfl) rfl (fun K hK => ?_)
          go_simp
          refine (oneR HD19.out (r := r) rfl (by have := HD.out; omega) (r * r) rfl rfl).mono ?_
          rintro e w20 ⟨A20, c20, rfl, h⟩
          have H20 := Lib.hid h
          clear h
          try dsimp only
          refine hK.out _ _ ?_ (fun hHeld => ?_)
          · intro _
            try dsimp only
            have h := H20.out
            exact ⟨h.cells (.tail _ (.tail _ (.tail _ (.tail _ (.tail _ (.tail _ (.tail _ (.tail _ (.head _))))))))), h.cells (.tail _ (.head _)), h.cells (.head _)⟩
          clear hK K
          try simp only [Act.put, List.setIfInBounds_toArray, List.set_cons_zero, List.set_cons_succ]
          have hHeld := hHeld (by kernel_rfl)
          refine wpAnyG_one (i := 9) (o := { dst := some 170, op := Op.call { callee := Callee.value (Operand.func 24), args := #[Operand.tmp 166, Operand.tmp 169], argTypes := #[27, 27] }, type := 4, pos := _, after := #[{ on := 5, ground := Ground.data }, { on := 8, ground := Ground.data }, { on := 8, ground := Ground.chain }, { on := 4, ground := Ground.guard }], guard := some (4, true) }) (by kernel_rfl) rfl (fun K hK => ?_)
          go_simp
          refine (sameR H20.out (.tail _ (.tail _ (.head _))) (flat_len _ _ _) (.head _) (flat_len _ _ _) (v := true) (sameB_self _ _ _)).mono ?_
          rintro e w21 ⟨rfl, h⟩
          have H21 := Lib.hid h
          clear h
          try dsimp only
          refine hK.out _ _ ?_ (fun hHeld => ?_)
          · intro _
            try dsimp only
            have h := H21.out
            exact ⟨h.cells (.tail _ (.tail _ (.tail _ (.tail _ (.tail _ (.tail _ (.tail _ (.tail _ (.head _))))))))), h.cells (.tail _ (.head _)), h.cells (.head _)⟩
          clear hK K
          try simp only [Act.put, List.setIfInBounds_toArray, List.set_cons_zero, List.set_cons_succ]
          have hHeld := hHeld (by kernel_rfl)
          refine wpAnyG_pure (i := 10) (oi := { dst := some 171, op := Op.pick (Operand.tmp 165) (Operand.tmp 170) (Operand.const (Value.bool false)), type := 4, pos := _, after := #[{ on := 4, ground := Ground.data }, { on := 9, ground := Ground.data }], guard := none }) (v := ?_) rfl (by kernel_rfl) (by kernel_rfl) (by kernel_rfl) (by kernel_rfl) (fun _ _ _ h => h) (Or.inl ⟨by rfl, ?_⟩) (fun _ => by assumption) ?_
          rotate_left
          · intro w hSw
            try dsimp only at hSw
            go_simp
            try with_reducible rfl
          try simp only [Act.put, List.setIfInBounds_toArray, List.set_cons_zero, List.set_cons_succ]
          refine wpAnyG_pure (i := 11) (oi := { dst := some 172, op := Op.move (Operand.tmp 171), type := 4, pos := _, after := #[{ on := 10, ground := Ground.data }, { on := 9, ground := Ground.chain }], guard := none }) (v := ?_) rfl (by kernel_rfl) (by kernel_rfl) (by kernel_rfl) (by kernel_rfl) (fun _ _ _ h => h) (Or.inl ⟨by rfl, ?_⟩) (fun _ => by assumption) ?_
          rotate_left
          · intro w hSw
            try dsimp only at hSw
            go_simp
            try with_reducible rfl
          try simp only [Act.put, List.setIfInBounds_toArray, List.set_cons_zero, List.set_cons_succ]
          refine wpAnyG_take (i := 12) (oi := { dst := some 173, op := Op.load 27 (Operand.tmp 22), type := 27, pos := _, after := #[{ on := 11, ground := Ground.guard }], guard := some (11, true) }) (v := ?_) rfl (by kernel_rfl) (by kernel_rfl) (by kernel_rfl) (by kernel_rfl) (fun _ _ _ h => h) (Or.inl ⟨by rfl, ?_⟩) (by assumption) ?_
          rotate_left
          · intro w hSw
            try dsimp only at hSw
            obtain ⟨⟨k0, k1, k2⟩, ⟨l0, l1, l2⟩, ⟨n0, n1, n2⟩⟩ := hSw
            go_simp
            try with_reducible rfl
          try simp only [Act.put, List.setIfInBounds_toArray, List.set_cons_zero, List.set_cons_succ]
          refine wpAnyG_take (i := 13) (oi := { dst := some 174, op := Op.load 27 (Operand.tmp 20), type := 27, pos := _, after := #[{ on := 11, ground := Ground.guard }], guard := some (11, true) }) (v := ?_) rfl (by kernel_rfl) (by kernel_rfl) (by kernel_rfl) (by kernel_rfl) (fun _ _ _ h => h) (Or.inl ⟨by rfl, ?_⟩) (by assumption) ?_
          rotate_left
          · intro w hSw
            try dsimp only at hSw
            obtain ⟨⟨k0, k1, k2⟩, ⟨l0, l1, l2⟩, ⟨n0, n1, n2⟩⟩ := hSw
            go_simp
            try with_reducible rfl
          try simp only [Act.put, List.setIfInBounds_toArray, List.set_cons_zero, List.set_cons_succ]
          refine wpAnyG_one (i := 14) (o := { dst := some 175, op := Op.call { callee := Callee.value (Operand.func 24), args := #[Operand.tmp 173, Operand.tmp 174], argTypes := #[27, 27] }, type := 4, pos := _, after := #[{ on := 12, ground := Ground.data }, { on := 13, ground := Ground.data }, { on := 11, ground := Ground.chain }, { on := 11, ground := Ground.guard }], guard := some (11, true) }) (by kernel_rfl) rfl (fun K hK => ?_)
          go_simp
          refine (sameR H21.out (.tail _ (.head _)) (flat_len _ _ _) (.tail _ (.tail _ (.head _))) (flat_len _ _ _) (v := true) (sameB_self _ _ _)).mono ?_
          rintro e w22 ⟨rfl, h⟩
          have H22 := Lib.hid h
          clear h
          try dsimp only
          refine hK.out _ _ ?_ (fun hHeld => ?_)
          · intro _
            try dsimp only
            have h := H22.out
            exact ⟨h.cells (.tail _ (.tail _ (.tail _ (.tail _ (.tail _ (.tail _ (.tail _ (.tail _ (.head _))))))))), h.cells (.tail _ (.head _)), h.cells (.head _)⟩
          clear hK K
          try simp only [Act.put, List.setIfInBounds_toArray, List.set_cons_zero, List.set_cons_succ]
          have hHeld := hHeld (by kernel_rfl)
          refine wpAnyG_pure (i := 15) (oi := { dst := some 176, op := Op.pick (Operand.tmp 172) (Operand.tmp 175) (Operand.const (Value.bool false)), type := 4, pos := _, after := #[{ on := 11, ground := Ground.data }, { on := 14, ground := Ground.data }], guard := none }) (v := ?_) rfl (by kernel_rfl) (by kernel_rfl) (by kernel_rfl) (by kernel_rfl) (fun _ _ _ h => h) (Or.inl ⟨by rfl, ?_⟩) (fun _ => by assumption) ?_
          rotate_left
          · intro w hSw
            try dsimp only at hSw
            go_simp
            try with_reducible rfl
          try simp only [Act.put, List.setIfInBounds_toArray, List.set_cons_zero, List.set_cons_succ]
          refine wpAnyG_pure (i := 16) (oi := { dst := some 177, op := Op.move (Operand.tmp 176), type := 4, pos := _, after := #[{ on := 15, ground := Ground.data }, { on := 14, ground := Ground.chain }], guard := none }) (v := ?_) rfl (by kernel_rfl) (by kernel_rfl) (by kernel_rfl) (by kernel_rfl) (fun _ _ _ h => h) (Or.inl ⟨by rfl, ?_⟩) (fun _ => by assumption) ?_
          rotate_left
          · intro w hSw
            try dsimp only at hSw
            go_simp
            try with_reducible rfl
          try simp only [Act.put, List.setIfInBounds_toArray, List.set_cons_zero, List.set_cons_succ]
          refine wpAnyG_one (i := 17) (o := { dst := some 178, op := Op.call { callee := Callee.value (Operand.func 11), args := #[], argTypes := #[] }, type := 4, pos := _, after := #[{ on := 16, ground := Ground.chain }, { on := 16, ground := Ground.guard }], guard := some (16, true) }) (by kernel_rfl) rfl (fun K hK => ?_)
          go_simp
          refine (works_any _).mono ?_
          rintro e w23 ⟨rfl, hb⟩
          have H23 := Lib.hid (MS.keep H22.out hb)
          clear hb
          try dsimp only
          refine hK.out _ _ ?_ (fun hHeld => ?_)
          · intro _
            try dsimp only
            have h := H23.out
            exact ⟨h.cells (.tail _ (.tail _ (.tail _ (.tail _ (.tail _ (.tail _ (.tail _ (.tail _ (.head _))))))))), h.cells (.tail _ (.head _)), h.cells (.head _)⟩
          clear hK K
          try simp only [Act.put, List.setIfInBounds_toArray, List.set_cons_zero, List.set_cons_succ]
          have hHeld := hHeld (by kernel_rfl)
          refine wpAnyG_pure (i := 18) (oi := { dst := some 179, op := Op.pick (Operand.tmp 177) (Operand.tmp 178) (Operand.const (Value.bool false)), type := 4, pos := _, after := #[{ on := 16, ground := Ground.data }, { on := 17, ground := Ground.data }], guard := none }) (v := ?_) rfl (by kernel_rfl) (by kernel_rfl) (by kernel_rfl) (by kernel_rfl) (fun _ _ _ h => h) (Or.inl ⟨by rfl, ?_⟩) (fun _ => by assumption) ?_
          rotate_left
          · intro w hSw
            try dsimp only at hSw
            go_simp
            try with_reducible rfl
          try simp only [Act.put, List.setIfInBounds_toArray, List.set_cons_zero, List.set_cons_succ]
          refine wpAnyG_pure (i := 19) (oi := { dst := some 6, op := Op.assign (Operand.tmp 179), type := 4, pos := _, after := #[{ on := 18, ground := Ground.data }, { on := 17, ground := Ground.chain }, { on := 0, ground := Ground.phase }, { on := 1, ground := Ground.phase }, { on := 2, ground := Ground.phase }, { on := 3, ground := Ground.phase }, { on := 4, ground := Ground.phase }, { on := 5, ground := Ground.phase }, { on := 6, ground := Ground.phase }, { on := 7, ground := Ground.phase }, { on := 8, ground := Ground.phase }, { on := 9, ground := Ground.phase }, { on := 10, ground := Ground.phase }, { on := 11, ground := Ground.phase }, { on := 12, ground := Ground.phase }, { on := 13, ground := Ground.phase }, { on := 14, ground := Ground.phase }, { on := 15, ground := Ground.phase }, { on := 16, ground := Ground.phase }, { on := 17, ground := Ground.phase }, { on := 18, ground := Ground.phase }], guard := none }) (v := ?_) rfl (by kernel_rfl) (by kernel_rfl) (by kernel_rfl) (by kernel_rfl) (fun _ _ _ h => h) (Or.inl ⟨by rfl, ?_⟩) (fun _ => by assumption) ?_
          rotate_left
          · intro w hSw
            try dsimp only at hSw
            go_simp
            try with_reducible rfl
          try simp only [Act.put, List.setIfInBounds_toArray, List.set_cons_zero, List.set_cons_succ]
          refine wpAnyG_done (by kernel_rfl) ?_ _
          refine NoPanic.normal ?_
          go_wp2_with fail
          go_ret
          exact ⟨rfl, H23.out.below⟩
      · have HV := Lib.hid (show (rightB (r : Int) (c : Int) (r * c) && (r : Int) == (c : Int)) = false from by rw [Bool.and_eq_false_iff]; right; simp; omega)
        have hrc1 : ((r : Int) != (c : Int)) = true := by simp; omega
        clear hrc
        refine (inv0R H13.out _ HV.out).mono ?_
        rintro e w14 ⟨rfl, h⟩
        have H14 := Lib.hid h
        clear h
        obtain ⟨a22, b22, d22⟩ := H14.out.cells (.tail _ (.tail _ (.tail _ (.tail _ (.tail _ (.head _))))))
        have L23 := Lib.hid (show MS _ _ _ ((w14.heap.size, #[.int .i64 0, .int .i64 0, .slice none 0 0]) :: _) (w14.alloc (.cells #[.int .i64 0, .int .i64 0, .slice none 0 0] 27)) from by have h := H14.out.put #[.int .i64 0, .int .i64 0, .slice none 0 0]; (try simp only [World.size_alloc] at h); exact h)
        obtain ⟨a24, b24, d24⟩ := L23.out.cells (.tail _ (.tail _ (.tail _ (.tail _ (.tail _ (.tail _ (.head _)))))))
        go_wp2_with fail
        clear a22 b22 d22 a24 b24 d24
        have H15 := L23
        clear L23
        generalize (w14.alloc (.cells #[.int .i64 0, .int .i64 0, .slice none 0 0] 27)) = w15 at *
        refine (works_any _).mono ?_
        rintro e w16 ⟨rfl, hb⟩
        have H16 := Lib.hid (MS.keep H15.out hb)
        clear hb
        go_wp2_with fail
        go_ret
        exact ⟨rfl, H16.out.below⟩
    | true =>
      have HT := Lib.hid hs
      clear hs
      refine (solveR H11.out (r := r) (c := c) (d := d2) (.tail _ (.tail _ (.tail _ (.head _)))) (.tail _ (.head _)) rfl HB.out.2.2.1 ⟨rfl, rfl, HB.out.1, HB.out.2.1⟩ (by have := HD.out; have := HB.out.2.2.2; omega) rfl HMB.out HT.out c Cb (c * d2) ⟨rfl, HB.out.2.1, rfl⟩ rfl).mono ?_
      rintro e w12 ⟨A12, c12, rfl, h⟩
      have H12 := Lib.hid h
      clear h
      obtain ⟨a18, b18, d18⟩ := H12.out.cells (.tail _ (.tail _ (.tail _ (.tail _ (.head _)))))
      obtain ⟨a19, b19, d19⟩ := H12.out.cells (.tail _ (.tail _ (.head _)))
      have L20 := Lib.hid (show MS _ _ _ ((w12.heap.size, #[.int .i64 (c : Int), .int .i64 Cb, .slice A12 (c * d2) c12]) :: _) (w12.alloc (.cells #[.int .i64 (c : Int), .int .i64 Cb, .slice A12 (c * d2) c12] 27)) from by have h := H12.out.put #[.int .i64 (c : Int), .int .i64 Cb, .slice A12 (c * d2) c12]; (try simp only [World.size_alloc] at h); exact h)
      obtain ⟨a21, b21, d21⟩ := L20.out.cells (.tail _ (.tail _ (.tail _ (.tail _ (.tail _ (.head _))))))
      obtain ⟨a22, b22, d22⟩ := L20.out.cells (.head _)
      go_wp2_with fail
      clear a18 b18 d18 a19 b19 d19 a21 b21 d21 a22 b22 d22
      have H13 := L20
      clear L20
      generalize (w12.alloc (.cells #[.int .i64 (c : Int), .int .i64 Cb, .slice A12 (c * d2) c12] 27)) = w13 at *
      refine (mulR H13.out (r := r) (c := c) (d := d2) (.tail _ (.tail _ (.tail _ (.tail _ (.head _))))) (.head _) rfl rfl ⟨rfl, rfl, rfl, HB.out.2.1⟩ (by have := HD.out; have := HB.out.2.2.2; omega) rfl rfl Rb Cb nb ⟨HB.out.1, HB.out.2.1, HB.out.2.2.1⟩ (l := lb) ((solve_is HT.out).trans HMB.out.symm)).mono ?_
      rintro e w14 ⟨A14, c14, rfl, h⟩
      have H14 := Lib.hid h
      clear h
      have L23 := Lib.hid (show MS _ _ _ ((w14.heap.size, #[.int .i64 Rb, .int .i64 Cb, .slice A14 nb c14]) :: _) (w14.alloc (.cells #[.int .i64 Rb, .int .i64 Cb, .slice A14 nb c14] 27)) from by have h := H14.out.put #[.int .i64 Rb, .int .i64 Cb, .slice A14 nb c14]; (try simp only [World.size_alloc] at h); exact h)
      obtain ⟨a24, b24, d24⟩ := L23.out.cells (.head _)
      obtain ⟨a25, b25, d25⟩ := L23.out.cells (.tail _ (.tail _ (.tail _ (.tail _ (.head _)))))
      go_wp2_with fail
      clear a24 b24 d24 a25 b25 d25
      have H15 := L23
      clear L23
      generalize (w14.alloc (.cells #[.int .i64 Rb, .int .i64 Cb, .slice A14 nb c14] 27)) = w15 at *
      refine (sameR H15.out (.head _) HLNb.out (.tail _ (.tail _ (.tail _ (.head _)))) HLNb.out (v := true) (sameB_self _ _ _)).mono ?_
      rintro e w16 ⟨rfl, h⟩
      have H16 := Lib.hid h
      clear h
      obtain ⟨a26, b26, d26⟩ := H16.out.cells (.tail _ (.tail _ (.tail _ (.tail _ (.tail _ (.tail _ (.head _)))))))
      go_wp2_with fail
      clear a26 b26 d26
      by_cases hrc : r = c
      · have HRC := Lib.hid (show c = r from hrc.symm)
        have hrc1 : ((r : Int) != (c : Int)) = false := by simp; omega
        clear hrc
        cases hi : solves r r r ma idm with
        | false =>
          have HI := Lib.hid hi
          have hkr : (k : Int) < (r : Int) := by
            have h1 := HK.out; have h2 := HKM.out
            have h3 : k ≠ r := fun e => by
              rw [HRC.out] at h1
              rw [solve_sq (h1.trans e)] at hi; cases hi
            omega
          clear hi
          refine (inv1R H16.out (r := r) (.tail _ (.tail _ (.tail _ (.tail _ (.tail _ (.head _)))))) (by rw [HRC.out]) ⟨rfl, by rw [HRC.out]⟩ (by have := HD.out; omega) (by rw [HRC.out]) HI.out).mono ?_
          rintro e w17 ⟨rfl, h⟩
          have H17 := Lib.hid h
          clear h
          obtain ⟨a27, b27, d27⟩ := H17.out.cells (.tail _ (.tail _ (.tail _ (.tail _ (.tail _ (.tail _ (.head _)))))))
          have L28 := Lib.hid (show MS _ _ _ ((w17.heap.size, #[.int .i64 0, .int .i64 0, .slice none 0 0]) :: _) (w17.alloc (.cells #[.int .i64 0, .int .i64 0, .slice none 0 0] 27)) from by have h := H17.out.put #[.int .i64 0, .int .i64 0, .slice none 0 0]; (try simp only [World.size_alloc] at h); exact h)
          obtain ⟨a29, b29, d29⟩ := L28.out.cells (.tail _ (.tail _ (.tail _ (.tail _ (.tail _ (.tail _ (.tail _ (.head _))))))))
          go_wp2_with fail
          clear a27 b27 d27 a29 b29 d29
          have H18 := L28
          clear L28
          generalize (w17.alloc (.cells #[.int .i64 0, .int .i64 0, .slice none 0 0] 27)) = w18 at *
          refine (works_any _).mono ?_
          rintro e w19 ⟨rfl, hb⟩
          have H19 := Lib.hid (MS.keep H18.out hb)
          clear hb
          go_wp2_with fail
          go_ret
          exact ⟨rfl, H19.out.below⟩
        | true =>
          have HI := Lib.hid hi
          have hkr : ((k : Int) == (r : Int)) = true := by
            have h1 := HK.out; have h2 := solve_rank hi
            rw [HRC.out] at h1; simp; omega
          clear hi
          refine (invR H16.out (r := r) (.tail _ (.tail _ (.tail _ (.tail _ (.tail _ (.head _)))))) (by rw [HRC.out]) ⟨rfl, by rw [HRC.out]⟩ (by have := HD.out; omega) (by rw [HRC.out]) HI.out r (r * r) ⟨rfl, rfl⟩ rfl).mono ?_
          rintro e w17 ⟨A17, c17, rfl, h⟩
          have H17 := Lib.hid h
          clear h
          obtain ⟨a27, b27, d27⟩ := H17.out.cells (.tail _ (.tail _ (.tail _ (.tail _ (.tail _ (.tail _ (.head _)))))))
          have L28 := Lib.hid (show MS _ _ _ ((w17.heap.size, #[.int .i64 (r : Int), .int .i64 (r : Int), .slice A17 (r * r) c17]) :: _) (w17.alloc (.cells #[.int .i64 (r : Int), .int .i64 (r : Int), .slice A17 (r * r) c17] 27)) from by have h := H17.out.put #[.int .i64 (r : Int), .int .i64 (r : Int), .slice A17 (r * r) c17]; (try simp only [World.size_alloc] at h); exact h)
          obtain ⟨a29, b29, d29⟩ := L28.out.cells (.tail _ (.tail _ (.tail _ (.tail _ (.tail _ (.tail _ (.tail _ (.head _))))))))
          obtain ⟨a30, b30, d30⟩ := L28.out.cells (.head _)
          go_wp2_with fail
          clear a27 b27 d27 a29 b29 d29 a30 b30 d30
          have H18 := L28
          clear L28
          generalize (w17.alloc (.cells #[.int .i64 (r : Int), .int .i64 (r : Int), .slice A17 (r * r) c17] 27)) = w18 at *
          refine (mulR H18.out (r := r) (c := r) (d := r) (.tail _ (.tail _ (.tail _ (.tail _ (.tail _ (.tail _ (.head _))))))) (.head _) (by rw [HRC.out]) rfl ⟨rfl, by rw [HRC.out], rfl, rfl⟩ (by have := HD.out; omega) (by rw [HRC.out]) rfl r r (r * r) ⟨rfl, rfl, rfl⟩ (l := flat r r idm) (inv_right HI.out)).mono ?_
          rintro e w19 ⟨A19, c19, rfl, h⟩
          have H19 := Lib.hid h
          clear h
          have L31 := Lib.hid (show MS _ _ _ ((w19.heap.size, #[.int .i64 (r : Int), .int .i64 (r : Int), .slice A19 (r * r) c19]) :: _) (w19.alloc (.cells #[.int .i64 (r : Int), .int .i64 (r : Int), .slice A19 (r * r) c19] 27)) from by have h := H19.out.put #[.int .i64 (r : Int), .int .i64 (r : Int), .slice A19 (r * r) c19]; (try simp only [World.size_alloc] at h); exact h)
          obtain ⟨a32, b32, d32⟩ := L31.out.cells (.tail _ (.tail _ (.tail _ (.tail _ (.tail _ (.tail _ (.tail _ (.tail _ (.head _)))))))))
          obtain ⟨a33, b33, d33⟩ := L31.out.cells (.tail _ (.head _))
          go_wp2_with fail
          clear a32 b32 d32 a33 b33 d33
          have H20 := L31
          clear L31
          generalize (w19.alloc (.cells #[.int .i64 (r : Int), .int .i64 (r : Int), .slice A19 (r * r) c19] 27)) = w20 at *
          refine (mulR H20.out (r := r) (c := r) (d := r) (.tail _ (.head _)) (.tail _ (.tail _ (.tail _ (.tail _ (.tail _ (.tail _ (.tail _ (.head _)))))))) rfl (by rw [HRC.out]) ⟨rfl, rfl, rfl, by rw [HRC.out]⟩ (by have := HD.out; omega) rfl (by rw [HRC.out]) r r (r * r) ⟨rfl, rfl, rfl⟩ (l := flat r r idm) (inv_left HI.out)).mono ?_
          rintro e w21 ⟨A21, c21, rfl, h⟩
          have H21 := Lib.hid h
          clear h
          have L34 := Lib.hid (show MS _ _ _ ((w21.heap.size, #[.int .i64 (r : Int), .int .i64 (r : Int), .slice A21 (r * r) c21]) :: _) (w21.alloc (.cells #[.int .i64 (r : Int), .int .i64 (r : Int), .slice A21 (r * r) c21] 27)) from by have h := H21.out.put #[.int .i64 (r : Int), .int .i64 (r : Int), .slice A21 (r * r) c21]; (try simp only [World.size_alloc] at h); exact h)
          go_wp2_with fail
          have H22 := L34
          clear L34
          generalize (w21.alloc (.cells #[.int .i64 (r : Int), .int .i64 (r : Int), .slice A21 (r * r) c21] 27)) = w22 at *
          refine wp_region_noPanic ?_
          refine wp_heldG (fun w' => (w'.cell? ⟨w.heap.size, 0, none⟩ = some (.int .i64 (r : Int)) ∧ w'.cell? ⟨w.heap.size, 1, none⟩ = some (.int .i64 (c : Int)) ∧ w'.cell? ⟨w.heap.size, 2, none⟩ = some (.slice A (r * c) ca)) ∧ (w'.cell? ⟨w19.heap.size, 0, none⟩ = some (.int .i64 (r : Int)) ∧ w'.cell? ⟨w19.heap.size, 1, none⟩ = some (.int .i64 (r : Int)) ∧ w'.cell? ⟨w19.heap.size, 2, none⟩ = some (.slice A19 (r * r) c19)) ∧ (w'.cell? ⟨w21.heap.size, 0, none⟩ = some (.int .i64 (r : Int)) ∧ w'.cell? ⟨w21.heap.size, 1, none⟩ = some (.int .i64 (r : Int)) ∧ w'.cell? ⟨w21.heap.size, 2, none⟩ = some (.slice A21 (r * r) c21))) [] (by kernel_rfl) ?hs0 ?rg0
          case hs0 =>
            have h := H22.out.keep (nextN (Mem.start w22) 1)
            exact ⟨h.cells (.tail _ (.tail _ (.tail _ (.tail _ (.tail _ (.tail _ (.tail _ (.tail _ (.tail _ (.head _)))))))))), h.cells (.tail _ (.head _)), h.cells (.head _)⟩
          case rg0 =>
          intro hHeld
          have HD22 := Lib.hid (show MS _ _ _ _ w22.drew from H22.out.keep (nextN (Mem.start w22) 1))
          generalize w22.drew = wd22 at *
          refine wpAnyG_pure (i := 0) (oi := { dst := some 161, op := Op.move (Operand.tmp 8), type := 3, pos := _, after := #[], guard := none }) (v := ?_) rfl (by kernel_rfl) (by kernel_rfl) (by kernel_rfl) (by kernel_rfl) (fun _ _ _ h => h) (Or.inl ⟨by rfl, ?_⟩) (fun _ => by assumption) ?_
          rotate_left
          · intro w hSw
            try dsimp only at hSw
            go_simp
            try with_reducible rfl
          try simp only [Act.put, List.setIfInBounds_toArray, List.set_cons_zero, List.set_cons_succ]
          refine wpAnyG_pure (i := 1) (oi := { dst := some 162, op := Op.fieldAddr 27 (Operand.tmp 3) 0, type := 0, pos := _, after := #[], guard := none }) (v := ?_) rfl (by kernel_rfl) (by kernel_rfl) (by kernel_rfl) (by kernel_rfl) (fun _ _ _ h => h) (Or.inl ⟨by rfl, ?_⟩) (fun _ => by assumption) ?_
          rotate_left
          · intro w hSw
            try dsimp only at hSw
            go_simp
            try with_reducible rfl
          try simp only [Act.put, List.setIfInBounds_toArray, List.set_cons_zero, List.set_cons_succ]
          refine wpAnyG_take (i := 2) (oi := { dst := some 163, op := Op.load 3 (Operand.tmp 162), type := 3, pos := _, after := #[{ on := 1, ground := Ground.data }], guard := none }) (v := ?_) rfl (by kernel_rfl) (by kernel_rfl) (by kernel_rfl) (by kernel_rfl) (fun _ _ _ h => h) (Or.inl ⟨by rfl, ?_⟩) (by assumption) ?_
          rotate_left
          · intro w hSw
            try dsimp only at hSw
            obtain ⟨⟨k0, k1, k2⟩, ⟨l0, l1, l2⟩, ⟨n0, n1, n2⟩⟩ := hSw
            go_simp
            try with_reducible rfl
          try simp only [Act.put, List.setIfInBounds_toArray, List.set_cons_zero, List.set_cons_succ]
          refine wpAnyG_pure (i := 3) (oi := { dst := some 164, op := Op.binOp BinOp.eql 3 (Operand.tmp 161) (Operand.tmp 163) 3, type := 4, pos := _, after := #[{ on := 0, ground := Ground.data }, { on := 2, ground := Ground.data }], guard := none }) (v := ?_) rfl (by kernel_rfl) (by kernel_rfl) (by kernel_rfl) (by kernel_rfl) (fun _ _ _ h => h) (Or.inl ⟨by rfl, ?_⟩) (fun _ => by assumption) ?_
          rotate_left
          · intro w hSw
            try dsimp only at hSw
            go_simp
            try with_reducible rfl
          try simp only [Act.put, List.setIfInBounds_toArray, List.set_cons_zero, List.set_cons_succ]
          refine wpAnyG_pure (i := 4) (oi := { dst := some 165, op := Op.move (Operand.tmp 164), type := 4, pos := _, after := #[{ on := 3, ground := Ground.data }], guard := none }) (v := ?_) rfl (by kernel_rfl) (by kernel_rfl) (by kernel_rfl) (by kernel_rfl) (fun _ _ _ h => h) (Or.inl ⟨by rfl, ?_⟩) (fun _ => by assumption) ?_
          rotate_left
          · intro w hSw
            try dsimp only at hSw
            go_simp
            try with_reducible rfl
          try simp only [Act.put, List.setIfInBounds_toArray, List.set_cons_zero, List.set_cons_succ]
          refine wpAnyG_take (i := 5) (oi := { dst := some 166, op := Op.load 27 (Operand.tmp 20), type := 27, pos := _, after := #[{ on := 4, ground := Ground.guard }], guard := some (4, true) }) (v := ?_) rfl (by kernel_rfl) (by kernel_rfl) (by kernel_rfl) (by kernel_rfl) (fun _ _ _ h => h) (Or.inl ⟨by rfl, ?_⟩) (by assumption) ?_
          rotate_left
          · intro w hSw
            try dsimp only at hSw
            obtain ⟨⟨k0, k1, k2⟩, ⟨l0, l1, l2⟩, ⟨n0, n1, n2⟩⟩ := hSw
            go_simp
            try with_reducible rfl
          try simp only [Act.put, List.setIfInBounds_toArray, List.set_cons_zero, List.set_cons_succ]
          refine wpAnyG_pure (i := 6) (oi := { dst := some 167, op := Op.fieldAddr 27 (Operand.tmp 3) 0, type := 0, pos := _, after := #[{ on := 4, ground := Ground.guard }], guard := some (4, true) }) (v := ?_) rfl (by kernel_rfl) (by kernel_rfl) (by kernel_rfl) (by kernel_rfl) (fun _ _ _ h => h) (Or.inl ⟨by rfl, ?_⟩) (fun _ => by assumption) ?_
          rotate_left
          · intro w hSw
            try dsimp only at hSw
            go_simp
            try with_reducible rfl
          try simp only [Act.put, List.setIfInBounds_toArray, List.set_cons_zero, List.set_cons_succ]
          refine wpAnyG_take (i := 7) (oi := { dst := some 168, op := Op.load 3 (Operand.tmp 167), type := 3, pos := _, after := #[{ on := 6, ground := Ground.data }, { on := 4, ground := Ground.guard }], guard := some (4, true) }) (v := ?_) rfl (by kernel_rfl) (by kernel_rfl) (by kernel_rfl) (by kernel_rfl) (fun _ _ _ h => h) (Or.inl ⟨by rfl, ?_⟩) (by assumption) ?_
          rotate_left
          · intro w hSw
            try dsimp only at hSw
            obtain ⟨⟨k0, k1, k2⟩, ⟨l0, l1, l2⟩, ⟨n0, n1, n2⟩⟩ := hSw
            go_simp
            try with_reducible rfl
          try simp only [Act.put, List.setIfInBounds_toArray, List.set_cons_zero, List.set_cons_succ]
          refine wpAnyG_one (i := 8) (o := { dst := some 169, op := Op.call { callee := Callee.value (Operand.func 27), args := #[Operand.tmp 168], argTypes := #[3] }, type := 27, pos := _, after := #[{ on := 7, ground := Ground.data }, { on := 4, ground := Ground.chain }, { on := 4, ground := Ground.guard }], guard := some (4, true) }) (by kernel_rfl) rfl (fun K hK => ?_)
          go_simp
          refine (oneR HD22.out (r := r) rfl (by have := HD.out; omega) (r * r) rfl rfl).mono ?_
          rintro e w23 ⟨A23, c23, rfl, h⟩
          have H23 := Lib.hid h
          clear h
          try dsimp only
          refine hK.out _ _ ?_ (fun hHeld => ?_)
          · intro _
            try dsimp only
            have h := H23.out
            exact ⟨h.cells (.tail _ (.tail _ (.tail _ (.tail _ (.tail _ (.tail _ (.tail _ (.tail _ (.tail _ (.head _)))))))))), h.cells (.tail _ (.head _)), h.cells (.head _)⟩
          clear hK K
          try simp only [Act.put, List.setIfInBounds_toArray, List.set_cons_zero, List.set_cons_succ]
          have hHeld := hHeld (by kernel_rfl)
          refine wpAnyG_one (i := 9) (o := { dst := some 170, op := Op.call { callee := Callee.value (Operand.func 24), args := #[Operand.tmp 166, Operand.tmp 169], argTypes := #[27, 27] }, type := 4, pos := _, after := #[{ on := 5, ground := Ground.data }, { on := 8, ground := Ground.data }, { on := 8, ground := Ground.chain }, { on := 4, ground := Ground.guard }], guard := some (4, true) }) (by kernel_rfl) rfl (fun K hK => ?_)
          go_simp
          refine (sameR H23.out (.tail _ (.tail _ (.head _))) (flat_len _ _ _) (.head _) (flat_len _ _ _) (v := true) (sameB_self _ _ _)).mono ?_
          rintro e w24 ⟨rfl, h⟩
          have H24 := Lib.hid h
          clear h
          try dsimp only
          refine hK.out _ _ ?_ (fun hHeld => ?_)
          · intro _
            try dsimp only
            have h := H24.out
            exact ⟨h.cells (.tail _ (.tail _ (.tail _ (.tail _ (.tail _ (.tail _ (.tail _ (.tail _ (.tail _ (.head _)))))))))), h.cells (.tail _ (.head _)), h.cells (.head _)⟩
          clear hK K
          try simp only [Act.put, List.setIfInBounds_toArray, List.set_cons_zero, List.set_cons_succ]
          have hHeld := hHeld (by kernel_rfl)
          refine wpAnyG_pure (i := 10) (oi := { dst := some 171, op := Op.pick (Operand.tmp 165) (Operand.tmp 170) (Operand.const (Value.bool false)), type := 4, pos := _, after := #[{ on := 4, ground := Ground.data }, { on := 9, ground := Ground.data }], guard := none }) (v := ?_) rfl (by kernel_rfl) (by kernel_rfl) (by kernel_rfl) (by kernel_rfl) (fun _ _ _ h => h) (Or.inl ⟨by rfl, ?_⟩) (fun _ => by assumption) ?_
          rotate_left
          · intro w hSw
            try dsimp only at hSw
            go_simp
            try with_reducible rfl
          try simp only [Act.put, List.setIfInBounds_toArray, List.set_cons_zero, List.set_cons_succ]
          refine wpAnyG_pure (i := 11) (oi := { dst := some 172, op := Op.move (Operand.tmp 171), type := 4, pos := _, after := #[{ on := 10, ground := Ground.data }, { on := 9, ground := Ground.chain }], guard := none }) (v := ?_) rfl (by kernel_rfl) (by kernel_rfl) (by kernel_rfl) (by kernel_rfl) (fun _ _ _ h => h) (Or.inl ⟨by rfl, ?_⟩) (fun _ => by assumption) ?_
          rotate_left
          · intro w hSw
            try dsimp only at hSw
            go_simp
            try with_reducible rfl
          try simp only [Act.put, List.setIfInBounds_toArray, List.set_cons_zero, List.set_cons_succ]
          refine wpAnyG_take (i := 12) (oi := { dst := some 173, op := Op.load 27 (Operand.tmp 22), type := 27, pos := _, after := #[{ on := 11, ground := Ground.guard }], guard := some (11, true) }) (v := ?_) rfl (by kernel_rfl) (by kernel_rfl) (by kernel_rfl) (by kernel_rfl) (fun _ _ _ h => h) (Or.inl ⟨by rfl, ?_⟩) (by assumption) ?_
          rotate_left
          · intro w hSw
            try dsimp only at hSw
            obtain ⟨⟨k0, k1, k2⟩, ⟨l0, l1, l2⟩, ⟨n0, n1, n2⟩⟩ := hSw
            go_simp
            try with_reducible rfl
          try simp only [Act.put, List.setIfInBounds_toArray, List.set_cons_zero, List.set_cons_succ]
          refine wpAnyG_take (i := 13) (oi := { dst := some 174, op := Op.load 27 (Operand.tmp 20), type := 27, pos := _, after := #[{ on := 11, ground := Ground.guard }], guard := some (11, true) }) (v := ?_) rfl (by kernel_rfl) (by kernel_rfl) (by kernel_rfl) (by kernel_rfl) (fun _ _ _ h => h) (Or.inl ⟨by rfl, ?_⟩) (by assumption) ?_
          rotate_left
          · intro w hSw
            try dsimp only at hSw
            obtain ⟨⟨k0, k1, k2⟩, ⟨l0, l1, l2⟩, ⟨n0, n1, n2⟩⟩ := hSw
            go_simp
            try with_reducible rfl
          try simp only [Act.put, List.setIfInBounds_toArray, List.set_cons_zero, List.set_cons_succ]
          refine wpAnyG_one (i := 14) (o := { dst := some 175, op := Op.call { callee := Callee.value (Operand.func 24), args := #[Operand.tmp 173, Operand.tmp 174], argTypes := #[27, 27] }, type := 4, pos := _, after := #[{ on := 12, ground := Ground.data }, { on := 13, ground := Ground.data }, { on := 11, ground := Ground.chain }, { on := 11, ground := Ground.guard }], guard := some (11, true) }) (by kernel_rfl) rfl (fun K hK => ?_)
          go_simp
          refine (sameR H24.out (.tail _ (.head _)) (flat_len _ _ _) (.tail _ (.tail _ (.head _))) (flat_len _ _ _) (v := true) (sameB_self _ _ _)).mono ?_
          rintro e w25 ⟨rfl, h⟩
          have H25 := Lib.hid h
          clear h
          try dsimp only
          refine hK.out _ _ ?_ (fun hHeld => ?_)
          · intro _
            try dsimp only
            have h := H25.out
            exact ⟨h.cells (.tail _ (.tail _ (.tail _ (.tail _ (.tail _ (.tail _ (.tail _ (.tail _ (.tail _ (.head _)))))))))), h.cells (.tail _ (.head _)), h.cells (.head _)⟩
          clear hK K
          try simp only [Act.put, List.setIfInBounds_toArray, List.set_cons_zero, List.set_cons_succ]
          have hHeld := hHeld (by kernel_rfl)
          refine wpAnyG_pure (i := 15) (oi := { dst := some 176, op := Op.pick (Operand.tmp 172) (Operand.tmp 175) (Operand.const (Value.bool false)), type := 4, pos := _, after := #[{ on := 11, ground := Ground.data }, { on := 14, ground := Ground.data }], guard := none }) (v := ?_) rfl (by kernel_rfl) (by kernel_rfl) (by kernel_rfl) (by kernel_rfl) (fun _ _ _ h => h) (Or.inl ⟨by rfl, ?_⟩) (fun _ => by assumption) ?_
          rotate_left
          · intro w hSw
            try dsimp only at hSw
            go_simp
            try with_reducible rfl
          try simp only [Act.put, List.setIfInBounds_toArray, List.set_cons_zero, List.set_cons_succ]
          refine wpAnyG_pure (i := 16) (oi := { dst := some 177, op := Op.move (Operand.tmp 176), type := 4, pos := _, after := #[{ on := 15, ground := Ground.data }, { on := 14, ground := Ground.chain }], guard := none }) (v := ?_) rfl (by kernel_rfl) (by kernel_rfl) (by kernel_rfl) (by kernel_rfl) (fun _ _ _ h => h) (Or.inl ⟨by rfl, ?_⟩) (fun _ => by assumption) ?_
          rotate_left
          · intro w hSw
            try dsimp only at hSw
            go_simp
            try with_reducible rfl
          try simp only [Act.put, List.setIfInBounds_toArray, List.set_cons_zero, List.set_cons_succ]
          refine wpAnyG_one (i := 17) (o := { dst := some 178, op := Op.call { callee := Callee.value (Operand.func 11), args := #[], argTypes := #[] }, type := 4, pos := _, after := #[{ on := 16, ground := Ground.chain }, { on := 16, ground := Ground.guard }], guard := some (16, true) }) (by kernel_rfl) rfl (fun K hK => ?_)
          go_simp
          refine (works_any _).mono ?_
          rintro e w26 ⟨rfl, hb⟩
          have H26 := Lib.hid (MS.keep H25.out hb)
          clear hb
          try dsimp only
          refine hK.out _ _ ?_ (fun hHeld => ?_)
          · intro _
            try dsimp only
            have h := H26.out
            exact ⟨h.cells (.tail _ (.tail _ (.tail _ (.tail _ (.tail _ (.tail _ (.tail _ (.tail _ (.tail _ (.head _)))))))))), h.cells (.tail _ (.head _)), h.cells (.head _)⟩
          clear hK K
          try simp only [Act.put, List.setIfInBounds_toArray, List.set_cons_zero, List.set_cons_succ]
          have hHeld := hHeld (by kernel_rfl)
          refine wpAnyG_pure (i := 18) (oi := { dst := some 179, op := Op.pick (Operand.tmp 177) (Operand.tmp 178) (Operand.const (Value.bool false)), type := 4, pos := _, after := #[{ on := 16, ground := Ground.data }, { on := 17, ground := Ground.data }], guard := none }) (v := ?_) rfl (by kernel_rfl) (by kernel_rfl) (by kernel_rfl) (by kernel_rfl) (fun _ _ _ h => h) (Or.inl ⟨by rfl, ?_⟩) (fun _ => by assumption) ?_
          rotate_left
          · intro w hSw
            try dsimp only at hSw
            go_simp
            try with_reducible rfl
          try simp only [Act.put, List.setIfInBounds_toArray, List.set_cons_zero, List.set_cons_succ]
          refine wpAnyG_pure (i := 19) (oi := { dst := some 6, op := Op.assign (Operand.tmp 179), type := 4, pos := _, after := #[{ on := 18, ground := Ground.data }, { on := 17, ground := Ground.chain }, { on := 0, ground := Ground.phase }, { on := 1, ground := Ground.phase }, { on := 2, ground := Ground.phase }, { on := 3, ground := Ground.phase }, { on := 4, ground := Ground.phase }, { on := 5, ground := Ground.phase }, { on := 6, ground := Ground.phase }, { on := 7, ground := Ground.phase }, { on := 8, ground := Ground.phase }, { on := 9, ground := Ground.phase }, { on := 10, ground := Ground.phase }, { on := 11, ground := Ground.phase }, { on := 12, ground := Ground.phase }, { on := 13, ground := Ground.phase }, { on := 14, ground := Ground.phase }, { on := 15, ground := Ground.phase }, { on := 16, ground := Ground.phase }, { on := 17, ground := Ground.phase }, { on := 18, ground := Ground.phase }], guard := none }) (v := ?_) rfl (by kernel_rfl) (by kernel_rfl) (by kernel_rfl) (by kernel_rfl) (fun _ _ _ h => h) (Or.inl ⟨by rfl, ?_⟩) (fun _ => by assumption) ?_
          rotate_left
          · intro w hSw
            try dsimp only at hSw
            go_simp
            try with_reducible rfl
          try simp only [Act.put, List.setIfInBounds_toArray, List.set_cons_zero, List.set_cons_succ]
          refine wpAnyG_done (by kernel_rfl) ?_ _
          refine NoPanic.normal ?_
          go_wp2_with fail
          go_ret
          exact ⟨rfl, H26.out.below⟩
      · have HV := Lib.hid (show (rightB (r : Int) (c : Int) (r * c) && (r : Int) == (c : Int)) = false from by rw [Bool.and_eq_false_iff]; right; simp; omega)
        have hrc1 : ((r : Int) != (c : Int)) = true := by simp; omega
        clear hrc
        refine (inv0R H16.out _ HV.out).mono ?_
        rintro e w17 ⟨rfl, h⟩
        have H17 := Lib.hid h
        clear h
        obtain ⟨a27, b27, d27⟩ := H17.out.cells (.tail _ (.tail _ (.tail _ (.tail _ (.tail _ (.tail _ (.head _)))))))
        have L28 := Lib.hid (show MS _ _ _ ((w17.heap.size, #[.int .i64 0, .int .i64 0, .slice none 0 0]) :: _) (w17.alloc (.cells #[.int .i64 0, .int .i64 0, .slice none 0 0] 27)) from by have h := H17.out.put #[.int .i64 0, .int .i64 0, .slice none 0 0]; (try simp only [World.size_alloc] at h); exact h)
        obtain ⟨a29, b29, d29⟩ := L28.out.cells (.tail _ (.tail _ (.tail _ (.tail _ (.tail _ (.tail _ (.tail _ (.head _))))))))
        go_wp2_with fail
        clear a27 b27 d27 a29 b29 d29
        have H18 := L28
        clear L28
        generalize (w17.alloc (.cells #[.int .i64 0, .int .i64 0, .slice none 0 0] 27)) = w18 at *
        refine (works_any _).mono ?_
        rintro e w19 ⟨rfl, hb⟩
        have H19 := Lib.hid (MS.keep H18.out hb)
        clear hb
        go_wp2_with fail
        go_ret
        exact ⟨rfl, H19.out.below⟩
end Go.Proofs.Ythdapoipfnnaeaa.MxW
/- The law MatrixSolves: its walk. -/
namespace Go.Proofs.Ythdapoipfnnaeaa.MxW
open Go.RowKit Go.Shelf Mem Gf FdW Mx Rng
open PlW (In)
set_option linter.unusedVariables false
set_option linter.unusedSectionVars false
attribute [local go_sem] Oper.semAt_some wide_fn
set_option maxRecDepth 100000 in
set_option maxHeartbeats 4000000 in
theorem solves_out0 (w : World)  (Ra Ca : Int) (A : Option Addr) (la : List UInt8) (na ca : Nat) (hla : la.length = na) (hA : Bytes w w.heap.size A la) (hca : la.length ≤ ca) (Rx Cx : Int) (X : Option Addr) (lx : List UInt8) (nx cx : Nat) (hlx : lx.length = nx) (hX : Bytes w w.heap.size X lx) (hcx : lx.length ≤ cx) (Rb Cb : Int) (B : Option Addr) (lb : List UInt8) (nb cb : Nat) (hlb : lb.length = nb) (hB : Bytes w w.heap.size B lb) (hcb : lb.length ≤ cb) (hsa : smallB 8 Ra Ca na = false) :
    Calls Try.prog 5 #[.agg #[.int .i64 Ra, .int .i64 Ca, .slice A na ca], .agg #[.int .i64 Rx, .int .i64 Cx, .slice X nx cx], .agg #[.int .i64 Rb, .int .i64 Cb, .slice B nb cb]] w fun e w' => e = .returned (.bool true) ∧ Below w.heap.size w w' := by
  have H0 := Lib.hid ((((MS.start w).arg hA hca).arg hX hcx).arg hB hcb)
  have HLNa := Lib.hid hla
  have HLNx := Lib.hid hlx
  have HLNb := Lib.hid hlb
  have HSa := Lib.hid hsa
  clear hA hca hla hX hcx hlx hB hcb hlb hsa
  go_enter Try.func5, Try.ntmps5
  have L1 := Lib.hid (show MS _ _ _ ((w.heap.size, #[.int .i64 Ra, .int .i64 Ca, .slice A na ca]) :: _) (w.alloc (.cells #[.int .i64 Ra, .int .i64 Ca, .slice A na ca] 27)) from by have h := H0.out.put #[.int .i64 Ra, .int .i64 Ca, .slice A na ca]; (try simp only [World.size_alloc] at h); exact h)
  have L2 := Lib.hid (show MS _ _ _ ((w.heap.size + 1, #[.int .i64 Rx, .int .i64 Cx, .slice X nx cx]) :: _) ((w.alloc (.cells #[.int .i64 Ra, .int .i64 Ca, .slice A na ca] 27)).alloc (.cells #[.int .i64 Rx, .int .i64 Cx, .slice X nx cx] 27)) from by have h := L1.out.put #[.int .i64 Rx, .int .i64 Cx, .slice X nx cx]; (try simp only [World.size_alloc] at h); exact h)
  have L3 := Lib.hid (show MS _ _ _ ((w.heap.size + 1 + 1, #[.int .i64 Rb, .int .i64 Cb, .slice B nb cb]) :: _) (((w.alloc (.cells #[.int .i64 Ra, .int .i64 Ca, .slice A na ca] 27)).alloc (.cells #[.int .i64 Rx, .int .i64 Cx, .slice X nx cx] 27)).alloc (.cells #[.int .i64 Rb, .int .i64 Cb, .slice B nb cb] 27)) from by have h := L2.out.put #[.int .i64 Rb, .int .i64 Cb, .slice B nb cb]; (try simp only [World.size_alloc] at h); exact h)
  obtain ⟨a4, b4, d4⟩ := L3.out.cells (.tail _ (.tail _ (.head _)))
  go_wp2_with fail
  clear a4 b4 d4
  have H1 := L3
  clear L1 L2 L3
  generalize (((w.alloc (.cells #[.int .i64 Ra, .int .i64 Ca, .slice A na ca] 27)).alloc (.cells #[.int .i64 Rx, .int .i64 Cx, .slice X nx cx] 27)).alloc (.cells #[.int .i64 Rb, .int .i64 Cb, .slice B nb cb] 27)) = w1 at *
  refine (smallR H1.out 8 (by decide) (v := false) HSa.out).mono ?_
  rintro e w2 ⟨rfl, h⟩
  have H2 := Lib.hid h
  clear h
  go_wp2_with fail
  refine (works_any _).mono ?_
  rintro e w3 ⟨rfl, hb⟩
  have H3 := Lib.hid (MS.keep H2.out hb)
  clear hb
  go_wp2_with fail
  go_ret
  exact ⟨rfl, H3.out.below⟩
set_option maxRecDepth 100000 in
set_option maxHeartbeats 4000000 in
theorem solves_out1 (w : World)  (Ra Ca : Int) (A : Option Addr) (la : List UInt8) (na ca : Nat) (hla : la.length = na) (hA : Bytes w w.heap.size A la) (hca : la.length ≤ ca) (Rx Cx : Int) (X : Option Addr) (lx : List UInt8) (nx cx : Nat) (hlx : lx.length = nx) (hX : Bytes w w.heap.size X lx) (hcx : lx.length ≤ cx) (Rb Cb : Int) (B : Option Addr) (lb : List UInt8) (nb cb : Nat) (hlb : lb.length = nb) (hB : Bytes w w.heap.size B lb) (hcb : lb.length ≤ cb) (hsa : smallB 8 Ra Ca na = true) (hsx : smallB 8 Rx Cx nx = false) :
    Calls Try.prog 5 #[.agg #[.int .i64 Ra, .int .i64 Ca, .slice A na ca], .agg #[.int .i64 Rx, .int .i64 Cx, .slice X nx cx], .agg #[.int .i64 Rb, .int .i64 Cb, .slice B nb cb]] w fun e w' => e = .returned (.bool true) ∧ Below w.heap.size w w' := by
  have H0 := Lib.hid ((((MS.start w).arg hA hca).arg hX hcx).arg hB hcb)
  have HLNa := Lib.hid hla
  have HLNx := Lib.hid hlx
  have HLNb := Lib.hid hlb
  have HSa := Lib.hid hsa
  have HSx := Lib.hid hsx
  clear hA hca hla hX hcx hlx hB hcb hlb hsa hsx
  go_enter Try.func5, Try.ntmps5
  have L1 := Lib.hid (show MS _ _ _ ((w.heap.size, #[.int .i64 Ra, .int .i64 Ca, .slice A na ca]) :: _) (w.alloc (.cells #[.int .i64 Ra, .int .i64 Ca, .slice A na ca] 27)) from by have h := H0.out.put #[.int .i64 Ra, .int .i64 Ca, .slice A na ca]; (try simp only [World.size_alloc] at h); exact h)
  have L2 := Lib.hid (show MS _ _ _ ((w.heap.size + 1, #[.int .i64 Rx, .int .i64 Cx, .slice X nx cx]) :: _) ((w.alloc (.cells #[.int .i64 Ra, .int .i64 Ca, .slice A na ca] 27)).alloc (.cells #[.int .i64 Rx, .int .i64 Cx, .slice X nx cx] 27)) from by have h := L1.out.put #[.int .i64 Rx, .int .i64 Cx, .slice X nx cx]; (try simp only [World.size_alloc] at h); exact h)
  have L3 := Lib.hid (show MS _ _ _ ((w.heap.size + 1 + 1, #[.int .i64 Rb, .int .i64 Cb, .slice B nb cb]) :: _) (((w.alloc (.cells #[.int .i64 Ra, .int .i64 Ca, .slice A na ca] 27)).alloc (.cells #[.int .i64 Rx, .int .i64 Cx, .slice X nx cx] 27)).alloc (.cells #[.int .i64 Rb, .int .i64 Cb, .slice B nb cb] 27)) from by have h := L2.out.put #[.int .i64 Rb, .int .i64 Cb, .slice B nb cb]; (try simp only [World.size_alloc] at h); exact h)
  obtain ⟨a4, b4, d4⟩ := L3.out.cells (.tail _ (.tail _ (.head _)))
  go_wp2_with fail
  clear a4 b4 d4
  have H1 := L3
  clear L1 L2 L3
  generalize (((w.alloc (.cells #[.int .i64 Ra, .int .i64 Ca, .slice A na ca] 27)).alloc (.cells #[.int .i64 Rx, .int .i64 Cx, .slice X nx cx] 27)).alloc (.cells #[.int .i64 Rb, .int .i64 Cb, .slice B nb cb] 27)) = w1 at *
  refine (smallR H1.out 8 (by decide) (v := true) HSa.out).mono ?_
  rintro e w2 ⟨rfl, h⟩
  have H2 := Lib.hid h
  clear h
  obtain ⟨a5, b5, d5⟩ := H2.out.cells (.tail _ (.head _))
  go_wp2_with fail
  clear a5 b5 d5
  refine (smallR H2.out 8 (by decide) (v := false) HSx.out).mono ?_
  rintro e w3 ⟨rfl, h⟩
  have H3 := Lib.hid h
  clear h
  go_wp2_with fail
  refine (works_any _).mono ?_
  rintro e w4 ⟨rfl, hb⟩
  have H4 := Lib.hid (MS.keep H3.out hb)
  clear hb
  go_wp2_with fail
  go_ret
  exact ⟨rfl, H4.out.below⟩
set_option maxRecDepth 100000 in
set_option maxHeartbeats 4000000 in
theorem solves_out2 (w : World)  (Ra Ca : Int) (A : Option Addr) (la : List UInt8) (na ca : Nat) (hla : la.length = na) (hA : Bytes w w.heap.size A la) (hca : la.length ≤ ca) (Rx Cx : Int) (X : Option Addr) (lx : List UInt8) (nx cx : Nat) (hlx : lx.length = nx) (hX : Bytes w w.heap.size X lx) (hcx : lx.length ≤ cx) (Rb Cb : Int) (B : Option Addr) (lb : List UInt8) (nb cb : Nat) (hlb : lb.length = nb) (hB : Bytes w w.heap.size B lb) (hcb : lb.length ≤ cb) (hsa : smallB 8 Ra Ca na = true) (hsx : smallB 8 Rx Cx nx = true) (hsb : smallB 8 Rb Cb nb = false) :
    Calls Try.prog 5 #[.agg #[.int .i64 Ra, .int .i64 Ca, .slice A na ca], .agg #[.int .i64 Rx, .int .i64 Cx, .slice X nx cx], .agg #[.int .i64 Rb, .int .i64 Cb, .slice B nb cb]] w fun e w' => e = .returned (.bool true) ∧ Below w.heap.size w w' := by
  have H0 := Lib.hid ((((MS.start w).arg hA hca).arg hX hcx).arg hB hcb)
  have HLNa := Lib.hid hla
  have HLNx := Lib.hid hlx
  have HLNb := Lib.hid hlb
  have HSa := Lib.hid hsa
  have HSx := Lib.hid hsx
  have HSb := Lib.hid hsb
  clear hA hca hla hX hcx hlx hB hcb hlb hsa hsx hsb
  go_enter Try.func5, Try.ntmps5
  have L1 := Lib.hid (show MS _ _ _ ((w.heap.size, #[.int .i64 Ra, .int .i64 Ca, .slice A na ca]) :: _) (w.alloc (.cells #[.int .i64 Ra, .int .i64 Ca, .slice A na ca] 27)) from by have h := H0.out.put #[.int .i64 Ra, .int .i64 Ca, .slice A na ca]; (try simp only [World.size_alloc] at h); exact h)
  have L2 := Lib.hid (show MS _ _ _ ((w.heap.size + 1, #[.int .i64 Rx, .int .i64 Cx, .slice X nx cx]) :: _) ((w.alloc (.cells #[.int .i64 Ra, .int .i64 Ca, .slice A na ca] 27)).alloc (.cells #[.int .i64 Rx, .int .i64 Cx, .slice X nx cx] 27)) from by have h := L1.out.put #[.int .i64 Rx, .int .i64 Cx, .slice X nx cx]; (try simp only [World.size_alloc] at h); exact h)
  have L3 := Lib.hid (show MS _ _ _ ((w.heap.size + 1 + 1, #[.int .i64 Rb, .int .i64 Cb, .slice B nb cb]) :: _) (((w.alloc (.cells #[.int .i64 Ra, .int .i64 Ca, .slice A na ca] 27)).alloc (.cells #[.int .i64 Rx, .int .i64 Cx, .slice X nx cx] 27)).alloc (.cells #[.int .i64 Rb, .int .i64 Cb, .slice B nb cb] 27)) from by have h := L2.out.put #[.int .i64 Rb, .int .i64 Cb, .slice B nb cb]; (try simp only [World.size_alloc] at h); exact h)
  obtain ⟨a4, b4, d4⟩ := L3.out.cells (.tail _ (.tail _ (.head _)))
  go_wp2_with fail
  clear a4 b4 d4
  have H1 := L3
  clear L1 L2 L3
  generalize (((w.alloc (.cells #[.int .i64 Ra, .int .i64 Ca, .slice A na ca] 27)).alloc (.cells #[.int .i64 Rx, .int .i64 Cx, .slice X nx cx] 27)).alloc (.cells #[.int .i64 Rb, .int .i64 Cb, .slice B nb cb] 27)) = w1 at *
  refine (smallR H1.out 8 (by decide) (v := true) HSa.out).mono ?_
  rintro e w2 ⟨rfl, h⟩
  have H2 := Lib.hid h
  clear h
  obtain ⟨a5, b5, d5⟩ := H2.out.cells (.tail _ (.head _))
  go_wp2_with fail
  clear a5 b5 d5
  refine (smallR H2.out 8 (by decide) (v := true) HSx.out).mono ?_
  rintro e w3 ⟨rfl, h⟩
  have H3 := Lib.hid h
  clear h
  obtain ⟨a6, b6, d6⟩ := H3.out.cells (.head _)
  go_wp2_with fail
  clear a6 b6 d6
  refine (smallR H3.out 8 (by decide) (v := false) HSb.out).mono ?_
  rintro e w4 ⟨rfl, h⟩
  have H4 := Lib.hid h
  clear h
  go_wp2_with fail
  refine (works_any _).mono ?_
  rintro e w5 ⟨rfl, hb⟩
  have H5 := Lib.hid (MS.keep H4.out hb)
  clear hb
  go_wp2_with fail
  go_ret
  exact ⟨rfl, H5.out.below⟩
set_option maxRecDepth 100000 in
set_option maxHeartbeats 4000000 in
theorem solves_out3 (w : World)  (Ra Ca : Int) (A : Option Addr) (la : List UInt8) (na ca : Nat) (hla : la.length = na) (hA : Bytes w w.heap.size A la) (hca : la.length ≤ ca) (Rx Cx : Int) (X : Option Addr) (lx : List UInt8) (nx cx : Nat) (hlx : lx.length = nx) (hX : Bytes w w.heap.size X lx) (hcx : lx.length ≤ cx) (Rb Cb : Int) (B : Option Addr) (lb : List UInt8) (nb cb : Nat) (hlb : lb.length = nb) (hB : Bytes w w.heap.size B lb) (hcb : lb.length ≤ cb) (hsa : smallB 8 Ra Ca na = true) (hsx : smallB 8 Rx Cx nx = true) (hsb : smallB 8 Rb Cb nb = true) (hr : rightB Ra Ca na = false) :
    Calls Try.prog 5 #[.agg #[.int .i64 Ra, .int .i64 Ca, .slice A na ca], .agg #[.int .i64 Rx, .int .i64 Cx, .slice X nx cx], .agg #[.int .i64 Rb, .int .i64 Cb, .slice B nb cb]] w fun e w' => e = .returned (.bool true) ∧ Below w.heap.size w w' := by
  have H0 := Lib.hid ((((MS.start w).arg hA hca).arg hX hcx).arg hB hcb)
  have HLNa := Lib.hid hla
  have HLNx := Lib.hid hlx
  have HLNb := Lib.hid hlb
  have HSa := Lib.hid hsa
  have HSx := Lib.hid hsx
  have HSb := Lib.hid hsb
  have HR := Lib.hid hr
  clear hA hca hla hX hcx hlx hB hcb hlb hsa hsx hsb hr
  go_enter Try.func5, Try.ntmps5
  have L1 := Lib.hid (show MS _ _ _ ((w.heap.size, #[.int .i64 Ra, .int .i64 Ca, .slice A na ca]) :: _) (w.alloc (.cells #[.int .i64 Ra, .int .i64 Ca, .slice A na ca] 27)) from by have h := H0.out.put #[.int .i64 Ra, .int .i64 Ca, .slice A na ca]; (try simp only [World.size_alloc] at h); exact h)
  have L2 := Lib.hid (show MS _ _ _ ((w.heap.size + 1, #[.int .i64 Rx, .int .i64 Cx, .slice X nx cx]) :: _) ((w.alloc (.cells #[.int .i64 Ra, .int .i64 Ca, .slice A na ca] 27)).alloc (.cells #[.int .i64 Rx, .int .i64 Cx, .slice X nx cx] 27)) from by have h := L1.out.put #[.int .i64 Rx, .int .i64 Cx, .slice X nx cx]; (try simp only [World.size_alloc] at h); exact h)
  have L3 := Lib.hid (show MS _ _ _ ((w.heap.size + 1 + 1, #[.int .i64 Rb, .int .i64 Cb, .slice B nb cb]) :: _) (((w.alloc (.cells #[.int .i64 Ra, .int .i64 Ca, .slice A na ca] 27)).alloc (.cells #[.int .i64 Rx, .int .i64 Cx, .slice X nx cx] 27)).alloc (.cells #[.int .i64 Rb, .int .i64 Cb, .slice B nb cb] 27)) from by have h := L2.out.put #[.int .i64 Rb, .int .i64 Cb, .slice B nb cb]; (try simp only [World.size_alloc] at h); exact h)
  obtain ⟨a4, b4, d4⟩ := L3.out.cells (.tail _ (.tail _ (.head _)))
  go_wp2_with fail
  clear a4 b4 d4
  have H1 := L3
  clear L1 L2 L3
  generalize (((w.alloc (.cells #[.int .i64 Ra, .int .i64 Ca, .slice A na ca] 27)).alloc (.cells #[.int .i64 Rx, .int .i64 Cx, .slice X nx cx] 27)).alloc (.cells #[.int .i64 Rb, .int .i64 Cb, .slice B nb cb] 27)) = w1 at *
  refine (smallR H1.out 8 (by decide) (v := true) HSa.out).mono ?_
  rintro e w2 ⟨rfl, h⟩
  have H2 := Lib.hid h
  clear h
  obtain ⟨a5, b5, d5⟩ := H2.out.cells (.tail _ (.head _))
  go_wp2_with fail
  clear a5 b5 d5
  refine (smallR H2.out 8 (by decide) (v := true) HSx.out).mono ?_
  rintro e w3 ⟨rfl, h⟩
  have H3 := Lib.hid h
  clear h
  obtain ⟨a6, b6, d6⟩ := H3.out.cells (.head _)
  go_wp2_with fail
  clear a6 b6 d6
  refine (smallR H3.out 8 (by decide) (v := true) HSb.out).mono ?_
  rintro e w4 ⟨rfl, h⟩
  have H4 := Lib.hid h
  clear h
  obtain ⟨a7, b7, d7⟩ := H4.out.cells (.tail _ (.tail _ (.head _)))
  go_wp2_with fail
  clear a7 b7 d7
  refine (rightR H4.out HR.out).mono ?_
  rintro e w5 ⟨rfl, h⟩
  have H5 := Lib.hid h
  clear h
  go_wp2_with fail
  refine (works_any _).mono ?_
  rintro e w6 ⟨rfl, hb⟩
  have H6 := Lib.hid (MS.keep H5.out hb)
  clear hb
  go_wp2_with fail
  go_ret
  exact ⟨rfl, H6.out.below⟩
theorem solves_law (w : World) (Ra Ca : Int) (A : Option Addr) (la : List UInt8) (ca : Nat) (ga : Open.MtOk w Ra Ca A la ca) (Rx Cx : Int) (X : Option Addr) (lx : List UInt8) (cx : Nat) (gx : Open.MtOk w Rx Cx X lx cx) (Rb Cb : Int) (B : Option Addr) (lb : List UInt8) (cb : Nat) (gb : Open.MtOk w Rb Cb B lb cb) :
    Calls Try.prog 5 #[.agg #[.int .i64 Ra, .int .i64 Ca, .slice A la.length ca], .agg #[.int .i64 Rx, .int .i64 Cx, .slice X lx.length cx], .agg #[.int .i64 Rb, .int .i64 Cb, .slice B lb.length cb]] w fun e w' => e = .returned (.bool true) ∧ Below w.heap.size w w' := by
  cases hsa : smallB 8 Ra Ca la.length with
  | false => exact solves_out0 w Ra Ca A la _ ca rfl ga.row ga.le Rx Cx X lx _ cx rfl gx.row gx.le Rb Cb B lb _ cb rfl gb.row gb.le hsa
  | true =>
  cases hsx : smallB 8 Rx Cx lx.length with
  | false => exact solves_out1 w Ra Ca A la _ ca rfl ga.row ga.le Rx Cx X lx _ cx rfl gx.row gx.le Rb Cb B lb _ cb rfl gb.row gb.le hsa hsx
  | true =>
  cases hsb : smallB 8 Rb Cb lb.length with
  | false => exact solves_out2 w Ra Ca A la _ ca rfl ga.row ga.le Rx Cx X lx _ cx rfl gx.row gx.le Rb Cb B lb _ cb rfl gb.row gb.le hsa hsx hsb
  | true =>
  cases hr : rightB Ra Ca la.length with
  | false => exact solves_out3 w Ra Ca A la _ ca rfl ga.row ga.le Rx Cx X lx _ cx rfl gx.row gx.le Rb Cb B lb _ cb rfl gb.row gb.le hsa hsx hsb hr
  | true =>
    obtain ⟨r, c, rfl, rfl, _, _, e1⟩ := right_nat hr
    have d1 := small_nat hsa
    rw [e1]
    cases hm : mulB (r : Int) (c : Int) (r * c) Rx Cx lx.length with
    | false => exact solves_in0 w r c d1 A ca (ent la c) (by rw [flat_ent e1]; exact ga.row) (by rw [flat_ent e1]; exact ga.le) Rx Cx X lx _ cx rfl gx.row gx.le Rb Cb B lb _ cb rfl gb.row gb.le hsx hsb hm
    | true =>
      obtain ⟨r', s, t, k1, k2, k3, k4, _, k6⟩ := mul_nat hm
      have hd := of_decide_eq_true hsx
      have hm' : Rx = (c : Int) ∧ Cx = (t : Int) ∧ lx.length = c * t ∧ t ≤ 8 := by
        obtain rfl : c = s := Int.ofNat.inj k2
        exact ⟨k3, k4, k6, by omega⟩
      by_cases hk : rankM r c (ent la c) = c
      · exact solves_in1 w r c d1 A ca (ent la c) (by rw [flat_ent e1]; exact ga.row) (by rw [flat_ent e1]; exact ga.le) Rx Cx X lx _ cx rfl gx.row gx.le Rb Cb B lb _ cb rfl gb.row gb.le hsx hsb t hm' hk
      · exact solves_in2 w r c d1 A ca (ent la c) (by rw [flat_ent e1]; exact ga.row) (by rw [flat_ent e1]; exact ga.le) Rx Cx X lx _ cx rfl gx.row gx.le Rb Cb B lb _ cb rfl gb.row gb.le hsx hsb t hm' hk
end Go.Proofs.Ythdapoipfnnaeaa.MxW
/- The law MatrixSolves of chapter 05 holds for every input. It has no conditions. -/
namespace Go.Proofs.Ythdapoipfnnaeaa.lawMatrixSolves
open Go.ChangeShapes Go.WideShapes Go.ChangeAt Go.RowKit
open Go.ChangeMaps (open_string shut_string)

theorem own : ownKnob Try.prog.godebug = none := by kernel_rfl
theorem laidOut : laidOutB Try.prog = true := by kernel_rfl

set_option maxRecDepth 100000 in
theorem lifted (os : Os) (started : os.Started) (H : Type) (enc : TypeId × Value → H) :
    ReturnsInHanded {} Try.checked os 5 .any (Rows.matrixSolvesSpec.pre6 enc Try.prog Try.f5 Rows.matrixSolvesRow.domain false) (Rows.matrixSolvesSpec.post enc Try.prog Try.f5 false true false false) := by
  refine returnsInHanded_of_change (C := Try.checked) own started (by kernel_rfl) Try.func5
    (ChangeSpec.witness6 (enc := enc) (C := Try.checked) false ⟨#[], #[.agg #[.int .i64 0, .int .i64 0, .slice none 0 0], .agg #[.int .i64 0, .int .i64 0, .slice none 0 0], .agg #[.int .i64 0, .int .i64 0, .slice none 0 0]], []⟩ 8 (by kernel_rfl) (by kernel_rfl) (by kernel_rfl) (by kernel_rfl)) ?_
  intro W base args ds gs before hval0 hW hcnd _
  have hval : ∀ (j : Nat) t v, Try.f5.params[j]? = some t → args[j]? = some v → Value.okWide Try.prog W .any base t v := hval0
  have hW' := hW
  obtain ⟨p, q, hA0, hV, rfl, hfz, hnd⟩ := hW
  have hA : DataW.TrodAll enc Try.prog W 0 (fun _ => true) true Try.f5.params.toList args.toList ds p := hA0
  rw [Try.params5] at hA hval
  obtain ⟨v0, vs0, d0, ds0, p0, q0, hargs, rfl, rfl, h0, r0⟩ := trodAll_cons hA
  obtain ⟨v1, vs1, d1, ds1, p1, q1, rfl, rfl, rfl, h1, r1⟩ := trodAll_cons r0
  obtain ⟨v2, vs2, d2, ds2, p2, q2, rfl, rfl, rfl, h2, r2⟩ := trodAll_cons r1
  obtain ⟨rfl, rfl, rfl⟩ := trodAll_nil r2
  obtain rfl : args = #[v0, v1, v2] := by cases args; simp_all
  obtain ⟨rfl, rfl⟩ := trodVars_none hV
  have k0 := h0
  have lt0 : ∀ x ∈ p0, x.block < W.heap.size := by obtain ⟨m, hm⟩ := k0; exact DataW.trod_lt m _ _ _ hm
  have k1 := h1
  have lt1 : ∀ x ∈ p1, x.block < W.heap.size := by obtain ⟨m, hm⟩ := k1; exact DataW.trod_lt m _ _ _ hm
  have k2 := h2
  have lt2 : ∀ x ∈ p2, x.block < W.heap.size := by obtain ⟨m, hm⟩ := k2; exact DataW.trod_lt m _ _ _ hm
  obtain ⟨R0, C0, A0, l0, c0, rfl, hg0⟩ := Open.open_matrix Try.underlying27 (by kernel_rfl) (by kernel_rfl) Try.underlying3 Try.underlying3 Try.underlying22 Try.underlying5 (by kernel_rfl) (hval 0 27 v0 rfl rfl) h0
  obtain ⟨R1, C1, A1, l1, c1, rfl, hg1⟩ := Open.open_matrix Try.underlying27 (by kernel_rfl) (by kernel_rfl) Try.underlying3 Try.underlying3 Try.underlying22 Try.underlying5 (by kernel_rfl) (hval 1 27 v1 rfl rfl) h1
  obtain ⟨R2, C2, A2, l2, c2, rfl, hg2⟩ := Open.open_matrix Try.underlying27 (by kernel_rfl) (by kernel_rfl) Try.underlying3 Try.underlying3 Try.underlying22 Try.underlying5 (by kernel_rfl) (hval 2 27 v2 rfl rfl) h2
  clear hA0 hval0
  refine (MxW.solves_law W R0 C0 A0 l0 c0 hg0 R1 C1 A1 l1 c1 hg1 R2 C2 A2 l2 c2 hg2).mono fun e W' ⟨he, bel⟩ => ?_
  subst he
  exact ⟨_, rfl, _, _, _, [], _, [], hW', trodAll_mk1 (shut_bool Try.underlying4 _), (trodAll_cons_mk (Below.trod laidOut (by kernel_rfl) (of_decide_eq_true (by kernel_rfl)) k0 bel lt0) (trodAll_cons_mk (Below.trod laidOut (by kernel_rfl) (of_decide_eq_true (by kernel_rfl)) k1 bel lt1) (trodAll_cons_mk (Below.trod laidOut (by kernel_rfl) (of_decide_eq_true (by kernel_rfl)) k2 bel lt2) trodAll_mk0))), rfl, bel.frame _, fun h => by cases h⟩

theorem over : Rows.matrixSolvesRow.holds Try.pinned (OpenSpec.ofChange Rows.matrixSolvesSpec) :=
  OpenClaim.holds_of_wide 5 Try.f5 rfl rfl rfl rfl rfl rfl rfl ⟨rfl, rfl, rfl, rfl, rfl⟩ rfl rfl rfl rfl rfl (by kernel_rfl) Try.func5 (by kernel_rfl)
    (of_decide_eq_true (by kernel_rfl)) (by unfold Func.isWrapper; rw [if_neg (by decide +kernel)]; exact ⟨rfl, rfl⟩)
    (fun os started H enc _ => lifted os started H enc)

theorem proved : Rows.MatrixSolvesSaid := over
#print axioms proved
end Go.Proofs.Ythdapoipfnnaeaa.lawMatrixSolves
