/- Texts of a claim, one behind another. -/
import Derived.Test.YthdapoipfnnaeaaSq
import Derived.Test.YthdapoipfnnaeaaSq3
import Derived.Test.YthdapoipfnnaeaaQLawMatrixKnown3
import Derived.Test.YthdapoipfnnaeaaTwo
import Derived.Test.YthdapoipfnnaeaaThree
import Derived.Test.YthdapoipfnnaeaaOpenMx
set_option linter.unusedSimpArgs false
set_option linter.unusedVariables false
/- The document's swap. -/
namespace Go.Proofs.Ythdapoipfnnaeaa.MxW
open Go.RowKit Go.Shelf Mem Gf FdW Mx Rng
open PlW (In)
set_option linter.unusedVariables false
set_option linter.unusedSectionVars false
attribute [local go_sem] Oper.semAt_some wide_fn

/-- While rows change places. -/
structure SwI (w : World) (B gm g r c : Nat) (m : M) (W : World) : Prop where
 fr : Fr (fun k => k = g) w W
 var : Blk W gm 38 (mcells r c (some ⟨g, 0, none⟩) (r * c) (r * c))
 row : Wm W B g (r * c) r c m
theorem SwI.drew {w W : World} {B gm g r c : Nat} {m : M} (h : SwI w B gm g r c m W) : SwI w B gm g r c m W.drew := ⟨h.fr.trans (Fr.quiet (S := fun k => k = g) (nextN (Mem.start W) 1)) fun _ _ h => h, h.var.keep (nextN (Mem.start W) 1), h.row.keep (nextN (Mem.start W) 1)⟩
theorem SwI.set {w W : World} {B gm g r c : Nat} {m : M} (h : SwI w B gm g r c m W) {i k : Nat} (hi : i < r) (hk : k < c) (x : UInt8) : SwI w B gm g r c (upd m i k x) (W.setCell ⟨g, i * c + k, none⟩ (.int .u8 (x.toNat : Int))) := by
 have hf := setF (p := g) W ⟨g, i * c + k, none⟩ rfl (.int .u8 (x.toNat : Int))
 exact ⟨h.fr.trans hf fun _ _ h => h, h.var.fr hf fun e => h.var.ne_own h.row (by decide) g rfl e.symm, h.row.set hi hk x⟩
def SwapOk (w : World) (B g r c : Nat) (m : M) (e : Ending) (w' : World) : Prop := e = .returned (.tuple #[]) ∧ Wm w' B g (r * c) r c m ∧ Fr (fun k => k = g) w w'
theorem Wm.at2 {w : World} {B g cap r c s : Nat} {m : M} (h : Wm w B g cap r c m) {i k : Nat} (hi : i < r) (hk : k < c) (hs : i * c + k = s) {x : UInt8} (hx : m i k = x) : w.cell? ⟨g, s, none⟩ = some (.int .u8 (x.toNat : Int)) ∧ w.frozen? ⟨g, s, none⟩ = false := by
 have := h.at_ hi hk
 rw [hs, hx] at this; exact this
set_option maxRecDepth 100000 in
set_option maxHeartbeats 40000000 in
theorem swap_any (w : World) (B g r c : Nat) (m : M) (a b : Nat) (ha : a < r) (hb : b < r) (hd : r ≤ 100 ∧ c ≤ 300) (hW : Wm w B g (r * c) r c m) :
    Calls Try.prog 65 #[.agg #[.int .i64 (r : Int), .int .i64 (c : Int), .slice (some ⟨g, 0, none⟩) (r * c) (r * c)], .int .i64 (a : Int), .int .i64 (b : Int)] w (SwapOk w B g r c (swapM m a b)) := by
 obtain ⟨w1, gm, h1, hw1, hgm⟩ := boxedT w (mcells r c (some ⟨g, 0, none⟩) (r * c) (r * c)) 38
 have HW1 := Lib.hid (show w.alloc (.cells #[.int .i64 (r : Int), .int .i64 (c : Int), .slice (some ⟨g, 0, none⟩) (r * c) (r * c)] 38) = w1 from hw1)
 have HGM := Lib.hid hgm
 have HD := Lib.hid (And.intro hd (And.intro ha hb))
 have H1 := Lib.hid (show SwI w B gm g r c (swapUp m a b 0) w1 from ⟨Fr.quiet h1.1, h1.2.1, (hW.keep h1.1).congr fun i _ k _ => by unfold swapUp; rw [if_neg (Nat.not_lt_zero _)]⟩)
 clear h1 hw1 hgm hW hd ha hb
 go_enter Try.func65, Try.ntmps65
 go_wp2_with fail
 rw [HW1.out, HGM.out]
 go_loopw [6] (fun k wr => ∃ j : Nat, k = .int .i64 (j : Int) ∧ j ≤ c ∧ SwI w B gm g r c (swapUp m a b j) wr) (fun k _ => c - (intOf k).toNat)
 case atStart => exact ⟨0, rfl, Nat.zero_le _, H1.out⟩
 case round =>
  obtain ⟨j, rfl, hj, h⟩ := hrel
  have H4 := Lib.hid h
  clear h H1
  obtain ⟨w4, rfl⟩ : ∃ w4 : World, w4 = wr := ⟨_, rfl⟩
  obtain ⟨⟨a0, a1, a2⟩, _⟩ := cells3 H4.out.var
  by_cases hjc : j < c
  ·have hj1 : (j : Int) < (c : Int) := by omega
   have hwj : IntKind.i64.wrap ((j : Int) + 1) = ((j + 1 : Nat) : Int) := by have := HD.out.1; rw [IntWalk.i64_in _ (by omega)]; omega
   have HJ := Lib.hid hjc
   obtain ⟨p, hp⟩ : ∃ p, a * c + j = p := ⟨_, rfl⟩
   obtain ⟨q, hq⟩ : ∃ q, b * c + j = q := ⟨_, rfl⟩
   obtain ⟨x, hx⟩ : ∃ x, m a j = x := ⟨_, rfl⟩
   obtain ⟨y, hy⟩ : ∃ y, m b j = y := ⟨_, rfl⟩
   have hu : ∀ i, swapUp m a b j i j = m i j := fun i => by unfold swapUp; rw [if_neg (Nat.lt_irrefl _)]
   have H5 := Lib.hid H4.out.drew
   have HX := Lib.hid (H5.out.row.at2 HD.out.2.1 hjc hp ((hu a).trans hx))
   have HY := Lib.hid (H5.out.row.at2 HD.out.2.2 hjc hq ((hu b).trans hy))
   have h6 := H4.out.set HD.out.2.1 hjc y
   rw [hp] at h6
   have HN6 := Lib.hid h6
   have H6 := Lib.hid h6.drew
   have HY2 := Lib.hid (show (w4.setCell ⟨g, p, none⟩ (.int .u8 (y.toNat : Int))).drew.cell? ⟨g, q, none⟩ = some (.int .u8 ((upd (swapUp m a b j) a j y b j).toNat : Int)) ∧ (w4.setCell ⟨g, p, none⟩ (.int .u8 (y.toNat : Int))).drew.frozen? ⟨g, q, none⟩ = false from H6.out.row.at2 HD.out.2.2 hjc hq rfl)
   have HE := Lib.hid (And.intro hp (And.intro hq (And.intro hx hy)))
   have hsz : r * c ≤ 100 * 300 := Nat.mul_le_mul HD.out.1.1 HD.out.1.2
   have hpl := idx_lt HD.out.2.1 hjc
   have hql := idx_lt HD.out.2.2 hjc
   have hw1 : IntKind.i64.wrap ((a : Int) * (c : Int)) = ((a * c : Nat) : Int) := by rw [show (a : Int) * (c : Int) = ((a * c : Nat) : Int) by simp, IntWalk.i64_in _ (by omega)]
   have hw3 : IntKind.i64.wrap ((b : Int) * (c : Int)) = ((b * c : Nat) : Int) := by rw [show (b : Int) * (c : Int) = ((b * c : Nat) : Int) by simp, IntWalk.i64_in _ (by omega)]
   obtain ⟨p1, hp1⟩ : ∃ p1, a * c = p1 := ⟨_, rfl⟩
   obtain ⟨q1, hq1⟩ : ∃ q1, b * c = q1 := ⟨_, rfl⟩
   rw [hp1] at hw1 hp hpl
   rw [hq1] at hw3 hq hql
   have hw2 : IntKind.i64.wrap ((p1 : Int) + (j : Int)) = (p : Int) := by rw [IntWalk.i64_in _ (by omega)]; omega
   have hw4 : IntKind.i64.wrap ((q1 : Int) + (j : Int)) = (q : Int) := by rw [IntWalk.i64_in _ (by omega)]; omega
   have hp0 : (0 : Int) ≤ (p : Int) := by omega
   have hp2 : (p : Int) < (r : Int) * (c : Int) := by rw [show (r : Int) * (c : Int) = ((r * c : Nat) : Int) by simp]; omega
   have hq0 : (0 : Int) ≤ (q : Int) := by omega
   have hq2 : (q : Int) < (r : Int) * (c : Int) := by rw [show (r : Int) * (c : Int) = ((r * c : Nat) : Int) by simp]; omega
   clear hx hy hp hq hp1 hq1 hpl hql hsz h6 hu
   go_wp2_with fail
   clear a0 a1 a2
   have h7 := HN6.out.set HD.out.2.2 HJ.out x
   rw [HE.out.2.1] at h7
   have H7 := Lib.hid h7.drew
   clear h7
   refine wp_region_noPanic ?_
   refine wp_heldG (fun w' => w'.cell? ⟨gm, 0, none⟩ = some (.int .i64 (r : Int)) ∧ w'.cell? ⟨gm, 1, none⟩ = some (.int .i64 (c : Int)) ∧ w'.cell? ⟨gm, 2, none⟩ = some (.slice (some ⟨g, 0, none⟩) (r * c) (r * c))) [] (by kernel_rfl) ?hs0 ?rg0
   case hs0 => exact (cells3 H5.out.var).1
   case rg0 =>
   intro hHeld
   refine pu 0 ?_
   refine tk 1 rfl (by intro w hSw; obtain ⟨k0, k1, k2⟩ := hSw; go_simp; try with_reducible rfl) ?_
   refine pu 2 ?_
   refine pu 3 ?_
   refine tk 4 rfl (by intro w hSw; obtain ⟨k0, k1, k2⟩ := hSw; go_simp; try with_reducible rfl) ?_
   refine pu 5 ?_
   refine pu 6 ?_
   refine pu 7 ?_
   refine pu 8 ?_
   refine tk 9 rfl (by intro w hSw; obtain ⟨k0, k1, k2⟩ := hSw; go_simp; try with_reducible rfl) ?_
   refine pu 10 ?_
   refine pu 11 ?_
   refine tk 12 rfl (by intro w hSw; obtain ⟨k0, k1, k2⟩ := hSw; go_simp; try with_reducible rfl) ?_
   refine pu 13 ?_
   refine pu 14 ?_
   refine pu 15 ?_
   refine pu 16 ?_
   refine tk 17 rfl (by intro w hSw; obtain ⟨k0, k1, k2⟩ := hSw; go_simp; try with_reducible rfl) ?_
   refine pu 18 ?_
   refine pu 19 ?_
   refine tk 20 rfl (by intro w hSw; obtain ⟨k0, k1, k2⟩ := hSw; go_simp; try with_reducible rfl) ?_
   refine pu 21 ?_
   refine pu 22 ?_
   refine pu 23 ?_
   refine pu 24 ?_
   refine pu 26 ?_
   refine tk 27 rfl (by intro w hSw; obtain ⟨k0, k1, k2⟩ := hSw; go_simp; try with_reducible rfl) ?_
   refine pu 28 ?_
   refine pu 29 ?_
   refine tk 30 rfl (by intro w hSw; obtain ⟨k0, k1, k2⟩ := hSw; go_simp; try with_reducible rfl) ?_
   refine pu 31 ?_
   refine pu 32 ?_
   refine pu 33 ?_
   refine pu 34 ?_
   refine tw 25 35 rfl rfl (fun K hK => ?_) fun K hK => ?_
   ·skip
    obtain ⟨s3, s4⟩ := HY.out
    go_simp
    try dsimp only
    clear s3 s4
    try dsimp only
    refine hK.out _ _ (fun _ => (cells3 H5.out.var).1) fun hHeld => ?_
    clear hK K
    try simp only [pU, pU0, pA, pB, pC]
    have hHeld := hHeld (by kernel_rfl)
    refine on 35 rfl fun K hK => ?_
    obtain ⟨s3, s4⟩ := HX.out
    go_simp
    try dsimp only
    clear s3 s4
    try dsimp only
    refine hK.out _ _ (fun _ => (cells3 H5.out.var).1) fun hHeld => ?_
    clear hK K
    try simp only [pU, pU0, pA, pB, pC]
    have hHeld := hHeld (by kernel_rfl)
    refine pu 36 ?_
    refine on 37 rfl fun K hK => ?_
    obtain ⟨s3, s4⟩ := HX.out
    go_simp
    try dsimp only
    clear s3 s4
    try dsimp only
    refine hK.out _ _ (fun _ => (cells3 H6.out.var).1) fun hHeld => ?_
    clear hK K
    try simp only [pU, pU0, pA, pB, pC]
    have hHeld := hHeld (by kernel_rfl)
    refine pu 38 ?_
    refine on 39 rfl fun K hK => ?_
    obtain ⟨s5, s6⟩ := HY2.out
    go_simp
    try dsimp only
    clear s5 s6
    try dsimp only
    refine hK.out _ _ (fun _ => (cells3 H7.out.var).1) fun hHeld => ?_
    clear hK K
    try simp only [pU, pU0, pA, pB, pC]
    have hHeld := hHeld (by kernel_rfl)
    refine wpAnyG_done (by kernel_rfl) ?_ _
    refine NoPanic.normal ?_
    clear hHeld
    go_wp2_with fail
    go_roundw
    case rel =>
     refine ⟨j + 1, by simp, HJ.out, ?_⟩
     have h := H7.out
     have hm : upd (upd (swapUp m a b j) a j y) b j x = swapUp m a b (j + 1) := by
      funext i k
      have h := swapUp_step m a b j i k
      rw [HE.out.2.2.1, HE.out.2.2.2] at h
      exact h
     rw [hm] at h
     exact h
    case measure => simp [intOf]; omega
   ·skip
    obtain ⟨s3, s4⟩ := HX.out
    go_simp
    try dsimp only
    clear s3 s4
    try dsimp only
    refine hK.out _ _ (fun _ => (cells3 H5.out.var).1) fun hHeld => ?_
    clear hK K
    try simp only [pU, pU0, pA, pB, pC]
    have hHeld := hHeld (by kernel_rfl)
    refine on 25 rfl fun K hK => ?_
    obtain ⟨s3, s4⟩ := HY.out
    go_simp
    try dsimp only
    clear s3 s4
    try dsimp only
    refine hK.out _ _ (fun _ => (cells3 H5.out.var).1) fun hHeld => ?_
    clear hK K
    try simp only [pU, pU0, pA, pB, pC]
    have hHeld := hHeld (by kernel_rfl)
    refine pu 36 ?_
    refine on 37 rfl fun K hK => ?_
    obtain ⟨s3, s4⟩ := HX.out
    go_simp
    try dsimp only
    clear s3 s4
    try dsimp only
    refine hK.out _ _ (fun _ => (cells3 H6.out.var).1) fun hHeld => ?_
    clear hK K
    try simp only [pU, pU0, pA, pB, pC]
    have hHeld := hHeld (by kernel_rfl)
    refine pu 38 ?_
    refine on 39 rfl fun K hK => ?_
    obtain ⟨s5, s6⟩ := HY2.out
    go_simp
    try dsimp only
    clear s5 s6
    try dsimp only
    refine hK.out _ _ (fun _ => (cells3 H7.out.var).1) fun hHeld => ?_
    clear hK K
    try simp only [pU, pU0, pA, pB, pC]
    have hHeld := hHeld (by kernel_rfl)
    refine wpAnyG_done (by kernel_rfl) ?_ _
    refine NoPanic.normal ?_
    clear hHeld
    go_wp2_with fail
    go_roundw
    case rel =>
     refine ⟨j + 1, by simp, HJ.out, ?_⟩
     have h := H7.out
     have hm : upd (upd (swapUp m a b j) a j y) b j x = swapUp m a b (j + 1) := by
      funext i k
      have h := swapUp_step m a b j i k
      rw [HE.out.2.2.1, HE.out.2.2.2] at h
      exact h
     rw [hm] at h
     exact h
    case measure => simp [intOf]; omega
  ·obtain rfl : j = c := by omega
   go_wp2_with fail
   refine bodyPost_ret (results_none rfl _ _ _) rfl ?_
   exact ⟨rfl, H4.out.row.congr fun i _ k hk => by unfold swapUp; rw [if_pos hk], H4.out.fr⟩
end Go.Proofs.Ythdapoipfnnaeaa.MxW
/- The document's Mul. -/
namespace Go.Proofs.Ythdapoipfnnaeaa.MxW
open Go.RowKit Go.Shelf Mem Gf FdW Mx Rng
open PlW (In)
set_option linter.unusedVariables false
set_option linter.unusedSectionVars false
attribute [local go_sem] Oper.semAt_some wide_fn
theorem Mx_xor8 (x y : UInt8) : bits .xor .u8 (x.toNat : Int) (y.toNat : Int) = ((x ^^^ y).toNat : Int) := by rw [u8_xor_nat _ _ x.toNat_lt y.toNat_lt, UInt8.toNat_xor]
set_option maxRecDepth 100000 in
set_option maxHeartbeats 40000000 in
theorem rmul_bad1 (w : World) (R C R' C' : Int) (A A' : Option Addr) (n cap n' cap' : Nat) (hrt : rightB R C n = false) :
    Calls Try.prog 19 #[.agg #[.int .i64 R, .int .i64 C, .slice A n cap], .agg #[.int .i64 R', .int .i64 C', .slice A' n' cap']] w (ErrM w 50) := by
 have HRT := Lib.hid hrt
 have H0 := Lib.hid ((((BS.start w).put #[.int .i64 R, .int .i64 C, .slice A n cap] 38 (by decide)).put #[.int .i64 R', .int .i64 C', .slice A' n' cap'] 38 (by decide)).put #[.int .i64 0, .int .i64 0, .slice none 0 0] 38 (by decide))
 go_enter Try.func19, Try.ntmps19
 go_wp2_with fail
 generalize ((w.alloc (.cells #[.int .i64 R, .int .i64 C, .slice A n cap] 38)).alloc (.cells #[.int .i64 R', .int .i64 C', .slice A' n' cap'] 38)).alloc (.cells #[.int .i64 0, .int .i64 0, .slice none 0 0] 38) = w1 at *
 simp only [World.size_alloc] at H0
 obtain ⟨ga, hga⟩ : ∃ x, w.heap.size = x := ⟨_, rfl⟩
 obtain ⟨gb, hgb⟩ : ∃ x, ga + 1 = x := ⟨_, rfl⟩
 obtain ⟨g0, hg0⟩ : ∃ x, gb + 1 = x := ⟨_, rfl⟩
 rw [hga, hgb, hg0] at H0 ⊢
 have H1 := H0
 clear H0
 refine wp_region_noPanic ?_
 refine wp_heldG (fun w' => (w'.cell? ⟨ga, 0, none⟩ = some (.int .i64 R) ∧ w'.cell? ⟨ga, 1, none⟩ = some (.int .i64 C) ∧ w'.cell? ⟨ga, 2, none⟩ = some (.slice A n cap)) ∧ (w'.cell? ⟨gb, 0, none⟩ = some (.int .i64 R') ∧ w'.cell? ⟨gb, 1, none⟩ = some (.int .i64 C') ∧ w'.cell? ⟨gb, 2, none⟩ = some (.slice A' n' cap'))) [] (by kernel_rfl) ?hs0 ?rg0
 case hs0 =>
  have h := H1.out.keep (nextN (Mem.start w1) 1)
  exact ⟨(h.cells mm2).1, (h.cells mm1).1⟩
 case rg0 =>
 intro hHeld
 refine tk 0 rfl (by intro w hSw; obtain ⟨⟨k0, k1, k2⟩, ⟨l0, l1, l2⟩⟩ := hSw; go_simp; try with_reducible rfl) ?_
 refine on 1 rfl fun K hK => ?_
 have H2 := Lib.hid (show BS w _ w1.drew from H1.out.keep (nextN (Mem.start w1) 1))
 go_simp
 refine (rright_any _ _ _ A n cap).mono ?_
 rintro e w3 ⟨rfl, hb⟩
 rw [HRT.out]
 have H3 := Lib.hid (H2.out.keep hb)
 clear hb
 try dsimp only
 refine hK.out _ _ (fun _ => ⟨(H3.out.cells mm2).1, (H3.out.cells mm1).1⟩) fun hHeld => ?_
 clear hK K
 try simp only [pU, pU0, pA, pB, pC]
 have hHeld := hHeld (by kernel_rfl)
 refine pu 2 ?_
 refine pu 3 ?_
 refine ofK 4 ?_
 refine ofK 5 ?_
 refine ofK 6 ?_
 refine pu 7 ?_
 refine pu 8 ?_
 refine ofK 9 ?_
 refine ofK 10 ?_
 refine ofK 11 ?_
 refine ofK 12 ?_
 refine ofK 13 ?_
 refine pu 14 ?_
 refine pu 15 ?_
 refine ofK 16 ?_
 refine ofK 17 ?_
 refine ofK 18 ?_
 refine ofK 19 ?_
 refine ofK 20 ?_
 refine ofK 21 ?_
 refine ofK 22 ?_
 refine ofK 23 ?_
 refine ofK 24 ?_
 refine ofK 25 ?_
 refine ofK 26 ?_
 refine pu 27 ?_
 refine wpAnyG_done (by kernel_rfl) ?_ _
 refine NoPanic.normal ?_
 clear hHeld
 obtain ⟨⟨d0, d1, d2⟩, f0, f1, f2⟩ := H3.out.cells mm0
 have hfin := H3.out.end_ mm0 (.int .i64 0) (.int .i64 0) (.slice none 0 0)
 go_wp2_with fail
 obtain ⟨h1, h2, e0, e1, e2⟩ := hfin
 exact bodyPost_ret (v := .tuple #[.agg #[.int .i64 0, .int .i64 0, .slice none 0 0], .int .i64 50]) (by simp [results, Try.results19, go_sem, e0, e1, e2]) rfl ⟨rfl, h1⟩
set_option maxRecDepth 100000 in
set_option maxHeartbeats 40000000 in
theorem rmul_bad2 (w : World) (R C R' C' : Int) (A A' : Option Addr) (n cap n' cap' : Nat) (hrt : rightB R C n = true) (hrt2 : rightB R' C' n' = false) :
    Calls Try.prog 19 #[.agg #[.int .i64 R, .int .i64 C, .slice A n cap], .agg #[.int .i64 R', .int .i64 C', .slice A' n' cap']] w (ErrM w 50) := by
 have HRT := Lib.hid hrt
 have HRT2 := Lib.hid hrt2
 have H0 := Lib.hid ((((BS.start w).put #[.int .i64 R, .int .i64 C, .slice A n cap] 38 (by decide)).put #[.int .i64 R', .int .i64 C', .slice A' n' cap'] 38 (by decide)).put #[.int .i64 0, .int .i64 0, .slice none 0 0] 38 (by decide))
 go_enter Try.func19, Try.ntmps19
 go_wp2_with fail
 generalize ((w.alloc (.cells #[.int .i64 R, .int .i64 C, .slice A n cap] 38)).alloc (.cells #[.int .i64 R', .int .i64 C', .slice A' n' cap'] 38)).alloc (.cells #[.int .i64 0, .int .i64 0, .slice none 0 0] 38) = w1 at *
 simp only [World.size_alloc] at H0
 obtain ⟨ga, hga⟩ : ∃ x, w.heap.size = x := ⟨_, rfl⟩
 obtain ⟨gb, hgb⟩ : ∃ x, ga + 1 = x := ⟨_, rfl⟩
 obtain ⟨g0, hg0⟩ : ∃ x, gb + 1 = x := ⟨_, rfl⟩
 rw [hga, hgb, hg0] at H0 ⊢
 have H1 := H0
 clear H0
 refine wp_region_noPanic ?_
 refine wp_heldG (fun w' => (w'.cell? ⟨ga, 0, none⟩ = some (.int .i64 R) ∧ w'.cell? ⟨ga, 1, none⟩ = some (.int .i64 C) ∧ w'.cell? ⟨ga, 2, none⟩ = some (.slice A n cap)) ∧ (w'.cell? ⟨gb, 0, none⟩ = some (.int .i64 R') ∧ w'.cell? ⟨gb, 1, none⟩ = some (.int .i64 C') ∧ w'.cell? ⟨gb, 2, none⟩ = some (.slice A' n' cap'))) [] (by kernel_rfl) ?hs0 ?rg0
 case hs0 =>
  have h := H1.out.keep (nextN (Mem.start w1) 1)
  exact ⟨(h.cells mm2).1, (h.cells mm1).1⟩
 case rg0 =>
 intro hHeld
 refine tk 0 rfl (by intro w hSw; obtain ⟨⟨k0, k1, k2⟩, ⟨l0, l1, l2⟩⟩ := hSw; go_simp; try with_reducible rfl) ?_
 refine on 1 rfl fun K hK => ?_
 have H2 := Lib.hid (show BS w _ w1.drew from H1.out.keep (nextN (Mem.start w1) 1))
 go_simp
 refine (rright_any _ _ _ A n cap).mono ?_
 rintro e w3 ⟨rfl, hb⟩
 rw [HRT.out]
 have H3 := Lib.hid (H2.out.keep hb)
 clear hb
 try dsimp only
 refine hK.out _ _ (fun _ => ⟨(H3.out.cells mm2).1, (H3.out.cells mm1).1⟩) fun hHeld => ?_
 clear hK K
 try simp only [pU, pU0, pA, pB, pC]
 have hHeld := hHeld (by kernel_rfl)
 refine pu 2 ?_
 refine pu 3 ?_
 refine tk 4 rfl (by intro w hSw; obtain ⟨⟨k0, k1, k2⟩, ⟨l0, l1, l2⟩⟩ := hSw; go_simp; try with_reducible rfl) ?_
 refine on 5 rfl fun K hK => ?_
 go_simp
 refine (rright_any _ _ _ A' n' cap').mono ?_
 rintro e w4 ⟨rfl, hb⟩
 rw [HRT2.out]
 have H4 := Lib.hid (H3.out.keep hb)
 clear hb
 try dsimp only
 refine hK.out _ _ (fun _ => ⟨(H4.out.cells mm2).1, (H4.out.cells mm1).1⟩) fun hHeld => ?_
 clear hK K
 try simp only [pU, pU0, pA, pB, pC]
 have hHeld := hHeld (by kernel_rfl)
 refine pu 6 ?_
 refine pu 7 ?_
 refine pu 8 ?_
 refine ofK 9 ?_
 refine ofK 10 ?_
 refine ofK 11 ?_
 refine ofK 12 ?_
 refine ofK 13 ?_
 refine pu 14 ?_
 refine pu 15 ?_
 refine ofK 16 ?_
 refine ofK 17 ?_
 refine ofK 18 ?_
 refine ofK 19 ?_
 refine ofK 20 ?_
 refine ofK 21 ?_
 refine ofK 22 ?_
 refine ofK 23 ?_
 refine ofK 24 ?_
 refine ofK 25 ?_
 refine ofK 26 ?_
 refine pu 27 ?_
 refine wpAnyG_done (by kernel_rfl) ?_ _
 refine NoPanic.normal ?_
 clear hHeld
 obtain ⟨⟨d0, d1, d2⟩, f0, f1, f2⟩ := H4.out.cells mm0
 have hfin := H4.out.end_ mm0 (.int .i64 0) (.int .i64 0) (.slice none 0 0)
 go_wp2_with fail
 obtain ⟨h1, h2, e0, e1, e2⟩ := hfin
 exact bodyPost_ret (v := .tuple #[.agg #[.int .i64 0, .int .i64 0, .slice none 0 0], .int .i64 50]) (by simp [results, Try.results19, go_sem, e0, e1, e2]) rfl ⟨rfl, h1⟩
set_option maxRecDepth 100000 in
set_option maxHeartbeats 40000000 in
theorem rmul_bad3 (w : World) (R C R' C' : Int) (A A' : Option Addr) (n cap n' cap' : Nat) (hrt : rightB R C n = true) (hrt2 : rightB R' C' n' = true) (hne : (C != R') = true) :
    Calls Try.prog 19 #[.agg #[.int .i64 R, .int .i64 C, .slice A n cap], .agg #[.int .i64 R', .int .i64 C', .slice A' n' cap']] w (ErrM w 50) := by
 have HRT := Lib.hid hrt
 have HRT2 := Lib.hid hrt2
 have H0 := Lib.hid ((((BS.start w).put #[.int .i64 R, .int .i64 C, .slice A n cap] 38 (by decide)).put #[.int .i64 R', .int .i64 C', .slice A' n' cap'] 38 (by decide)).put #[.int .i64 0, .int .i64 0, .slice none 0 0] 38 (by decide))
 go_enter Try.func19, Try.ntmps19
 go_wp2_with fail
 generalize ((w.alloc (.cells #[.int .i64 R, .int .i64 C, .slice A n cap] 38)).alloc (.cells #[.int .i64 R', .int .i64 C', .slice A' n' cap'] 38)).alloc (.cells #[.int .i64 0, .int .i64 0, .slice none 0 0] 38) = w1 at *
 simp only [World.size_alloc] at H0
 obtain ⟨ga, hga⟩ : ∃ x, w.heap.size = x := ⟨_, rfl⟩
 obtain ⟨gb, hgb⟩ : ∃ x, ga + 1 = x := ⟨_, rfl⟩
 obtain ⟨g0, hg0⟩ : ∃ x, gb + 1 = x := ⟨_, rfl⟩
 rw [hga, hgb, hg0] at H0 ⊢
 have H1 := H0
 clear H0
 refine wp_region_noPanic ?_
 refine wp_heldG (fun w' => (w'.cell? ⟨ga, 0, none⟩ = some (.int .i64 R) ∧ w'.cell? ⟨ga, 1, none⟩ = some (.int .i64 C) ∧ w'.cell? ⟨ga, 2, none⟩ = some (.slice A n cap)) ∧ (w'.cell? ⟨gb, 0, none⟩ = some (.int .i64 R') ∧ w'.cell? ⟨gb, 1, none⟩ = some (.int .i64 C') ∧ w'.cell? ⟨gb, 2, none⟩ = some (.slice A' n' cap'))) [] (by kernel_rfl) ?hs0 ?rg0
 case hs0 =>
  have h := H1.out.keep (nextN (Mem.start w1) 1)
  exact ⟨(h.cells mm2).1, (h.cells mm1).1⟩
 case rg0 =>
 intro hHeld
 refine tk 0 rfl (by intro w hSw; obtain ⟨⟨k0, k1, k2⟩, ⟨l0, l1, l2⟩⟩ := hSw; go_simp; try with_reducible rfl) ?_
 refine on 1 rfl fun K hK => ?_
 have H2 := Lib.hid (show BS w _ w1.drew from H1.out.keep (nextN (Mem.start w1) 1))
 go_simp
 refine (rright_any _ _ _ A n cap).mono ?_
 rintro e w3 ⟨rfl, hb⟩
 rw [HRT.out]
 have H3 := Lib.hid (H2.out.keep hb)
 clear hb
 try dsimp only
 refine hK.out _ _ (fun _ => ⟨(H3.out.cells mm2).1, (H3.out.cells mm1).1⟩) fun hHeld => ?_
 clear hK K
 try simp only [pU, pU0, pA, pB, pC]
 have hHeld := hHeld (by kernel_rfl)
 refine pu 2 ?_
 refine pu 3 ?_
 refine tk 4 rfl (by intro w hSw; obtain ⟨⟨k0, k1, k2⟩, ⟨l0, l1, l2⟩⟩ := hSw; go_simp; try with_reducible rfl) ?_
 refine on 5 rfl fun K hK => ?_
 go_simp
 refine (rright_any _ _ _ A' n' cap').mono ?_
 rintro e w4 ⟨rfl, hb⟩
 rw [HRT2.out]
 have H4 := Lib.hid (H3.out.keep hb)
 clear hb
 try dsimp only
 refine hK.out _ _ (fun _ => ⟨(H4.out.cells mm2).1, (H4.out.cells mm1).1⟩) fun hHeld => ?_
 clear hK K
 try simp only [pU, pU0, pA, pB, pC]
 have hHeld := hHeld (by kernel_rfl)
 refine pu 6 ?_
 refine pu 7 ?_
 refine pu 8 ?_
 refine pu 9 ?_
 refine tk 10 rfl (by intro w hSw; obtain ⟨⟨k0, k1, k2⟩, ⟨l0, l1, l2⟩⟩ := hSw; go_simp; try with_reducible rfl) ?_
 refine pu 11 ?_
 refine tk 12 rfl (by intro w hSw; obtain ⟨⟨k0, k1, k2⟩, ⟨l0, l1, l2⟩⟩ := hSw; go_simp; try with_reducible rfl) ?_
 refine pu 13 ?_
 refine pu 14 ?_
 refine pu 15 ?_
 refine ofK 16 ?_
 refine ofK 17 ?_
 refine ofK 18 ?_
 refine ofK 19 ?_
 refine ofK 20 ?_
 refine ofK 21 ?_
 refine ofK 22 ?_
 refine ofK 23 ?_
 refine ofK 24 ?_
 refine ofK 25 ?_
 refine ofK 26 ?_
 refine pu 27 ?_
 refine wpAnyG_done (by kernel_rfl) ?_ _
 refine NoPanic.normal ?_
 clear hHeld
 obtain ⟨⟨d0, d1, d2⟩, f0, f1, f2⟩ := H4.out.cells mm0
 have hfin := H4.out.end_ mm0 (.int .i64 0) (.int .i64 0) (.slice none 0 0)
 go_wp2_with fail
 obtain ⟨h1, h2, e0, e1, e2⟩ := hfin
 exact bodyPost_ret (v := .tuple #[.agg #[.int .i64 0, .int .i64 0, .slice none 0 0], .int .i64 50]) (by simp [results, Try.results19, go_sem, e0, e1, e2]) rfl ⟨rfl, h1⟩
theorem rmul_bad (w : World) (R C R' C' : Int) (A A' : Option Addr) (n cap n' cap' : Nat) (h : mulB R C n R' C' n' = false) :
    Calls Try.prog 19 #[.agg #[.int .i64 R, .int .i64 C, .slice A n cap], .agg #[.int .i64 R', .int .i64 C', .slice A' n' cap']] w (ErrM w 50) := by
 cases h1 : rightB R C n with
 | false => exact rmul_bad1 w R C R' C' A A' n cap n' cap' h1
 | true =>
  cases h2 : rightB R' C' n' with
  | false => exact rmul_bad2 w R C R' C' A A' n cap n' cap' h1 h2
  | true =>
   refine rmul_bad3 w R C R' C' A A' n cap n' cap' h1 h2 ?_
   unfold mulB at h
   rw [h1, h2] at h
   simpa [bne] using h
/-- Entries ahead of (i, k) whole, that one with j of its summands. -/
def rmulUp (c : Nat) (a b : M) (i k j : Nat) : M := fun x y => if x < i ∨ (x = i ∧ y < k) then mulM c a b x y else if x = i ∧ y = k then xsum j (fun j => mul (a x j) (b j y)) else 0
theorem rmulUp_step (c : Nat) (a b : M) (i k j x y : Nat) : upd (rmulUp c a b i k j) i k (rmulUp c a b i k j i k ^^^ mul (a i j) (b j k)) x y = rmulUp c a b i k (j + 1) x y := by
 unfold upd rmulUp
 by_cases h : x = i ∧ y = k
 ·obtain ⟨rfl, rfl⟩ := h
  have e1 : ¬ (x < x ∨ x = x ∧ y < y) := by omega
  have e2 : x = x ∧ y = y := ⟨rfl, rfl⟩
  rw [if_pos e2, if_neg e1, if_neg e1, if_pos e2, if_pos e2]; rfl
 ·rw [if_neg h]
  by_cases h2 : x < i ∨ x = i ∧ y < k
  ·rw [if_pos h2, if_pos h2]
  ·rw [if_neg h2, if_neg h2, if_neg h, if_neg h]
theorem rmulUp_next (c : Nat) (a b : M) (i k x y : Nat) : rmulUp c a b i k c x y = rmulUp c a b i (k + 1) 0 x y := by
 unfold rmulUp
 by_cases h : x < i ∨ x = i ∧ y < k
 ·rw [if_pos h, if_pos (by omega)]
 ·rw [if_neg h]
  by_cases h2 : x = i ∧ y = k
  ·rw [if_pos h2, if_pos (by omega)]; rfl
  ·rw [if_neg h2, if_neg (by omega)]
   split <;> rfl
theorem rmulUp_row {d : Nat} (c : Nat) (a b : M) (i x y : Nat) (hy : y < d) : rmulUp c a b i d 0 x y = rmulUp c a b (i + 1) 0 0 x y := by
 unfold rmulUp
 by_cases h : x < i ∨ x = i ∧ y < d
 ·rw [if_pos h, if_pos (by omega)]
 ·rw [if_neg h, if_neg (by omega), if_neg (by omega)]
  split <;> rfl
set_option maxRecDepth 100000 in
set_option maxHeartbeats 40000000 in
theorem rmul_ok1 (w : World) (r c d : Nat) (A A' : Option Addr) (n cap n' cap' : Nat) (a b : M) (hn : n = r * c) (hn' : n' = c * d) (hd : r ≤ 100 ∧ c ≤ 100 ∧ d ≤ 100) (hA : Bytes w w.heap.size A (flat r c a)) (hB : Bytes w w.heap.size A' (flat c d b)) (hz : 0 < r) :
    Calls Try.prog 19 #[.agg #[.int .i64 (r : Int), .int .i64 (c : Int), .slice A n cap], .agg #[.int .i64 (c : Int), .int .i64 (d : Int), .slice A' n' cap']] w (NewT w r d (mulM c a b)) := by
 have HN := Lib.hid (show r ≤ 100 ∧ c ≤ 100 ∧ d ≤ 100 ∧ n = r * c ∧ n' = c * d from ⟨hd.1, hd.2.1, hd.2.2, hn, hn'⟩)
 have HRT := Lib.hid (show rightB (r : Int) (c : Int) n = true from right_dim ⟨hd.1, hd.2.1⟩ hn)
 have HRT2 := Lib.hid (show rightB (c : Int) (d : Int) n' = true from right_dim ⟨hd.2.1, hd.2.2⟩ hn')
 have HA := Lib.hid hA
 have HB := Lib.hid hB
 have hr1 : (0 : Int) < (r : Int) := by omega
 have hrz : ((r : Int) == 0) = false := by simp; omega
 have hrn : ¬ r = 0 := by omega
 obtain ⟨qd, hqd⟩ : ∃ q, IntKind.i64.wrap ((16777216 : Int).tdiv (r : Int)) = q := ⟨_, rfl⟩
 have hdv : decide (qd < (d : Int)) = false := by
  refine decide_eq_false ?_
  have k1 : (16777216 : Int) / (r : Int) ≥ 100 := Int.le_ediv_of_mul_le hr1 (by omega)
  have k2 : (16777216 : Int) / (r : Int) ≤ 16777216 := Int.ediv_le_self _ (by decide)
  rw [Int.tdiv_eq_ediv_of_nonneg (by decide), IntWalk.i64_in _ (by omega)] at hqd
  omega
 clear hn hn' hd hA hB
 have H0 := Lib.hid ((((BS.start w).put #[.int .i64 (r : Int), .int .i64 (c : Int), .slice A n cap] 38 (by decide)).put #[.int .i64 (c : Int), .int .i64 (d : Int), .slice A' n' cap'] 38 (by decide)).put #[.int .i64 0, .int .i64 0, .slice none 0 0] 38 (by decide))
 go_enter Try.func19, Try.ntmps19
 go_wp2_with fail
 generalize ((w.alloc (.cells #[.int .i64 (r : Int), .int .i64 (c : Int), .slice A n cap] 38)).alloc (.cells #[.int .i64 (c : Int), .int .i64 (d : Int), .slice A' n' cap'] 38)).alloc (.cells #[.int .i64 0, .int .i64 0, .slice none 0 0] 38) = w1 at *
 simp only [World.size_alloc] at H0
 obtain ⟨ga, hga⟩ : ∃ x, w.heap.size = x := ⟨_, rfl⟩
 obtain ⟨gb, hgb⟩ : ∃ x, ga + 1 = x := ⟨_, rfl⟩
 obtain ⟨g0, hg0⟩ : ∃ x, gb + 1 = x := ⟨_, rfl⟩
 rw [hga, hgb, hg0] at H0 ⊢
 have H1 := H0
 clear H0
 refine wp_region_noPanic ?_
 refine wp_heldG (fun w' => (w'.cell? ⟨ga, 0, none⟩ = some (.int .i64 (r : Int)) ∧ w'.cell? ⟨ga, 1, none⟩ = some (.int .i64 (c : Int)) ∧ w'.cell? ⟨ga, 2, none⟩ = some (.slice A n cap)) ∧ (w'.cell? ⟨gb, 0, none⟩ = some (.int .i64 (c : Int)) ∧ w'.cell? ⟨gb, 1, none⟩ = some (.int .i64 (d : Int)) ∧ w'.cell? ⟨gb, 2, none⟩ = some (.slice A' n' cap'))) [] (by kernel_rfl) ?hs0 ?rg0
 case hs0 =>
  have h := H1.out.keep (nextN (Mem.start w1) 1)
  exact ⟨(h.cells mm2).1, (h.cells mm1).1⟩
 case rg0 =>
 intro hHeld
 refine tk 0 rfl (by intro w hSw; obtain ⟨⟨k0, k1, k2⟩, ⟨l0, l1, l2⟩⟩ := hSw; go_simp; try with_reducible rfl) ?_
 refine on 1 rfl fun K hK => ?_
 have H2 := Lib.hid (show BS w _ w1.drew from H1.out.keep (nextN (Mem.start w1) 1))
 go_simp
 refine (rright_any _ _ _ A n cap).mono ?_
 rintro e w3 ⟨rfl, hb⟩
 rw [HRT.out]
 have H3 := Lib.hid (H2.out.keep hb)
 clear hb
 try dsimp only
 refine hK.out _ _ (fun _ => ⟨(H3.out.cells mm2).1, (H3.out.cells mm1).1⟩) fun hHeld => ?_
 clear hK K
 try simp only [pU, pU0, pA, pB, pC]
 have hHeld := hHeld (by kernel_rfl)
 refine pu 2 ?_
 refine pu 3 ?_
 refine tk 4 rfl (by intro w hSw; obtain ⟨⟨k0, k1, k2⟩, ⟨l0, l1, l2⟩⟩ := hSw; go_simp; try with_reducible rfl) ?_
 refine on 5 rfl fun K hK => ?_
 go_simp
 refine (rright_any _ _ _ A' n' cap').mono ?_
 rintro e w4 ⟨rfl, hb⟩
 rw [HRT2.out]
 have H4 := Lib.hid (H3.out.keep hb)
 clear hb
 try dsimp only
 refine hK.out _ _ (fun _ => ⟨(H4.out.cells mm2).1, (H4.out.cells mm1).1⟩) fun hHeld => ?_
 clear hK K
 try simp only [pU, pU0, pA, pB, pC]
 have hHeld := hHeld (by kernel_rfl)
 refine pu 6 ?_
 refine pu 7 ?_
 refine pu 8 ?_
 refine pu 9 ?_
 refine tk 10 rfl (by intro w hSw; obtain ⟨⟨k0, k1, k2⟩, ⟨l0, l1, l2⟩⟩ := hSw; go_simp; try with_reducible rfl) ?_
 refine pu 11 ?_
 refine tk 12 rfl (by intro w hSw; obtain ⟨⟨k0, k1, k2⟩, ⟨l0, l1, l2⟩⟩ := hSw; go_simp; try with_reducible rfl) ?_
 refine pu 13 ?_
 refine pu 14 ?_
 refine pu 15 ?_
 refine pu 16 ?_
 refine tk 17 rfl (by intro w hSw; obtain ⟨⟨k0, k1, k2⟩, ⟨l0, l1, l2⟩⟩ := hSw; go_simp; try with_reducible rfl) ?_
 refine pu 18 ?_
 refine pu 19 ?_
 refine pu 20 ?_
 refine tk 21 rfl (by intro w hSw; obtain ⟨⟨k0, k1, k2⟩, ⟨l0, l1, l2⟩⟩ := hSw; go_simp; try with_reducible rfl) ?_
 refine pu 22 ?_
 refine tk 23 rfl (by intro w hSw; obtain ⟨⟨k0, k1, k2⟩, ⟨l0, l1, l2⟩⟩ := hSw; go_simp; try with_reducible rfl) ?_
 refine pu 24 ?_
 refine pu 25 ?_
 refine pu 26 ?_
 refine pu 27 ?_
 refine wpAnyG_done (by kernel_rfl) ?_ _
 refine NoPanic.normal ?_
 clear hHeld
 obtain ⟨⟨a0, a1, a2⟩, _⟩ := H4.out.cells mm2
 obtain ⟨⟨b0, b1, b2⟩, _⟩ := H4.out.cells mm1
 go_wp2_with fail
 clear a0 a1 a2 b0 b1 b2
 have H1 := H4
 generalize w4 = w1 at *
 refine (rnone_any w1 (r) (d) (by have h1 : r * d ≤ 100 * 100 := Nat.mul_le_mul HN.out.1 HN.out.2.2.1; omega)).mono ?_
 rintro e w2 ⟨g, rfl, ho, hb⟩
 have H2 := Lib.hid (H1.out.none_ (g := g) (cap := r * d) (r := r) (c := d) (m := fun _ _ => 0) (show Wm w2 w.heap.size g (r * d) (r) (d) _ from ho.down H1.out.below.size) hb)
 clear ho hb 
 have H3 := Lib.hid (H2.out.put (mcells (r) (d) (some ⟨g, 0, none⟩) (r * d) (r * d)) 38 (by decide))
 go_wp2_with fail
 obtain ⟨gm, hgm⟩ : ∃ x, w2.heap.size = x := ⟨_, rfl⟩
 obtain ⟨w3, hw3⟩ : ∃ x : World, w2.alloc (.cells #[.int .i64 (r : Int), .int .i64 (d : Int), .slice (some ⟨g, 0, none⟩) (r * d) (r * d)] 38) = x := ⟨_, rfl⟩
 have hw3' : w2.alloc (.cells (mcells (r) (d) (some ⟨g, 0, none⟩) (r * d) (r * d)) 38) = w3 := hw3
 rw [hw3', hgm] at H3
 rw [hw3, hgm]
 clear hw3 hw3' hgm
 go_loopw [7] (fun i wr => ∃ i' : Nat, i = .int .i64 (i' : Int) ∧ i' ≤ r ∧ WS w [(gm, 38, mcells r d (some ⟨g, 0, none⟩) (r * d) (r * d)), (g0, 38, #[.int .i64 0, .int .i64 0, .slice none 0 0]), (gb, 38, mcells c d A' n' cap'), (ga, 38, mcells r c A n cap)] g (r * d) r d (rmulUp c a b i' 0 0) wr) (fun i _ => r - (intOf i).toNat)
 case atStart => exact ⟨0, rfl, Nat.zero_le _, H3.out.congr fun x _ y _ => by unfold rmulUp; rw [if_neg (by omega)]; split <;> rfl⟩
 case round =>
  obtain ⟨i, rfl, hi, h⟩ := hrel
  have H4 := Lib.hid h
  clear h H3
  obtain ⟨w4, rfl⟩ : ∃ w4 : World, w4 = wr := ⟨_, rfl⟩
  obtain ⟨⟨a0, a1, a2⟩, _⟩ := H4.out.cells mm3
  by_cases hir : i < r
  ·have hi1 : (i : Int) < (r : Int) := by omega
   have hwi : IntKind.i64.wrap ((i : Int) + 1) = ((i + 1 : Nat) : Int) := by have := HN.out.1; rw [IntWalk.i64_in _ (by omega)]; omega
   have HI := Lib.hid hir
   go_wp2_with fail
   clear a0 a1 a2
   go_loopw [8] (fun k wr => ∃ k' : Nat, k = .int .i64 (k' : Int) ∧ k' ≤ d ∧ WS w [(gm, 38, mcells r d (some ⟨g, 0, none⟩) (r * d) (r * d)), (g0, 38, #[.int .i64 0, .int .i64 0, .slice none 0 0]), (gb, 38, mcells c d A' n' cap'), (ga, 38, mcells r c A n cap)] g (r * d) r d (rmulUp c a b i k' 0) wr) (fun k _ => d - (intOf k).toNat)
   case atStart => exact ⟨0, rfl, Nat.zero_le _, H4.out⟩
   case round =>
    obtain ⟨k, rfl, hk, h⟩ := hrel
    have H5 := Lib.hid h
    clear h
    obtain ⟨w5, rfl⟩ : ∃ w5 : World, w5 = wr := ⟨_, rfl⟩
    obtain ⟨⟨b0, b1, b2⟩, _⟩ := H5.out.cells mm2
    by_cases hkd : k < d
    ·have hk1 : (k : Int) < (d : Int) := by omega
     have hwk : IntKind.i64.wrap ((k : Int) + 1) = ((k + 1 : Nat) : Int) := by have := HN.out.2.2.1; rw [IntWalk.i64_in _ (by omega)]; omega
     have HK := Lib.hid hkd
     go_wp2_with fail
     clear b0 b1 b2
     go_loopw [9] (fun j wr => ∃ j' : Nat, j = .int .i64 (j' : Int) ∧ j' ≤ c ∧ WS w [(gm, 38, mcells r d (some ⟨g, 0, none⟩) (r * d) (r * d)), (g0, 38, #[.int .i64 0, .int .i64 0, .slice none 0 0]), (gb, 38, mcells c d A' n' cap'), (ga, 38, mcells r c A n cap)] g (r * d) r d (rmulUp c a b i k j') wr) (fun j _ => c - (intOf j).toNat)
     case atStart => exact ⟨0, rfl, Nat.zero_le _, H5.out⟩
     case round =>
      obtain ⟨j, rfl, hj, h⟩ := hrel
      have H6 := Lib.hid h
      clear h
      obtain ⟨w6, rfl⟩ : ∃ w6 : World, w6 = wr := ⟨_, rfl⟩
      obtain ⟨⟨a0, a1, a2⟩, _⟩ := H6.out.cells mm3
      by_cases hjc : j < c
      ·have hj1 : (j : Int) < (c : Int) := by omega
       have hwj : IntKind.i64.wrap ((j : Int) + 1) = ((j + 1 : Nat) : Int) := by have := HN.out.2.1; rw [IntWalk.i64_in _ (by omega)]; omega
       have HJ := Lib.hid hjc
       have hpl := idx_lt HI.out hjc
       have hql := idx_lt hjc HK.out
       have hsl := idx_lt HI.out HK.out
       have hsz1 : r * c ≤ 100 * 100 := Nat.mul_le_mul HN.out.1 HN.out.2.1
       have hsz2 : c * d ≤ 100 * 100 := Nat.mul_le_mul HN.out.2.1 HN.out.2.2.1
       have hsz3 : r * d ≤ 100 * 100 := Nat.mul_le_mul HN.out.1 HN.out.2.2.1
       obtain ⟨p, hp⟩ : ∃ p, i * c + j = p := ⟨_, rfl⟩
       obtain ⟨q, hq⟩ : ∃ q, j * d + k = q := ⟨_, rfl⟩
       obtain ⟨s, hs⟩ : ∃ s, i * d + k = s := ⟨_, rfl⟩
       obtain ⟨ab, ao, eA, -, -⟩ := HA.out.at_ (k := p) (by rw [flat_len, ← hp]; exact hpl)
       obtain ⟨bb, bo, eB, -, -⟩ := HB.out.at_ (k := q) (by rw [flat_len, ← hq]; exact hql)
       obtain ⟨x, hx⟩ : ∃ x, a i j = x := ⟨_, rfl⟩
       obtain ⟨y, hy⟩ : ∃ y, b j k = y := ⟨_, rfl⟩
       have HX := Lib.hid (show ∀ W : World, Below w.heap.size w W → W.cell? ⟨ab, ao + p, none⟩ = some (.int .u8 (x.toNat : Int)) from fun W hW => by
        obtain ⟨b', o', e', _, hc⟩ := (HA.out.below hW).at_ (k := p) (by rw [flat_len, ← hp]; exact hpl)
        rw [eA] at e'; injection e' with e'; injection e' with e1 e2; subst e1; subst e2
        rw [hc]; simp only [← hp, flat_getE HI.out hjc, hx])
       have HY := Lib.hid (show ∀ W : World, Below w.heap.size w W → W.cell? ⟨bb, bo + q, none⟩ = some (.int .u8 (y.toNat : Int)) from fun W hW => by
        obtain ⟨b', o', e', _, hc⟩ := (HB.out.below hW).at_ (k := q) (by rw [flat_len, ← hq]; exact hql)
        rw [eB] at e'; injection e' with e'; injection e' with e1 e2; subst e1; subst e2
        rw [hc]; simp only [← hq, flat_getE hjc HK.out, hy])
       subst eA; subst eB
       obtain ⟨z, hz⟩ : ∃ z, rmulUp c a b i k j i k = z := ⟨_, rfl⟩
       have HZE := Lib.hid (And.intro hz (And.intro hx (And.intro hy hs)))
       have H6D := Lib.hid (show WS w [(gm, 38, mcells r d (some ⟨g, 0, none⟩) (r * d) (r * d)), (g0, 38, #[.int .i64 0, .int .i64 0, .slice none 0 0]), (gb, 38, mcells c d (some ⟨bb, bo, none⟩) n' cap'), (ga, 38, mcells r c (some ⟨ab, ao, none⟩) n cap)] g (r * d) r d (rmulUp c a b i k j) w6.drew from H6.out.keep (nextN (Mem.start w6) 1))
       have HZS := Lib.hid (show w6.drew.cell? ⟨g, s, none⟩ = some (.int .u8 (z.toNat : Int)) ∧ w6.drew.frozen? ⟨g, s, none⟩ = false from by
        have h := H6D.out.at_ HI.out HK.out
        rw [hs, hz] at h; exact h)
       have hw1 : IntKind.i64.wrap ((i : Int) * (d : Int)) = ((i * d : Nat) : Int) := by rw [show (i : Int) * (d : Int) = ((i * d : Nat) : Int) by simp, IntWalk.i64_in _ (by omega)]
       have hw3 : IntKind.i64.wrap ((i : Int) * (c : Int)) = ((i * c : Nat) : Int) := by rw [show (i : Int) * (c : Int) = ((i * c : Nat) : Int) by simp, IntWalk.i64_in _ (by omega)]
       have hw5 : IntKind.i64.wrap ((j : Int) * (d : Int)) = ((j * d : Nat) : Int) := by rw [show (j : Int) * (d : Int) = ((j * d : Nat) : Int) by simp, IntWalk.i64_in _ (by omega)]
       obtain ⟨p1, hp1⟩ : ∃ p1, i * c = p1 := ⟨_, rfl⟩
       obtain ⟨q1, hq1⟩ : ∃ q1, j * d = q1 := ⟨_, rfl⟩
       obtain ⟨s1, hs1⟩ : ∃ s1, i * d = s1 := ⟨_, rfl⟩
       rw [hp1] at hw3 hp hpl
       rw [hq1] at hw5 hq hql
       rw [hs1] at hw1 hs hsl
       have hw2 : IntKind.i64.wrap ((s1 : Int) + (k : Int)) = (s : Int) := by rw [IntWalk.i64_in _ (by omega)]; omega
       have hw4 : IntKind.i64.wrap ((p1 : Int) + (j : Int)) = (p : Int) := by rw [IntWalk.i64_in _ (by omega)]; omega
       have hw6 : IntKind.i64.wrap ((q1 : Int) + (k : Int)) = (q : Int) := by rw [IntWalk.i64_in _ (by omega)]; omega
       have hs0 : (0 : Int) ≤ (s : Int) := by omega
       have hs2 : (s : Int) < (r : Int) * (d : Int) := by rw [show (r : Int) * (d : Int) = ((r * d : Nat) : Int) by simp]; omega
       have hp0 : (0 : Int) ≤ (p : Int) := by omega
       have hp2 : (p : Int) < (n : Int) := by have := HN.out.2.2.2.1; omega
       have hq0 : (0 : Int) ≤ (q : Int) := by omega
       have hq2 : (q : Int) < (n' : Int) := by have := HN.out.2.2.2.2; omega
       have hxor := Mx_xor8 z (mul x y)
       clear hx hy hz hp hq hs hp1 hq1 hs1 hpl hql hsl hsz1 hsz2 hsz3
       go_wp2_with fail
       clear a0 a1 a2
       refine wp_region_noPanic ?_
       refine wp_heldG (fun w' => (w'.cell? ⟨gm, 0, none⟩ = some (.int .i64 (r : Int)) ∧ w'.cell? ⟨gm, 1, none⟩ = some (.int .i64 (d : Int)) ∧ w'.cell? ⟨gm, 2, none⟩ = some (.slice (some ⟨g, 0, none⟩) (r * d) (r * d))) ∧ (w'.cell? ⟨gb, 0, none⟩ = some (.int .i64 (c : Int)) ∧ w'.cell? ⟨gb, 1, none⟩ = some (.int .i64 (d : Int)) ∧ w'.cell? ⟨gb, 2, none⟩ = some (.slice (some ⟨bb, bo, none⟩) n' cap')) ∧ (w'.cell? ⟨ga, 0, none⟩ = some (.int .i64 (r : Int)) ∧ w'.cell? ⟨ga, 1, none⟩ = some (.int .i64 (c : Int)) ∧ w'.cell? ⟨ga, 2, none⟩ = some (.slice (some ⟨ab, ao, none⟩) n cap)) ∧ w'.cell? ⟨ab, ao + p, none⟩ = some (.int .u8 (x.toNat : Int)) ∧ w'.cell? ⟨bb, bo + q, none⟩ = some (.int .u8 (y.toNat : Int)) ∧ w'.cell? ⟨g, s, none⟩ = some (.int .u8 (z.toNat : Int))) [41] (by kernel_rfl) ?hs0 ?rg0
       case hs0 =>
        have h := H6D
        exact ⟨(h.out.cells mm0).1, (h.out.cells mm2).1, (h.out.cells mm3).1, HX.out _ h.out.below, HY.out _ h.out.below, HZS.out.1⟩
       case rg0 =>
       intro hHeld
       refine pu 0 ?_
       refine tk 1 rfl (by intro w hSw; obtain ⟨⟨k0, k1, k2⟩, ⟨l0, l1, l2⟩, ⟨n0, n1, n2⟩, t0, t1, t2⟩ := hSw; go_simp; try with_reducible rfl) ?_
       refine pu 2 ?_
       refine pu 3 ?_
       refine tk 4 rfl (by intro w hSw; obtain ⟨⟨k0, k1, k2⟩, ⟨l0, l1, l2⟩, ⟨n0, n1, n2⟩, t0, t1, t2⟩ := hSw; go_simp; try with_reducible rfl) ?_
       refine pu 5 ?_
       refine pu 6 ?_
       refine pu 7 ?_
       refine pu 8 ?_
       refine tk 9 rfl (by intro w hSw; obtain ⟨⟨k0, k1, k2⟩, ⟨l0, l1, l2⟩, ⟨n0, n1, n2⟩, t0, t1, t2⟩ := hSw; go_simp; try with_reducible rfl) ?_
       refine pu 10 ?_
       refine pu 11 ?_
       refine tk 12 rfl (by intro w hSw; obtain ⟨⟨k0, k1, k2⟩, ⟨l0, l1, l2⟩, ⟨n0, n1, n2⟩, t0, t1, t2⟩ := hSw; go_simp; try with_reducible rfl) ?_
       refine pu 13 ?_
       refine pu 14 ?_
       refine pu 15 ?_
       refine pu 16 ?_
       refine tk 17 rfl (by intro w hSw; obtain ⟨⟨k0, k1, k2⟩, ⟨l0, l1, l2⟩, ⟨n0, n1, n2⟩, t0, t1, t2⟩ := hSw; go_simp; try with_reducible rfl) ?_
       refine pu 18 ?_
       refine tk 19 rfl (by intro w hSw; obtain ⟨⟨k0, k1, k2⟩, ⟨l0, l1, l2⟩, ⟨n0, n1, n2⟩, t0, t1, t2⟩ := hSw; go_simp; try with_reducible rfl) ?_
       refine pu 20 ?_
       refine pu 21 ?_
       refine tk 22 rfl (by intro w hSw; obtain ⟨⟨k0, k1, k2⟩, ⟨l0, l1, l2⟩, ⟨n0, n1, n2⟩, t0, t1, t2⟩ := hSw; go_simp; try with_reducible rfl) ?_
       refine pu 23 ?_
       refine pu 24 ?_
       refine pu 25 ?_
       refine pu 26 ?_
       refine tk 27 rfl (by intro w hSw; obtain ⟨⟨k0, k1, k2⟩, ⟨l0, l1, l2⟩, ⟨n0, n1, n2⟩, t0, t1, t2⟩ := hSw; go_simp; try with_reducible rfl) ?_
       refine pu 28 ?_
       refine tk 29 rfl (by intro w hSw; obtain ⟨⟨k0, k1, k2⟩, ⟨l0, l1, l2⟩, ⟨n0, n1, n2⟩, t0, t1, t2⟩ := hSw; go_simp; try with_reducible rfl) ?_
       refine pu 30 ?_
       refine pu 31 ?_
       refine tk 32 rfl (by intro w hSw; obtain ⟨⟨k0, k1, k2⟩, ⟨l0, l1, l2⟩, ⟨n0, n1, n2⟩, t0, t1, t2⟩ := hSw; go_simp; try with_reducible rfl) ?_
       refine pu 33 ?_
       refine pu 34 ?_
       refine pu 35 ?_
       refine pu 36 ?_
       refine tk 37 rfl (by intro w hSw; obtain ⟨⟨k0, k1, k2⟩, ⟨l0, l1, l2⟩, ⟨n0, n1, n2⟩, t0, t1, t2⟩ := hSw; go_simp; try with_reducible rfl) ?_
       refine on 38 rfl fun K hK => ?_
       go_simp
       refine (refMul_any _ _ x y rfl rfl _).mono ?_
       rintro e w' ⟨rfl, rfl⟩
       try dsimp only
       refine hK.out _ _ (fun _ => hHeld) fun hHeld => ?_
       clear hK K
       try simp only [pU, pU0, pA, pB, pC]
       have hHeld := hHeld (by kernel_rfl)
       refine pu 39 ?_
       refine pu 40 ?_
       refine on 41 rfl fun K hK => ?_
       obtain ⟨s3, s4⟩ := HZS.out
       go_simp
       try dsimp only
       refine hK.out _ _ ?_ (fun hHeld => ?_)
       ·exact fun h => (st_no (by kernel_rfl) h).elim
       clear hK K
       try simp only [pU, pU0, pA, pB, pC]
       clear hHeld
       refine wpAnyG_done (by kernel_rfl) ?_ _
       refine NoPanic.normal ?_
       have h7 := H6.out.set HI.out HK.out (z ^^^ mul x y)
       rw [HZE.out.2.2.2] at h7
       have H7 := Lib.hid (h7.keep (nextN (Mem.start _) 1))
       clear h7 hHeld
       go_wp2_with fail
       go_roundw
       case rel =>
        refine ⟨j + 1, by simp, HJ.out, H7.out.congr fun x' _ y' _ => ?_⟩
        have h := rmulUp_step c a b i k j x' y'
        rw [HZE.out.1, HZE.out.2.1, HZE.out.2.2.1] at h
        exact h
       case measure => simp [intOf]; omega
      ·obtain rfl : j = c := by omega
       go_wp2_with fail
       go_roundw
       case rel => exact ⟨k + 1, by simp, HK.out, H6.out.congr fun x _ y _ => rmulUp_next j a b i k x y⟩
       case measure => simp [intOf]; omega
    ·obtain rfl : k = d := by omega
     go_wp2_with fail
     go_roundw
     case rel => exact ⟨i + 1, by simp, HI.out, H5.out.congr fun x _ y hy => rmulUp_row c a b i x y hy⟩
     case measure => simp [intOf]; omega
  ·obtain rfl : i = r := by omega
   obtain ⟨⟨c0, c1, c2⟩, _⟩ := H4.out.cells mm0
   obtain ⟨⟨d0, d1, d2⟩, f0, f1, f2⟩ := H4.out.cells mm1
   have hfin := H4.out.end_ mm1 (.int .i64 (i : Int)) (.int .i64 (d : Int)) (.slice (some ⟨g, 0, none⟩) (i * d) (i * d))
   go_wp2_with fail
   obtain ⟨h1, h2, e0, e1, e2⟩ := hfin
   refine bodyPost_ret (v := .tuple #[.agg #[.int .i64 (i : Int), .int .i64 (d : Int), .slice (some ⟨g, 0, none⟩) (i * d) (i * d)], .int .i64 0]) (by simp [results, Try.results19, go_sem, e0, e1, e2]) rfl ?_
   refine ⟨some ⟨g, 0, none⟩, i * d, rfl, Nat.le_refl _, ?_, h1⟩
   rw [flat_congr (m' := mulM c a b) fun x hx y _ => by unfold rmulUp; rw [if_pos (.inl hx)]] at h2
   exact h2
set_option maxRecDepth 100000 in
set_option maxHeartbeats 40000000 in
theorem rmul_ok0 (w : World) (r c d : Nat) (A A' : Option Addr) (n cap n' cap' : Nat) (a b : M) (hn : n = r * c) (hn' : n' = c * d) (hd : r ≤ 100 ∧ c ≤ 100 ∧ d ≤ 100) (hA : Bytes w w.heap.size A (flat r c a)) (hB : Bytes w w.heap.size A' (flat c d b)) (hz : r = 0) :
    Calls Try.prog 19 #[.agg #[.int .i64 (r : Int), .int .i64 (c : Int), .slice A n cap], .agg #[.int .i64 (c : Int), .int .i64 (d : Int), .slice A' n' cap']] w (NewT w r d (mulM c a b)) := by
 have HN := Lib.hid (show r ≤ 100 ∧ c ≤ 100 ∧ d ≤ 100 ∧ n = r * c ∧ n' = c * d from ⟨hd.1, hd.2.1, hd.2.2, hn, hn'⟩)
 have HRT := Lib.hid (show rightB (r : Int) (c : Int) n = true from right_dim ⟨hd.1, hd.2.1⟩ hn)
 have HRT2 := Lib.hid (show rightB (c : Int) (d : Int) n' = true from right_dim ⟨hd.2.1, hd.2.2⟩ hn')
 have HA := Lib.hid hA
 have HB := Lib.hid hB
 have hr1 : ¬ (0 : Int) < (r : Int) := by omega
 have HZ9 := Lib.hid hz
 have hr2 : ¬ 0 < r := by omega
 clear hz
 clear hn hn' hd hA hB
 have H0 := Lib.hid ((((BS.start w).put #[.int .i64 (r : Int), .int .i64 (c : Int), .slice A n cap] 38 (by decide)).put #[.int .i64 (c : Int), .int .i64 (d : Int), .slice A' n' cap'] 38 (by decide)).put #[.int .i64 0, .int .i64 0, .slice none 0 0] 38 (by decide))
 go_enter Try.func19, Try.ntmps19
 go_wp2_with fail
 generalize ((w.alloc (.cells #[.int .i64 (r : Int), .int .i64 (c : Int), .slice A n cap] 38)).alloc (.cells #[.int .i64 (c : Int), .int .i64 (d : Int), .slice A' n' cap'] 38)).alloc (.cells #[.int .i64 0, .int .i64 0, .slice none 0 0] 38) = w1 at *
 simp only [World.size_alloc] at H0
 obtain ⟨ga, hga⟩ : ∃ x, w.heap.size = x := ⟨_, rfl⟩
 obtain ⟨gb, hgb⟩ : ∃ x, ga + 1 = x := ⟨_, rfl⟩
 obtain ⟨g0, hg0⟩ : ∃ x, gb + 1 = x := ⟨_, rfl⟩
 rw [hga, hgb, hg0] at H0 ⊢
 have H1 := H0
 clear H0
 refine wp_region_noPanic ?_
 refine wp_heldG (fun w' => (w'.cell? ⟨ga, 0, none⟩ = some (.int .i64 (r : Int)) ∧ w'.cell? ⟨ga, 1, none⟩ = some (.int .i64 (c : Int)) ∧ w'.cell? ⟨ga, 2, none⟩ = some (.slice A n cap)) ∧ (w'.cell? ⟨gb, 0, none⟩ = some (.int .i64 (c : Int)) ∧ w'.cell? ⟨gb, 1, none⟩ = some (.int .i64 (d : Int)) ∧ w'.cell? ⟨gb, 2, none⟩ = some (.slice A' n' cap'))) [] (by kernel_rfl) ?hs0 ?rg0
 case hs0 =>
  have h := H1.out.keep (nextN (Mem.start w1) 1)
  exact ⟨(h.cells mm2).1, (h.cells mm1).1⟩
 case rg0 =>
 intro hHeld
 refine tk 0 rfl (by intro w hSw; obtain ⟨⟨k0, k1, k2⟩, ⟨l0, l1, l2⟩⟩ := hSw; go_simp; try with_reducible rfl) ?_
 refine on 1 rfl fun K hK => ?_
 have H2 := Lib.hid (show BS w _ w1.drew from H1.out.keep (nextN (Mem.start w1) 1))
 go_simp
 refine (rright_any _ _ _ A n cap).mono ?_
 rintro e w3 ⟨rfl, hb⟩
 rw [HRT.out]
 have H3 := Lib.hid (H2.out.keep hb)
 clear hb
 try dsimp only
 refine hK.out _ _ (fun _ => ⟨(H3.out.cells mm2).1, (H3.out.cells mm1).1⟩) fun hHeld => ?_
 clear hK K
 try simp only [pU, pU0, pA, pB, pC]
 have hHeld := hHeld (by kernel_rfl)
 refine pu 2 ?_
 refine pu 3 ?_
 refine tk 4 rfl (by intro w hSw; obtain ⟨⟨k0, k1, k2⟩, ⟨l0, l1, l2⟩⟩ := hSw; go_simp; try with_reducible rfl) ?_
 refine on 5 rfl fun K hK => ?_
 go_simp
 refine (rright_any _ _ _ A' n' cap').mono ?_
 rintro e w4 ⟨rfl, hb⟩
 rw [HRT2.out]
 have H4 := Lib.hid (H3.out.keep hb)
 clear hb
 try dsimp only
 refine hK.out _ _ (fun _ => ⟨(H4.out.cells mm2).1, (H4.out.cells mm1).1⟩) fun hHeld => ?_
 clear hK K
 try simp only [pU, pU0, pA, pB, pC]
 have hHeld := hHeld (by kernel_rfl)
 refine pu 6 ?_
 refine pu 7 ?_
 refine pu 8 ?_
 refine pu 9 ?_
 refine tk 10 rfl (by intro w hSw; obtain ⟨⟨k0, k1, k2⟩, ⟨l0, l1, l2⟩⟩ := hSw; go_simp; try with_reducible rfl) ?_
 refine pu 11 ?_
 refine tk 12 rfl (by intro w hSw; obtain ⟨⟨k0, k1, k2⟩, ⟨l0, l1, l2⟩⟩ := hSw; go_simp; try with_reducible rfl) ?_
 refine pu 13 ?_
 refine pu 14 ?_
 refine pu 15 ?_
 refine pu 16 ?_
 refine tk 17 rfl (by intro w hSw; obtain ⟨⟨k0, k1, k2⟩, ⟨l0, l1, l2⟩⟩ := hSw; go_simp; try with_reducible rfl) ?_
 refine pu 18 ?_
 refine pu 19 ?_
 refine ofK 20 ?_
 refine ofK 21 ?_
 refine ofK 22 ?_
 refine ofK 23 ?_
 refine ofK 24 ?_
 refine ofK 25 ?_
 refine pu 26 ?_
 refine pu 27 ?_
 refine wpAnyG_done (by kernel_rfl) ?_ _
 refine NoPanic.normal ?_
 clear hHeld
 obtain ⟨⟨a0, a1, a2⟩, _⟩ := H4.out.cells mm2
 obtain ⟨⟨b0, b1, b2⟩, _⟩ := H4.out.cells mm1
 go_wp2_with fail
 clear a0 a1 a2 b0 b1 b2
 have H1 := H4
 generalize w4 = w1 at *
 refine (rnone_any w1 (r) (d) (by have h1 : r * d ≤ 100 * 100 := Nat.mul_le_mul HN.out.1 HN.out.2.2.1; omega)).mono ?_
 rintro e w2 ⟨g, rfl, ho, hb⟩
 have H2 := Lib.hid (H1.out.none_ (g := g) (cap := r * d) (r := r) (c := d) (m := fun _ _ => 0) (show Wm w2 w.heap.size g (r * d) (r) (d) _ from ho.down H1.out.below.size) hb)
 clear ho hb 
 have H3 := Lib.hid (H2.out.put (mcells (r) (d) (some ⟨g, 0, none⟩) (r * d) (r * d)) 38 (by decide))
 go_wp2_with fail
 obtain ⟨gm, hgm⟩ : ∃ x, w2.heap.size = x := ⟨_, rfl⟩
 obtain ⟨w3, hw3⟩ : ∃ x : World, w2.alloc (.cells #[.int .i64 (r : Int), .int .i64 (d : Int), .slice (some ⟨g, 0, none⟩) (r * d) (r * d)] 38) = x := ⟨_, rfl⟩
 have hw3' : w2.alloc (.cells (mcells (r) (d) (some ⟨g, 0, none⟩) (r * d) (r * d)) 38) = w3 := hw3
 rw [hw3', hgm] at H3
 rw [hw3, hgm]
 clear hw3 hw3' hgm
 go_loopw [7] (fun i wr => ∃ i' : Nat, i = .int .i64 (i' : Int) ∧ i' ≤ r ∧ WS w [(gm, 38, mcells r d (some ⟨g, 0, none⟩) (r * d) (r * d)), (g0, 38, #[.int .i64 0, .int .i64 0, .slice none 0 0]), (gb, 38, mcells c d A' n' cap'), (ga, 38, mcells r c A n cap)] g (r * d) r d (rmulUp c a b i' 0 0) wr) (fun i _ => r - (intOf i).toNat)
 case atStart => exact ⟨0, rfl, Nat.zero_le _, H3.out.congr fun x _ y _ => by unfold rmulUp; rw [if_neg (by omega)]; split <;> rfl⟩
 case round =>
  obtain ⟨i, rfl, hi, h⟩ := hrel
  have H4 := Lib.hid h
  clear h H3
  obtain ⟨w4, rfl⟩ : ∃ w4 : World, w4 = wr := ⟨_, rfl⟩
  obtain ⟨⟨a0, a1, a2⟩, _⟩ := H4.out.cells mm3
  by_cases hir : i < r
  ·exact absurd hir (by have h9 := HZ9.out; omega)
  ·obtain rfl : i = r := by omega
   obtain ⟨⟨c0, c1, c2⟩, _⟩ := H4.out.cells mm0
   obtain ⟨⟨d0, d1, d2⟩, f0, f1, f2⟩ := H4.out.cells mm1
   have hfin := H4.out.end_ mm1 (.int .i64 (i : Int)) (.int .i64 (d : Int)) (.slice (some ⟨g, 0, none⟩) (i * d) (i * d))
   go_wp2_with fail
   obtain ⟨h1, h2, e0, e1, e2⟩ := hfin
   refine bodyPost_ret (v := .tuple #[.agg #[.int .i64 (i : Int), .int .i64 (d : Int), .slice (some ⟨g, 0, none⟩) (i * d) (i * d)], .int .i64 0]) (by simp [results, Try.results19, go_sem, e0, e1, e2]) rfl ?_
   refine ⟨some ⟨g, 0, none⟩, i * d, rfl, Nat.le_refl _, ?_, h1⟩
   rw [flat_congr (m' := mulM c a b) fun x hx y _ => by unfold rmulUp; rw [if_pos (.inl hx)]] at h2
   exact h2
theorem rmul_ok (w : World) (r c d : Nat) (A A' : Option Addr) (n cap n' cap' : Nat) (a b : M) (hn : n = r * c) (hn' : n' = c * d) (hd : r ≤ 100 ∧ c ≤ 100 ∧ d ≤ 100) (hA : Bytes w w.heap.size A (flat r c a)) (hB : Bytes w w.heap.size A' (flat c d b)) :
    Calls Try.prog 19 #[.agg #[.int .i64 (r : Int), .int .i64 (c : Int), .slice A n cap], .agg #[.int .i64 (c : Int), .int .i64 (d : Int), .slice A' n' cap']] w (NewT w r d (mulM c a b)) := by
 rcases Nat.eq_zero_or_pos r with h | h
 ·exact rmul_ok0 w r c d A A' n cap n' cap' a b hn hn' hd hA hB h
 ·exact rmul_ok1 w r c d A A' n cap n' cap' a b hn hn' hd hA hB h
end Go.Proofs.Ythdapoipfnnaeaa.MxW
/- The document's Reduced. -/
namespace Go.Proofs.Ythdapoipfnnaeaa.MxW
open Go.RowKit Go.Shelf Mem Gf FdW Mx Rng
open PlW (In)
set_option linter.unusedVariables false
set_option linter.unusedSectionVars false
attribute [local go_sem] Oper.semAt_some wide_fn

/-- The matrix that is being reduced, and in which columns its rows begin. -/
structure RdS (w0 : World) (Y : List (Nat × TypeId × Array Value)) (g r C : Nat) (m : M) (L : Option Addr) (cap t : Nat) (w : World) : Prop where
 ws : WS w0 Y g (r * C) r C m w
 bg : ∃ vs : List Value, vs.length = t ∧ Mem.Own w w0.heap.size 3 L cap vs
section
variable {w0 w w' : World} {Y : List (Nat × TypeId × Array Value)} {g r C : Nat} {m m' : M} {L : Option Addr} {cap t : Nat}
theorem RdS.keep (h : RdS w0 Y g r C m L cap t w) (hb : Below w.heap.size w w') : RdS w0 Y g r C m L cap t w' := ⟨h.ws.keep hb, h.bg.imp fun _ k => ⟨k.1, k.2.keep hb⟩⟩
theorem RdS.ne (h : RdS w0 Y g r C m L cap t w) : ∀ g', L = some ⟨g', 0, none⟩ → g' ≠ g := by
 obtain ⟨vs, _, ho⟩ := h.bg
 have hb := (own_blk h.ws.row (by rw [List.length_map, flat_len])).1
 exact fun g' e e2 => hb.ne_own ho (by decide) g' e e2
theorem RdS.set (h : RdS w0 Y g r C m L cap t w) {i k : Nat} (hi : i < r) (hk : k < C) (x : UInt8) : RdS w0 Y g r C (upd m i k x) L cap t (w.setCell ⟨g, i * C + k, none⟩ (.int .u8 (x.toNat : Int))) := by
 obtain ⟨vs, hv, ho⟩ := h.bg
 exact ⟨h.ws.set hi hk x, vs, hv, ho.set_far fun g' e => fun e2 => h.ne g' e e2.symm⟩
theorem RdS.congr (h : RdS w0 Y g r C m L cap t w) (hm : ∀ i, i < r → ∀ k, k < C → m i k = m' i k) : RdS w0 Y g r C m' L cap t w := ⟨h.ws.congr hm, h.bg⟩
theorem RdS.drew (h : RdS w0 Y g r C m L cap t w) : RdS w0 Y g r C m L cap t w.drew := h.keep (nextN (Mem.start w) 1)
theorem RdS.swap (h : RdS w0 Y g r C m L cap t w) (hr : Wm w' w0.heap.size g (r * C) r C m') (hf : Fr (fun k => k = g) w w') : RdS w0 Y g r C m' L cap t w' := by
 have hg := h.ws.row.form.1
 refine ⟨⟨h.ws.below.trans (hf.below h.ws.below.size fun k hk => by rw [hk]; exact hg), fun y hy => ⟨(h.ws.box y hy).1.fr hf fun e => ?_, (h.ws.box y hy).2⟩, hr⟩, ?_⟩
 ·exact (h.ws.box y hy).1.ne_own h.ws.row (h.ws.box y hy).2.1 g rfl e.symm
 ·obtain ⟨vs, hv, ho⟩ := h.bg
  exact ⟨vs, hv, Own.fr ho hf fun g' e => h.ne g' e⟩
end
theorem RdS.grow {w0 w w' : World} {Y : List (Nat × TypeId × Array Value)} {g r C : Nat} {m : M} {L L' : Option Addr} {cap cap' t t' : Nat} {vs vs' : List Value} (h : RdS w0 Y g r C m L cap t w) (hL : Mem.Own w w0.heap.size 3 L cap vs) (ho : Mem.Own w' w0.heap.size 3 L' cap' vs') (hb : Below w0.heap.size w w') (hg : w.grownBy w' (L.map (·.block))) (hv : vs'.length = t') : RdS w0 (Y.filter fun y => decide (y.2.1 ≠ 3)) g r C m L' cap' t' w' := by
 refine ⟨⟨h.ws.below.trans hb, fun y hy => ?_, ?_⟩, vs', hv, ho⟩
 ·obtain ⟨hy, hT⟩ := List.mem_filter.1 hy
  exact ⟨(h.ws.box y hy).1.app hL (of_decide_eq_true hT) hg, (h.ws.box y hy).2⟩
 ·refine Own.grown h.ws.row hg fun g' e e2 => ?_
  injection e with e
  have hgg := congrArg Addr.block e
  dsimp only at hgg
  subst hgg
  rcases hL.form with ⟨e3, _⟩ | ⟨g3, e3, _⟩
  ·rw [e3] at e2; cases e2
  ·rw [e3] at e2
   injection e2 with e2
   exact h.ne g3 e3 e2.symm
def copyUp (m : M) (C j : Nat) : M := fun x y => if x * C + y < j then m x y else 0
theorem copyUp_step {r C x y : Nat} (m : M) (hx : x < r) (hy : y < C) : ∀ i, i < r → ∀ k, k < C → upd (copyUp m C (x * C + y)) x y (m x y) i k = copyUp m C (x * C + y + 1) i k := by
 intro i hi k hk
 unfold upd copyUp
 by_cases h : i = x ∧ k = y
 ·obtain ⟨rfl, rfl⟩ := h
  rw [if_pos ⟨rfl, rfl⟩, if_pos (by omega)]
 ·rw [if_neg h]
  by_cases h2 : i * C + k < x * C + y
  ·rw [if_pos h2, if_pos (by omega)]
  ·rw [if_neg h2, if_neg]
   intro h3
   have e : i * C + k = x * C + y := by omega
   have e1 := congrArg (· / C) e
   have e2 := congrArg (· % C) e
   simp only [idx_div hk, idx_div hy, idx_mod hk, idx_mod hy] at e1 e2
   exact h ⟨e1, e2⟩
/-- Rows ahead of i reckoned, row i ahead of column k. -/
def el2 (t : Nat → UInt8) (A : M) (a i k : Nat) : M := fun x y => if x = i ∧ y < k then A x y ^^^ mul (A a y) (t x) else elimUp t A a i x y
theorem el2_step {t : Nat → UInt8} {A : M} {a i k : Nat} (hia : i ≠ a) (x y : Nat) : upd (el2 t A a i k) i k (el2 t A a i k i k ^^^ mul (t i) (el2 t A a i k a k)) x y = el2 t A a i (k + 1) x y := by
 have h1 : el2 t A a i k i k = A i k := by unfold el2; rw [if_neg (by omega), elimUp_ge _ _ _ (Nat.le_refl _)]
 have h2 : el2 t A a i k a k = A a k := by unfold el2; rw [if_neg (by omega), elimUp_at]
 rw [h1, h2]
 unfold upd
 by_cases h : x = i ∧ y = k
 ·obtain ⟨rfl, rfl⟩ := h
  rw [if_pos ⟨rfl, rfl⟩]
  unfold el2
  rw [if_pos ⟨rfl, by omega⟩, mul_comm]
 ·rw [if_neg h]
  unfold el2
  by_cases h3 : x = i ∧ y < k
  ·rw [if_pos h3, if_pos (by omega)]
  ·rw [if_neg h3, if_neg (by omega)]
theorem el2_done {t : Nat → UInt8} {A : M} {a i C : Nat} (hia : i ≠ a) (x y : Nat) (hy : y < C) : el2 t A a i C x y = elimUp t A a (i + 1) x y := by
 unfold el2
 by_cases h : x = i
 ·subst h
  rw [if_pos ⟨rfl, hy⟩]
  unfold elimUp elim
  rw [if_pos (by omega), if_neg hia]
 ·rw [if_neg (by omega)]
  unfold elimUp
  by_cases h2 : x < i
  ·rw [if_pos h2, if_pos (by omega)]
  ·rw [if_neg h2, if_neg (by omega)]
theorem el2_zero (t : Nat → UInt8) (A : M) (a i x y : Nat) : el2 t A a i 0 x y = elimUp t A a i x y := by unfold el2; rw [if_neg (by omega)]
def RRedOk (w : World) (r C : Nat) (m : M) (t : Nat) (e : Ending) (w' : World) : Prop := ∃ g L cap, e = .returned (.tuple #[.agg #[.int .i64 (r : Int), .int .i64 (C : Int), .slice (some ⟨g, 0, none⟩) (r * C) (r * C)], .slice L t cap]) ∧ Nw w.heap.size w' (some ⟨g, 0, none⟩) (flat r C m) ∧ Below w.heap.size w w'
theorem intinfo : (Try.prog.info? 3).map (fun i => (i.zero, i.size, i.bytes)) = some (some (.int .i64 0), 1, 8) := by kernel_rfl
theorem int_parts : ∃ i : TypeInfo, Try.prog.info? 3 = some i ∧ i.zero = some (.int .i64 0) ∧ i.size = 1 ∧ i.bytes = 8 := by
 have h := intinfo
 rcases hi : Try.prog.info? 3 with _ | i
 ·rw [hi] at h; cases h
 ·rw [hi] at h
  simp only [Option.map_some, Option.some.injEq, Prod.mk.injEq] at h
  exact ⟨i, rfl, h.1, h.2.1, h.2.2⟩
theorem Mx_buildI (W : World) (a : Int) : (Instr.buildSlice 48 1 #[(0, .int .i64 a)]).run Try.prog W = .ok (.slice (some ⟨W.heap.size, 0, none⟩) 1 1) (W.alloc (.cells #[.int .i64 a] 3)) := by kernel_rfl
set_option maxRecDepth 100000 in
set_option maxHeartbeats 40000000 in
theorem rreduced_any (w : World) (r C cols : Nat) (A : Option Addr) (n cap : Nat) (m : M) (hn : n = r * C) (hd : r ≤ 100 ∧ C ≤ 300) (hcols : cols ≤ C) (hA : Bytes w w.heap.size A (flat r C m)) :
    Calls Try.prog 54 #[.agg #[.int .i64 (r : Int), .int .i64 (C : Int), .slice A n cap], .int .i64 (cols : Int)] w (RRedOk w r C (redTo r m m cols).A (redTo r m m cols).at_) := by
 have HN := Lib.hid (And.intro hd.1 (And.intro hd.2 (And.intro hcols hn)))
 have HA := Lib.hid hA
 have H0 := Lib.hid (((BS.start w).put (mcells r C A n cap) 38 (by decide)).put #[.int .i64 0, .int .i64 0, .slice none 0 0] 38 (by decide))
 clear hA hn hd hcols
 go_enter Try.func54, Try.ntmps54
 obtain ⟨⟨a0, a1, a2⟩, _⟩ := H0.out.cells mm1
 go_wp2_with fail
 clear a0 a1 a2
 obtain ⟨w1, hw1⟩ : ∃ x : World, (w.alloc (.cells #[.int .i64 (r : Int), .int .i64 (C : Int), .slice A n cap] 38)).alloc (.cells #[.int .i64 0, .int .i64 0, .slice none 0 0] 38) = x := ⟨_, rfl⟩
 have hw1' : (w.alloc (.cells (mcells r C A n cap) 38)).alloc (.cells #[.int .i64 0, .int .i64 0, .slice none 0 0] 38) = w1 := hw1
 rw [hw1', World.size_alloc] at H0
 rw [hw1]
 clear hw1 hw1'
 obtain ⟨ga, hga⟩ : ∃ x, w.heap.size = x := ⟨_, rfl⟩
 obtain ⟨g0, hg0⟩ : ∃ x, ga + 1 = x := ⟨_, rfl⟩
 rw [hga, hg0] at H0 ⊢
 have H1 := H0
 clear H0
 refine (rnone_any w1 (r) (C) (by have h1 : r * C ≤ 100 * 300 := Nat.mul_le_mul HN.out.1 HN.out.2.1; omega)).mono ?_
 rintro e w2 ⟨g, rfl, ho, hb⟩
 have H2 := Lib.hid (H1.out.none_ (g := g) (cap := r * C) (r := r) (c := C) (m := fun _ _ => 0) (show Wm w2 w.heap.size g (r * C) (r) (C) _ from ho.down H1.out.below.size) hb)
 clear ho hb 
 have H3 := Lib.hid (H2.out.put (mcells (r) (C) (some ⟨g, 0, none⟩) (r * C) (r * C)) 38 (by decide))
 go_wp2_with fail
 obtain ⟨gm, hgm⟩ : ∃ x, w2.heap.size = x := ⟨_, rfl⟩
 obtain ⟨w3, hw3⟩ : ∃ x : World, w2.alloc (.cells #[.int .i64 (r : Int), .int .i64 (C : Int), .slice (some ⟨g, 0, none⟩) (r * C) (r * C)] 38) = x := ⟨_, rfl⟩
 have hw3' : w2.alloc (.cells (mcells (r) (C) (some ⟨g, 0, none⟩) (r * C) (r * C)) 38) = w3 := hw3
 rw [hw3', hgm] at H3
 rw [hw3, hgm]
 clear hw3 hw3' hgm
 go_loopw [7] (fun i wr => ∃ j : Nat, i = .int .i64 (j : Int) ∧ j ≤ r * C ∧ WS w [(gm, 38, mcells r C (some ⟨g, 0, none⟩) (r * C) (r * C)), (g0, 38, #[.int .i64 0, .int .i64 0, .slice none 0 0]), (ga, 38, mcells r C A n cap)] g (r * C) r C (copyUp m C j) wr) (fun i _ => r * C - (intOf i).toNat)
 case atStart => exact ⟨0, rfl, Nat.zero_le _, H3.out.congr fun x _ y _ => by unfold copyUp; rw [if_neg (Nat.not_lt_zero _)]⟩
 case round =>
  obtain ⟨j, rfl, hj, h⟩ := hrel
  have H4 := Lib.hid h
  clear h H3
  obtain ⟨w4, rfl⟩ : ∃ w4 : World, w4 = wr := ⟨_, rfl⟩
  obtain ⟨⟨a0, a1, a2⟩, _⟩ := H4.out.cells mm2
  by_cases hjn : j < r * C
  ·have hsz : r * C ≤ 100 * 300 := Nat.mul_le_mul HN.out.1 HN.out.2.1
   have hj1 : (j : Int) < (n : Int) := by have := HN.out.2.2.2; omega
   have hj0 : (0 : Int) ≤ (j : Int) := by omega
   have hj2 : (j : Int) < (r : Int) * (C : Int) := by rw [show (r : Int) * (C : Int) = ((r * C : Nat) : Int) by simp]; omega
   have hnj : IntKind.i64.wrap ((j : Int) + 1) = ((j + 1 : Nat) : Int) := by rw [IntWalk.i64_in _ (by omega)]; omega
   obtain ⟨i, k, hi, hk, hik⟩ := idx_of hjn
   have HIK := Lib.hid (And.intro hi (And.intro hk (And.intro hik hjn)))
   obtain ⟨ab, ao, eA, -, -⟩ := HA.out.at_ (k := j) (by rw [flat_len]; exact hjn)
   obtain ⟨x, hx⟩ : ∃ x, m i k = x := ⟨_, rfl⟩
   have HX := Lib.hid (show ∀ W : World, Below w.heap.size w W → W.cell? ⟨ab, ao + j, none⟩ = some (.int .u8 (x.toNat : Int)) from fun W hW => by
    obtain ⟨b', o', e', _, hc⟩ := (HA.out.below hW).at_ (k := j) (by rw [flat_len]; exact hjn)
    rw [eA] at e'; injection e' with e'; injection e' with e1 e2; subst e1; subst e2
    rw [hc]; simp only [hik, flat_getE hi hk, hx])
   subst eA
   have HXE := Lib.hid hx
   have H4D := Lib.hid (show WS w [(gm, 38, mcells r C (some ⟨g, 0, none⟩) (r * C) (r * C)), (g0, 38, #[.int .i64 0, .int .i64 0, .slice none 0 0]), (ga, 38, mcells r C (some ⟨ab, ao, none⟩) n cap)] g (r * C) r C (copyUp m C j) w4.drew from H4.out.keep (nextN (Mem.start w4) 1))
   have HC := Lib.hid (H4D.out.row.at2 hi hk hik.symm (x := copyUp m C j i k) rfl)
   clear hx hi hk hik hjn hsz
   go_wp2_with fail
   clear a0 a1 a2
   refine wp_region_noPanic ?_
   refine wp_heldG (fun w' => (w'.cell? ⟨gm, 0, none⟩ = some (.int .i64 (r : Int)) ∧ w'.cell? ⟨gm, 1, none⟩ = some (.int .i64 (C : Int)) ∧ w'.cell? ⟨gm, 2, none⟩ = some (.slice (some ⟨g, 0, none⟩) (r * C) (r * C))) ∧ (w'.cell? ⟨ga, 0, none⟩ = some (.int .i64 (r : Int)) ∧ w'.cell? ⟨ga, 1, none⟩ = some (.int .i64 (C : Int)) ∧ w'.cell? ⟨ga, 2, none⟩ = some (.slice (some ⟨ab, ao, none⟩) n cap)) ∧ w'.cell? ⟨ab, ao + j, none⟩ = some (.int .u8 (x.toNat : Int))) [9] (by kernel_rfl) ?hs0 ?rg0
   case hs0 =>
    exact ⟨(H4D.out.cells mm0).1, (H4D.out.cells mm2).1, HX.out _ H4D.out.below⟩
   case rg0 =>
   intro hHeld
   refine pu 0 ?_
   refine tk 1 rfl (by intro w hSw; obtain ⟨⟨k0, k1, k2⟩, ⟨l0, l1, l2⟩, t0⟩ := hSw; go_simp; try with_reducible rfl) ?_
   refine pu 2 ?_
   refine pu 3 ?_
   refine tk 4 rfl (by intro w hSw; obtain ⟨⟨k0, k1, k2⟩, ⟨l0, l1, l2⟩, t0⟩ := hSw; go_simp; try with_reducible rfl) ?_
   refine pu 5 ?_
   refine pu 6 ?_
   refine tk 7 rfl (by intro w hSw; obtain ⟨⟨k0, k1, k2⟩, ⟨l0, l1, l2⟩, t0⟩ := hSw; go_simp; try with_reducible rfl) ?_
   refine pu 8 ?_
   refine on 9 rfl fun K hK => ?_
   obtain ⟨s3, s4⟩ := HC.out
   go_simp
   try dsimp only
   refine hK.out _ _ ?_ (fun hHeld => ?_)
   ·exact fun h => (st_no (by kernel_rfl) h).elim
   clear hK K
   try simp only [pU, pU0, pA, pB, pC]
   clear hHeld
   refine wpAnyG_done (by kernel_rfl) ?_ _
   refine NoPanic.normal ?_
   clear hHeld
   have h5 := H4.out.set HIK.out.1 HIK.out.2.1 x
   rw [← HIK.out.2.2.1] at h5
   have H5 := Lib.hid (h5.keep (nextN (Mem.start _) 1))
   clear h5
   go_wp2_with fail
   go_roundw
   case rel =>
    refine ⟨j + 1, by simp, HIK.out.2.2.2, H5.out.congr fun a ha b hb => ?_⟩
    have h := copyUp_step m HIK.out.1 HIK.out.2.1 a ha b hb
    rw [HXE.out, ← HIK.out.2.2.1] at h
    exact h
   case measure => simp [intOf]; omega
  ·obtain rfl : j = r * C := by omega
   have hjx : ¬ ((r * C : Nat) : Int) < (n : Int) := by have := HN.out.2.2.2; omega
   have H5 := Lib.hid (show RdS w [(gm, 38, mcells r C (some ⟨g, 0, none⟩) (r * C) (r * C)), (g0, 38, #[.int .i64 0, .int .i64 0, .slice none 0 0]), (ga, 38, mcells r C A n cap)] g r C ((redTo r m m 0).A) none 0 ((redTo r m m 0).at_) w4 from ⟨H4.out.congr fun x hx y hy => by unfold copyUp; rw [if_pos (idx_lt hx hy)]; rfl, [], rfl, Mem.Own.nil⟩)
   clear H4
   go_wp2_with fail
   clear a0 a1 a2
   go_loopw [8, 9] (fun b c wr => ∃ (k : Nat) (L : Option Addr) (capL : Nat), c = .int .i64 (k : Int) ∧ b = .slice L (redTo r m m k).at_ capL ∧ k ≤ cols ∧ RdS w [(gm, 38, mcells r C (some ⟨g, 0, none⟩) (r * C) (r * C)), (g0, 38, #[.int .i64 0, .int .i64 0, .slice none 0 0]), (ga, 38, mcells r C A n cap)] g r C ((redTo r m m k).A) L capL ((redTo r m m k).at_) wr) (fun _ c _ => cols - (intOf c).toNat)
   case atStart => exact ⟨0, none, 0, rfl, rfl, Nat.zero_le _, H5.out⟩
   case round =>
    obtain ⟨k, L, capL, rfl, rfl, hk, h⟩ := hrel
    have H6 := Lib.hid h
    clear h H5
    obtain ⟨w6, rfl⟩ : ∃ w6 : World, w6 = wr := ⟨_, rfl⟩
    by_cases hkc : k < cols
    ·have hk1 : (k : Int) < (cols : Int) := by omega
     have HK := Lib.hid hkc
     have HKC := Lib.hid (show k < C from by have := HN.out.2.2.1; omega)
     have hnk : IntKind.i64.wrap ((k : Int) + 1) = ((k + 1 : Nat) : Int) := by have h9 := HN.out; rw [IntWalk.i64_in _ (by omega)]; omega
     have hat9 := redTo_at (A := m) (B := m) (r := r) k
     obtain ⟨s, hs⟩ : ∃ s, redTo r m m k = s := ⟨_, rfl⟩
     have HST := Lib.hid (show redTo r m m (k + 1) = redStep r k s from by rw [← hs]; rfl)
     rw [hs] at H6 hat9 ⊢
     clear hs
     obtain ⟨at_, hat⟩ : ∃ a, s.at_ = a := ⟨_, rfl⟩
     have HAE := Lib.hid hat
     rw [hat] at H6 hat9 ⊢
     clear hat
     have HAT := Lib.hid hat9
     clear hk hkc hat9
     go_wp2_with fail
     go_loopw [11] (fun fr wr => ∃ f : Nat, fr = .int .i64 (f : Int) ∧ at_ ≤ f ∧ f ≤ r ∧ (∀ j, at_ ≤ j → j < f → s.A j k = 0) ∧ w6 = wr) (fun fr _ => r - (intOf fr).toNat)
     case atStart => exact ⟨at_, rfl, Nat.le_refl _, HAT.out.1, fun j h1 h2 => absurd h2 (by omega), rfl⟩
     case round =>
      obtain ⟨f, rfl, hf1, hf2, hz, rfl⟩ := hrel
      obtain ⟨⟨a0, a1, a2⟩, _⟩ := H6.out.ws.cells mm0
      by_cases hfr : f < r
      ·have hf3 : (f : Int) < (r : Int) := by omega
       have hnf : IntKind.i64.wrap ((f : Int) + 1) = ((f + 1 : Nat) : Int) := by have h9 := HN.out; rw [IntWalk.i64_in _ (by omega)]; omega
       have hpl1 := idx_lt (c := C) hfr HKC.out
       obtain ⟨p1, hp1⟩ : ∃ p, f * C + k = p := ⟨_, rfl⟩
       have HP1 := Lib.hid hp1
       have hsz1 : r * C ≤ 100 * 300 := Nat.mul_le_mul HN.out.1 HN.out.2.1
       have hwa1 : IntKind.i64.wrap ((f : Int) * (C : Int)) = ((f * C : Nat) : Int) := by rw [show (f : Int) * (C : Int) = ((f * C : Nat) : Int) by simp, IntWalk.i64_in _ (by omega)]
       obtain ⟨q1, hq1⟩ : ∃ q, f * C = q := ⟨_, rfl⟩
       rw [hq1] at hwa1 hp1 hpl1
       have hwb1 : IntKind.i64.wrap ((q1 : Int) + (k : Int)) = (p1 : Int) := by rw [IntWalk.i64_in _ (by omega)]; omega
       have hp01 : (0 : Int) ≤ (p1 : Int) := by omega
       have hp21 : (p1 : Int) < (r : Int) * (C : Int) := by rw [show (r : Int) * (C : Int) = ((r * C : Nat) : Int) by simp]; omega
       clear hpl1 hsz1 hq1 hp1
       obtain ⟨x, hx⟩ : ∃ x, s.A f k = x := ⟨_, rfl⟩
       obtain ⟨e0, e1⟩ := H6.out.ws.row.at2 hfr HKC.out HP1.out hx
       by_cases hx0 : x = 0
       ·have hxz : (((x.toNat : Nat) : Int) == 0) = true := by rw [hx0]; rfl
        have HZR := Lib.hid (show ∀ j, at_ ≤ j → j < f + 1 → s.A j k = 0 from fun j h1 h2 => by
         by_cases e : j = f
         ·rw [e, hx, hx0]
         ·exact hz j h1 (by omega))
        have HF2 := Lib.hid (And.intro hf1 hfr)
        clear hz hx hx0
        go_wp2_with fail
        go_roundw
        case rel => exact ⟨f + 1, by simp, by have := HF2.out; omega, HF2.out.2, HZR.out, trivial⟩
        case measure => simp [intOf]; omega
       ·have hxz : (((x.toNat : Nat) : Int) == 0) = false := u8_zero_no hx0
        have hfe : ((f : Int) == (r : Int)) = false := by simp; omega
        have HFI := Lib.hid (find_is (A := s.A) (r := r) (k := k) hf1 hz (fun _ => by rw [hx]; exact hx0) (Nat.le_of_lt hfr))
        have HFR := Lib.hid hfr
        have HAR := Lib.hid (show at_ < r from by omega)
        have HXE := Lib.hid hx
        have HX0 := Lib.hid hx0
        clear hz hx hx0 hf1 hf2 hfr
        go_wp2_with fail
        clear a0 a1 a2 e0 e1
        refine (swap_any w6 w.heap.size g r C s.A at_ f HAR.out HFR.out ⟨HN.out.1, HN.out.2.1⟩ H6.out.ws.row).mono ?_
        rintro e w7 ⟨rfl, hrow, hfr7⟩
        have H7 := Lib.hid (H6.out.swap hrow hfr7)
        clear hrow hfr7
        clear hwa1 hwb1 hp01 hp21
        obtain ⟨⟨a0, a1, a2⟩, _⟩ := H7.out.ws.cells mm0
        have hpl2 := idx_lt (c := C) HAR.out HKC.out
        obtain ⟨p2, hp2⟩ : ∃ p, at_ * C + k = p := ⟨_, rfl⟩
        have HP2 := Lib.hid hp2
        have hsz2 : r * C ≤ 100 * 300 := Nat.mul_le_mul HN.out.1 HN.out.2.1
        have hwa2 : IntKind.i64.wrap ((at_ : Int) * (C : Int)) = ((at_ * C : Nat) : Int) := by rw [show (at_ : Int) * (C : Int) = ((at_ * C : Nat) : Int) by simp, IntWalk.i64_in _ (by omega)]
        obtain ⟨q2, hq2⟩ : ∃ q, at_ * C = q := ⟨_, rfl⟩
        rw [hq2] at hwa2 hp2 hpl2
        have hwb2 : IntKind.i64.wrap ((q2 : Int) + (k : Int)) = (p2 : Int) := by rw [IntWalk.i64_in _ (by omega)]; omega
        have hp02 : (0 : Int) ≤ (p2 : Int) := by omega
        have hp22 : (p2 : Int) < (r : Int) * (C : Int) := by rw [show (r : Int) * (C : Int) = ((r * C : Nat) : Int) by simp]; omega
        clear hpl2 hsz2 hq2 hp2
        obtain ⟨e0, e1⟩ := H7.out.ws.row.at2 HAR.out HKC.out HP2.out (show (swapM s.A at_ f) at_ k = x from by unfold swapM; rw [if_pos rfl]; exact HXE.out)
        go_wp2_with fail
        clear a0 a1 a2 e0 e1
        refine (refInv_any _ x rfl _).mono ?_
        rintro e w' ⟨rfl, rfl⟩
        obtain ⟨v, hv⟩ : ∃ v, inv x = v := ⟨_, rfl⟩
        rw [hv]
        have HV := Lib.hid (show inv (s.A f k) = v from by rw [HXE.out]; exact hv)
        clear hv
        clear hwa2 hwb2 hp02 hp22
        go_wp2_with fail
        go_loopw [14] (fun j wr => ∃ j' : Nat, j = .int .i64 (j' : Int) ∧ j' ≤ C ∧ RdS w [(gm, 38, mcells r C (some ⟨g, 0, none⟩) (r * C) (r * C)), (g0, 38, #[.int .i64 0, .int .i64 0, .slice none 0 0]), (ga, 38, mcells r C A n cap)] g r C (scaleUp (swapM s.A at_ f) at_ v j') L capL (at_) wr) (fun j _ => C - (intOf j).toNat)
        case atStart => exact ⟨0, rfl, Nat.zero_le _, H7.out.congr fun a _ b _ => by unfold scaleUp; rw [if_neg (by omega)]⟩
        case round =>
         clear H7
         obtain ⟨j, rfl, hj, h⟩ := hrel
         have H8 := Lib.hid h
         clear h
         obtain ⟨w8, rfl⟩ : ∃ w8 : World, w8 = wr := ⟨_, rfl⟩
         obtain ⟨⟨a0, a1, a2⟩, _⟩ := H8.out.ws.cells mm0
         by_cases hjC : j < C
         ·have hj1 : (j : Int) < (C : Int) := by omega
          have HJ := Lib.hid hjC
          have hnj : IntKind.i64.wrap ((j : Int) + 1) = ((j + 1 : Nat) : Int) := by have h9 := HN.out; rw [IntWalk.i64_in _ (by omega)]; omega
          have hpl3 := idx_lt (c := C) HAR.out HJ.out
          obtain ⟨p3, hp3⟩ : ∃ p, at_ * C + j = p := ⟨_, rfl⟩
          have HP3 := Lib.hid hp3
          have hsz3 : r * C ≤ 100 * 300 := Nat.mul_le_mul HN.out.1 HN.out.2.1
          have hwa3 : IntKind.i64.wrap ((at_ : Int) * (C : Int)) = ((at_ * C : Nat) : Int) := by rw [show (at_ : Int) * (C : Int) = ((at_ * C : Nat) : Int) by simp, IntWalk.i64_in _ (by omega)]
          obtain ⟨q3, hq3⟩ : ∃ q, at_ * C = q := ⟨_, rfl⟩
          rw [hq3] at hwa3 hp3 hpl3
          have hwb3 : IntKind.i64.wrap ((q3 : Int) + (j : Int)) = (p3 : Int) := by rw [IntWalk.i64_in _ (by omega)]; omega
          have hp03 : (0 : Int) ≤ (p3 : Int) := by omega
          have hp23 : (p3 : Int) < (r : Int) * (C : Int) := by rw [show (r : Int) * (C : Int) = ((r * C : Nat) : Int) by simp]; omega
          clear hpl3 hsz3 hq3 hp3
          obtain ⟨y, hy⟩ : ∃ y, (swapM s.A at_ f) at_ j = y := ⟨_, rfl⟩
          have HJD := Lib.hid H8.out.drew
          have HY := Lib.hid (HJD.out.ws.row.at2 HAR.out HJ.out HP3.out (show scaleUp (swapM s.A at_ f) at_ v j at_ j = y from by unfold scaleUp; rw [if_neg (by omega)]; exact hy))
          have HYE := Lib.hid hy
          clear hy
          go_wp2_with fail
          clear a0 a1 a2
          refine wp_region_noPanic ?_
          refine wp_heldG (fun w' => (w'.cell? ⟨gm, 0, none⟩ = some (.int .i64 (r : Int)) ∧ w'.cell? ⟨gm, 1, none⟩ = some (.int .i64 (C : Int)) ∧ w'.cell? ⟨gm, 2, none⟩ = some (.slice (some ⟨g, 0, none⟩) (r * C) (r * C))) ∧ w'.cell? ⟨g, p3, none⟩ = some (.int .u8 (y.toNat : Int))) [21] (by kernel_rfl) ?hs0 ?rg0
          case hs0 =>
           exact ⟨(HJD.out.ws.cells mm0).1, HY.out.1⟩
          case rg0 =>
          intro hHeld
          refine pu 0 ?_
          refine tk 1 rfl (by intro w hSw; obtain ⟨⟨k0, k1, k2⟩, t0⟩ := hSw; go_simp; try with_reducible rfl) ?_
          refine pu 2 ?_
          refine pu 3 ?_
          refine tk 4 rfl (by intro w hSw; obtain ⟨⟨k0, k1, k2⟩, t0⟩ := hSw; go_simp; try with_reducible rfl) ?_
          refine pu 5 ?_
          refine pu 6 ?_
          refine pu 7 ?_
          refine pu 8 ?_
          refine tk 9 rfl (by intro w hSw; obtain ⟨⟨k0, k1, k2⟩, t0⟩ := hSw; go_simp; try with_reducible rfl) ?_
          refine pu 10 ?_
          refine pu 11 ?_
          refine tk 12 rfl (by intro w hSw; obtain ⟨⟨k0, k1, k2⟩, t0⟩ := hSw; go_simp; try with_reducible rfl) ?_
          refine pu 13 ?_
          refine pu 14 ?_
          refine pu 15 ?_
          refine pu 16 ?_
          refine tk 17 rfl (by intro w hSw; obtain ⟨⟨k0, k1, k2⟩, t0⟩ := hSw; go_simp; try with_reducible rfl) ?_
          refine pu 18 ?_
          refine on 19 rfl fun K hK => ?_
          go_simp
          refine (refMul_any _ _ y v rfl rfl _).mono ?_
          rintro e w' ⟨rfl, rfl⟩
          try dsimp only
          refine hK.out _ _ (fun _ => hHeld) fun hHeld => ?_
          clear hK K
          try simp only [pU, pU0, pA, pB, pC]
          have hHeld := hHeld (by kernel_rfl)
          refine pu 20 ?_
          refine on 21 rfl fun K hK => ?_
          obtain ⟨s3, s4⟩ := HY.out
          go_simp
          try dsimp only
          refine hK.out _ _ ?_ (fun hHeld => ?_)
          ·exact fun h => (st_no (by kernel_rfl) h).elim
          clear hK K
          try simp only [pU, pU0, pA, pB, pC]
          clear hHeld
          refine wpAnyG_done (by kernel_rfl) ?_ _
          refine NoPanic.normal ?_
          clear hHeld
          have h7 := H8.out.set HAR.out HJ.out (mul y v)
          rw [HP3.out] at h7
          have H9 := Lib.hid (h7.keep (nextN (Mem.start _) 1))
          clear h7
          go_wp2_with fail
          go_roundw
          case rel =>
           refine ⟨j + 1, by simp, HJ.out, H9.out.congr fun a _ b _ => ?_⟩
           have h := scaleUp_step (swapM s.A at_ f) at_ v j a b
           rw [HYE.out] at h
           exact h
          case measure => simp [intOf]; omega
         ·obtain rfl : C = j := by omega
          have H9 := Lib.hid (H8.out.congr (m' := scaleM (swapM s.A at_ f) at_ v) fun a _ b hb => by
           unfold scaleUp scaleM
           by_cases e : a = at_
           ·rw [if_pos ⟨e, hb⟩, if_pos e]
           ·rw [if_neg (fun h => e h.1), if_neg e])
          go_wp2_with fail
          clear a0 a1 a2
          go_loopw [15] (fun i wr => ∃ i' : Nat, i = .int .i64 (i' : Int) ∧ i' ≤ r ∧ RdS w [(gm, 38, mcells r C (some ⟨g, 0, none⟩) (r * C) (r * C)), (g0, 38, #[.int .i64 0, .int .i64 0, .slice none 0 0]), (ga, 38, mcells r C A n cap)] g r C (elimUp (fun i => (scaleM (swapM s.A at_ f) at_ v) i k) (scaleM (swapM s.A at_ f) at_ v) at_ i') L capL (at_) wr) (fun i _ => r - (intOf i).toNat)
          case atStart => exact ⟨0, rfl, Nat.zero_le _, H9.out.congr fun a _ b _ => (elimUp_ge _ _ _ (Nat.zero_le a) b).symm⟩
          case round =>
           clear H8 H9
           obtain ⟨i, rfl, hi, h⟩ := hrel
           have H9 := Lib.hid h
           clear h
           obtain ⟨w9, rfl⟩ : ∃ w9 : World, w9 = wr := ⟨_, rfl⟩
           obtain ⟨⟨a0, a1, a2⟩, _⟩ := H9.out.ws.cells mm0
           by_cases hir : i < r
           ·have hi1 : (i : Int) < (r : Int) := by omega
            have HI := Lib.hid hir
            have hni : IntKind.i64.wrap ((i : Int) + 1) = ((i + 1 : Nat) : Int) := by have h9 := HN.out; rw [IntWalk.i64_in _ (by omega)]; omega
            have hpl4 := idx_lt (c := C) HI.out HKC.out
            obtain ⟨p4, hp4⟩ : ∃ p, i * C + k = p := ⟨_, rfl⟩
            have HP4 := Lib.hid hp4
            have hsz4 : r * C ≤ 100 * 300 := Nat.mul_le_mul HN.out.1 HN.out.2.1
            have hwa4 : IntKind.i64.wrap ((i : Int) * (C : Int)) = ((i * C : Nat) : Int) := by rw [show (i : Int) * (C : Int) = ((i * C : Nat) : Int) by simp, IntWalk.i64_in _ (by omega)]
            obtain ⟨q4, hq4⟩ : ∃ q, i * C = q := ⟨_, rfl⟩
            rw [hq4] at hwa4 hp4 hpl4
            have hwb4 : IntKind.i64.wrap ((q4 : Int) + (k : Int)) = (p4 : Int) := by rw [IntWalk.i64_in _ (by omega)]; omega
            have hp04 : (0 : Int) ≤ (p4 : Int) := by omega
            have hp24 : (p4 : Int) < (r : Int) * (C : Int) := by rw [show (r : Int) * (C : Int) = ((r * C : Nat) : Int) by simp]; omega
            clear hpl4 hsz4 hq4 hp4
            obtain ⟨z, hz⟩ : ∃ z, (scaleM (swapM s.A at_ f) at_ v) i k = z := ⟨_, rfl⟩
            have HZ := Lib.hid hz
            obtain ⟨e0, e1⟩ := H9.out.ws.row.at2 HI.out HKC.out HP4.out (show elimUp (fun i => (scaleM (swapM s.A at_ f) at_ v) i k) (scaleM (swapM s.A at_ f) at_ v) at_ i i k = z from by rw [elimUp_ge _ _ _ (Nat.le_refl _)]; exact hz)
            clear hz
            by_cases hia : i = at_
            ·subst hia
             have hie : ((i : Int) != (i : Int)) = false := by simp
             have hC0 : (0 : Int) < (C : Int) := by have := HKC.out; omega
             go_wp2_with fail
             clear a0 a1 a2 e0 e1
             clear hwa4 hwb4 hp04 hp24
             go_loopw [17] (fun y wr => y = .int .i64 0 ∧ w9 = wr) (fun y _ => 0)
             case atStart => exact ⟨rfl, rfl⟩
             case round =>
              obtain ⟨rfl, rfl⟩ := hrel
              obtain ⟨⟨a0, a1, a2⟩, _⟩ := H9.out.ws.cells mm0
              go_wp2_with fail
              go_roundw
              case rel => exact ⟨i + 1, by simp, HI.out, H9.out.congr fun a _ b _ => elimUp_skip _ _ i a b⟩
              case measure => simp [intOf]; omega
            ·have HIA := Lib.hid hia
             have hie : ((i : Int) != (at_ : Int)) = true := by rw [bne_iff_ne]; omega
             go_wp2_with fail
             clear a0 a1 a2 e0 e1
             clear hwa4 hwb4 hp04 hp24
             go_loopw [17] (fun y wr => ∃ j : Nat, y = .int .i64 (j : Int) ∧ j ≤ C ∧ RdS w [(gm, 38, mcells r C (some ⟨g, 0, none⟩) (r * C) (r * C)), (g0, 38, #[.int .i64 0, .int .i64 0, .slice none 0 0]), (ga, 38, mcells r C A n cap)] g r C (el2 (fun i => (scaleM (swapM s.A at_ f) at_ v) i k) (scaleM (swapM s.A at_ f) at_ v) at_ i j) L capL (at_) wr) (fun y _ => C - (intOf y).toNat)
             case atStart => exact ⟨0, rfl, Nat.zero_le _, H9.out.congr fun a _ b _ => (el2_zero _ _ _ _ a b).symm⟩
             case round =>
              obtain ⟨j, rfl, hj, h⟩ := hrel
              have HE := Lib.hid h
              clear h
              obtain ⟨we, rfl⟩ : ∃ we : World, we = wr := ⟨_, rfl⟩
              obtain ⟨⟨a0, a1, a2⟩, _⟩ := HE.out.ws.cells mm0
              by_cases hjC : j < C
              ·have hj1 : (j : Int) < (C : Int) := by omega
               have HJ := Lib.hid hjC
               have hnj : IntKind.i64.wrap ((j : Int) + 1) = ((j + 1 : Nat) : Int) := by have h9 := HN.out; rw [IntWalk.i64_in _ (by omega)]; omega
               have hpl5 := idx_lt (c := C) HI.out HJ.out
               obtain ⟨p5, hp5⟩ : ∃ p, i * C + j = p := ⟨_, rfl⟩
               have HP5 := Lib.hid hp5
               have hsz5 : r * C ≤ 100 * 300 := Nat.mul_le_mul HN.out.1 HN.out.2.1
               have hwa5 : IntKind.i64.wrap ((i : Int) * (C : Int)) = ((i * C : Nat) : Int) := by rw [show (i : Int) * (C : Int) = ((i * C : Nat) : Int) by simp, IntWalk.i64_in _ (by omega)]
               obtain ⟨q5, hq5⟩ : ∃ q, i * C = q := ⟨_, rfl⟩
               rw [hq5] at hwa5 hp5 hpl5
               have hwb5 : IntKind.i64.wrap ((q5 : Int) + (j : Int)) = (p5 : Int) := by rw [IntWalk.i64_in _ (by omega)]; omega
               have hp05 : (0 : Int) ≤ (p5 : Int) := by omega
               have hp25 : (p5 : Int) < (r : Int) * (C : Int) := by rw [show (r : Int) * (C : Int) = ((r * C : Nat) : Int) by simp]; omega
               clear hpl5 hsz5 hq5 hp5
               have hpl6 := idx_lt (c := C) HAR.out HJ.out
               obtain ⟨p6, hp6⟩ : ∃ p, at_ * C + j = p := ⟨_, rfl⟩
               have HP6 := Lib.hid hp6
               have hsz6 : r * C ≤ 100 * 300 := Nat.mul_le_mul HN.out.1 HN.out.2.1
               have hwa6 : IntKind.i64.wrap ((at_ : Int) * (C : Int)) = ((at_ * C : Nat) : Int) := by rw [show (at_ : Int) * (C : Int) = ((at_ * C : Nat) : Int) by simp, IntWalk.i64_in _ (by omega)]
               obtain ⟨q6, hq6⟩ : ∃ q, at_ * C = q := ⟨_, rfl⟩
               rw [hq6] at hwa6 hp6 hpl6
               have hwb6 : IntKind.i64.wrap ((q6 : Int) + (j : Int)) = (p6 : Int) := by rw [IntWalk.i64_in _ (by omega)]; omega
               have hp06 : (0 : Int) ≤ (p6 : Int) := by omega
               have hp26 : (p6 : Int) < (r : Int) * (C : Int) := by rw [show (r : Int) * (C : Int) = ((r * C : Nat) : Int) by simp]; omega
               clear hpl6 hsz6 hq6 hp6
               obtain ⟨x5, hx5⟩ : ∃ x, el2 (fun i => (scaleM (swapM s.A at_ f) at_ v) i k) (scaleM (swapM s.A at_ f) at_ v) at_ i j i j = x := ⟨_, rfl⟩
               obtain ⟨x6, hx6⟩ : ∃ x, el2 (fun i => (scaleM (swapM s.A at_ f) at_ v) i k) (scaleM (swapM s.A at_ f) at_ v) at_ i j at_ j = x := ⟨_, rfl⟩
               have HED := Lib.hid HE.out.drew
               have HX5 := Lib.hid (HED.out.ws.row.at2 HI.out HJ.out HP5.out hx5)
               have HX6 := Lib.hid (HED.out.ws.row.at2 HAR.out HJ.out HP6.out hx6)
               have HXE := Lib.hid (And.intro hx5 hx6)
               have hxor := Mx_xor8 x5 (mul z x6)
               clear hx5 hx6
               go_wp2_with fail
               clear a0 a1 a2
               refine wp_region_noPanic ?_
               refine wp_heldG (fun w' => (w'.cell? ⟨gm, 0, none⟩ = some (.int .i64 (r : Int)) ∧ w'.cell? ⟨gm, 1, none⟩ = some (.int .i64 (C : Int)) ∧ w'.cell? ⟨gm, 2, none⟩ = some (.slice (some ⟨g, 0, none⟩) (r * C) (r * C))) ∧ w'.cell? ⟨g, p5, none⟩ = some (.int .u8 (x5.toNat : Int)) ∧ w'.cell? ⟨g, p6, none⟩ = some (.int .u8 (x6.toNat : Int))) [32] (by kernel_rfl) ?hs0 ?rg0
               case hs0 =>
                exact ⟨(HED.out.ws.cells mm0).1, HX5.out.1, HX6.out.1⟩
               case rg0 =>
               intro hHeld
               refine pu 0 ?_
               refine tk 1 rfl (by intro w hSw; obtain ⟨⟨k0, k1, k2⟩, t0, t1⟩ := hSw; go_simp; try with_reducible rfl) ?_
               refine pu 2 ?_
               refine pu 3 ?_
               refine tk 4 rfl (by intro w hSw; obtain ⟨⟨k0, k1, k2⟩, t0, t1⟩ := hSw; go_simp; try with_reducible rfl) ?_
               refine pu 5 ?_
               refine pu 6 ?_
               refine pu 7 ?_
               refine pu 8 ?_
               refine tk 9 rfl (by intro w hSw; obtain ⟨⟨k0, k1, k2⟩, t0, t1⟩ := hSw; go_simp; try with_reducible rfl) ?_
               refine pu 10 ?_
               refine pu 11 ?_
               refine tk 12 rfl (by intro w hSw; obtain ⟨⟨k0, k1, k2⟩, t0, t1⟩ := hSw; go_simp; try with_reducible rfl) ?_
               refine pu 13 ?_
               refine pu 14 ?_
               refine pu 15 ?_
               refine pu 16 ?_
               refine tk 17 rfl (by intro w hSw; obtain ⟨⟨k0, k1, k2⟩, t0, t1⟩ := hSw; go_simp; try with_reducible rfl) ?_
               refine pu 18 ?_
               refine pu 19 ?_
               refine tk 20 rfl (by intro w hSw; obtain ⟨⟨k0, k1, k2⟩, t0, t1⟩ := hSw; go_simp; try with_reducible rfl) ?_
               refine pu 21 ?_
               refine pu 22 ?_
               refine tk 23 rfl (by intro w hSw; obtain ⟨⟨k0, k1, k2⟩, t0, t1⟩ := hSw; go_simp; try with_reducible rfl) ?_
               refine pu 24 ?_
               refine pu 25 ?_
               refine pu 26 ?_
               refine pu 27 ?_
               refine tk 28 rfl (by intro w hSw; obtain ⟨⟨k0, k1, k2⟩, t0, t1⟩ := hSw; go_simp; try with_reducible rfl) ?_
               refine on 29 rfl fun K hK => ?_
               go_simp
               refine (refMul_any _ _ z x6 rfl rfl _).mono ?_
               rintro e w' ⟨rfl, rfl⟩
               try dsimp only
               refine hK.out _ _ (fun _ => hHeld) fun hHeld => ?_
               clear hK K
               try simp only [pU, pU0, pA, pB, pC]
               have hHeld := hHeld (by kernel_rfl)
               refine pu 30 ?_
               refine pu 31 ?_
               refine on 32 rfl fun K hK => ?_
               obtain ⟨s3, s4⟩ := HX5.out
               go_simp
               try dsimp only
               refine hK.out _ _ ?_ (fun hHeld => ?_)
               ·exact fun h => (st_no (by kernel_rfl) h).elim
               clear hK K
               try simp only [pU, pU0, pA, pB, pC]
               clear hHeld
               refine wpAnyG_done (by kernel_rfl) ?_ _
               refine NoPanic.normal ?_
               clear hHeld
               have h7 := HE.out.set HI.out HJ.out (x5 ^^^ mul z x6)
               rw [HP5.out] at h7
               have H7 := Lib.hid (h7.keep (nextN (Mem.start _) 1))
               clear h7
               go_wp2_with fail
               go_roundw
               case rel =>
                refine ⟨j + 1, by simp, HJ.out, H7.out.congr fun a _ b _ => ?_⟩
                have h := el2_step (t := (fun i => (scaleM (swapM s.A at_ f) at_ v) i k)) (A := scaleM (swapM s.A at_ f) at_ v) (k := j) HIA.out a b
                rw [HXE.out.1, HXE.out.2] at h
                rw [HZ.out] at h
                exact h
               case measure => simp [intOf]; omega
              ·obtain rfl : C = j := by omega
               go_wp2_with fail
               go_roundw
               case rel => exact ⟨i + 1, by simp, HI.out, HE.out.congr fun a _ b hb => el2_done HIA.out a b hb⟩
               case measure => simp [intOf]; omega
           ·obtain rfl : r = i := by omega
            have HNX := Lib.hid (show redTo r m m (k + 1) = ⟨at_ + 1, stepX s.A s.A at_ f k, stepX s.A s.B at_ f k⟩ from by
             rw [HST.out]; unfold redStep
             rw [HAE.out, HFI.out, if_pos HFR.out])
            have H10 := Lib.hid (H9.out.congr (m' := stepX s.A s.A at_ f k) fun a ha b _ => by rw [elimUp_done _ _ _ ha, ← HV.out]; rfl)
            obtain ⟨vs, hvs, ho⟩ := H10.out.bg
            have HO := Lib.hid ho
            have HVS := Lib.hid (show at_ = vs.length ∧ at_ ≤ 100 from ⟨hvs.symm, by have h9 := HN.out; have h8 := HAR.out; omega⟩)
            clear ho hvs
            have hb1 := Mx_buildI w9 (k : Int)
            have HCO := Lib.hid (cells_one w9 (.int .i64 (k : Int)) 3 (w9.heap.size + 1) (by omega))
            have HOA := Lib.hid (HO.out.keep (nextA (Mem.start w9) (.cells #[.int .i64 (k : Int)] 3)))
            have HSZ := Lib.hid (show w.heap.size ≤ (w9.alloc (.cells #[.int .i64 (k : Int)] 3)).heap.size from by rw [World.size_alloc]; have := H10.out.ws.below.size; omega)
            obtain ⟨i0, hi0, hz0, hz1, hz2⟩ := int_parts
            go_wp2_with ((with_reducible show wpList _ _ _ ((⟨some 177, _, _, _, _, _⟩ : Oper) :: _) _ _); refine wpList_app _ rfl _ _ _ rfl w.heap.size 3 i0 _ 8 Try.underlying48 hi0 hz0 hz1 hz2 rfl L capL _ vs rfl HVS.out.1 HOA.out _ _ _ 1 [.int .i64 (k : Int)] rfl rfl HCO.out (by simp [Value.oneCell']) (by rw [← HVS.out.1]; have := HVS.out.2; simp [maxLen]; omega) (by rw [← HVS.out.1]; have := HVS.out.2; simp; omega) HSZ.out (at_ + 1) rfl ?_; intro A5 c5 w11 ho5 hb5 hg5 _; have H11 := Lib.hid (show RdS w [(gm, 38, mcells r C (some ⟨g, 0, none⟩) (r * C) (r * C)), (g0, 38, #[.int .i64 0, .int .i64 0, .slice none 0 0]), (ga, 38, mcells r C A n cap)] g r C (stepX s.A s.A at_ f k) A5 c5 (at_ + 1) w11 from RdS.grow (H10.out.keep (nextA (Mem.start w9) (.cells #[.int .i64 (k : Int)] 3))) HOA.out ho5 hb5 hg5 (by rw [List.length_append, ← HVS.out.1]; rfl)); clear ho5 hb5 hg5)
            go_roundw
            case rel =>
             exact ⟨k + 1, A5, c5, by simp, by rw [HNX.out], HK.out, by rw [HNX.out]; exact H11.out⟩
            case measure => simp [intOf]; omega
      ·obtain rfl : f = r := by omega
       have HFI := Lib.hid (find_is (A := s.A) (r := f) (k := k) hf1 hz (fun h => absurd h (Nat.lt_irrefl _)) (Nat.le_refl _))
       have HNX := Lib.hid (show redTo f m m (k + 1) = s from by
        rw [HST.out]; unfold redStep
        rw [HAE.out, HFI.out, if_neg (Nat.lt_irrefl _)])
       clear hz
       go_wp2_with fail
       go_roundw
       case rel =>
        exact ⟨k + 1, L, capL, by simp, by rw [HNX.out, HAE.out], HK.out, by rw [HNX.out, HAE.out]; exact H6.out⟩
       case measure => simp [intOf]; omega
    ·obtain rfl : k = cols := by omega
     obtain ⟨⟨c0, c1, c2⟩, _⟩ := H6.out.ws.cells mm0
     obtain ⟨⟨d0, d1, d2⟩, f0, f1, f2⟩ := H6.out.ws.cells mm1
     have hfin := H6.out.ws.end_ mm1 (.int .i64 (r : Int)) (.int .i64 (C : Int)) (.slice (some ⟨g, 0, none⟩) (r * C) (r * C))
     go_wp2_with fail
     obtain ⟨h1, h2, e0, e1, e2⟩ := hfin
     refine bodyPost_ret (v := .tuple #[.agg #[.int .i64 (r : Int), .int .i64 (C : Int), .slice (some ⟨g, 0, none⟩) (r * C) (r * C)], .slice L (redTo r m m k).at_ capL]) (by simp [results, Try.results54, go_sem, e0, e1, e2]) rfl ?_
     exact ⟨g, L, capL, rfl, h2, h1⟩
end Go.Proofs.Ythdapoipfnnaeaa.MxW
/- The document's Solve. -/
namespace Go.Proofs.Ythdapoipfnnaeaa.MxW
open Go.RowKit Go.Shelf Mem Gf FdW Mx Rng
open PlW (In)
set_option linter.unusedVariables false
set_option linter.unusedSectionVars false
attribute [local go_sem] Oper.semAt_some wide_fn

theorem newMx5 : NewRun Try.prog 38 #[.int .i64 0, .int .i64 0, .slice none 0 0] := fun w => by kernel_rfl
def RedR (w0 : World) (p : Option Nat) (R : List Rw) (X : List (Nat × Array Value)) (r c : Int) (n : Nat) (l : List UInt8) (t : Nat) (e : Ending) (w' : World) : Prop :=
 ∃ A cap L capL, e = .returned (.tuple #[.agg #[.int .i64 r, .int .i64 c, .slice A n cap], .slice L t capL]) ∧ n ≤ cap ∧ MS w0 p (⟨A, l, cap⟩ :: R) X w'
section
variable {w0 w : World} {p : Option Nat} {R : List Rw} {X : List (Nat × Array Value)}
variable (h : MS w0 p R X w)
include h
variable {A B : Option Addr} {a b : List UInt8} {ca cb n m r c d : Nat} {ma mb : M}
theorem besR (ha : ⟨A, a, ca⟩ ∈ R) (hb : ⟨B, b, cb⟩ ∈ R) (hA : a = flat r c ma) (hB : b = flat r d mb) (hd : r ≤ 100 ∧ c ≤ 100 ∧ d ≤ 100) (q : Nat) (hq : q = c + d) :
    Calls Try.prog 55 #[.agg #[.int .i64 (r : Int), .int .i64 (c : Int), .slice A n ca], .agg #[.int .i64 (r : Int), .int .i64 (d : Int), .slice B m cb]] w (MatO w0 p R X r q (r * q) (flat r q (besM c ma mb))) := by
 subst hA; subst hB; subst hq
 have k1 := (h.row _ ha).2.2; have k2 := (h.row _ hb).2.2
 dsimp only at k1 k2
 rw [flat_len] at k1 k2
 exact (rbeside_any w r c d A B n ca m cb ma mb hd ⟨k1, k2⟩ (h.row _ ha).1 (h.row _ hb).1).mono fun e w' k => newO h ⟨rfl, rfl, rfl⟩ rfl k
theorem redR (ha : ⟨A, a, ca⟩ ∈ R) (hA : a = flat r c ma) (hn : n = r * c) (hd : r ≤ 100 ∧ c ≤ 300) (cols : Nat) (hc : cols ≤ c) :
    Calls Try.prog 54 #[.agg #[.int .i64 (r : Int), .int .i64 (c : Int), .slice A n ca], .int .i64 (cols : Int)] w (RedR w0 p R X r c (r * c) (flat r c (redTo r ma ma cols).A) (redTo r ma ma cols).at_) := by
 subst hA
 exact (rreduced_any w r c cols A n ca ma hn hd hc (h.row _ ha).1).mono fun e w' ⟨g, L, capL, he, hnw, hb⟩ => ⟨_, _, L, capL, he, Nat.le_refl _, (h.keep hb).new hnw h.lt (by rw [flat_len]; exact Nat.le_refl _)⟩
end
/-- The result's box is written. -/
theorem MS.end_ {w0 w : World} {p : Option Nat} {R : List Rw} {X : List (Nat × Array Value)} (h : MS w0 p R X w) {b : Nat} {c0 c1 c2 : Value} (hy : (b, #[c0, c1, c2]) ∈ X) (hb : w0.heap.size ≤ b) (v0 v1 v2 : Value) :
    let w' := (((w.setCell ⟨b, 0, none⟩ v0).setCell ⟨b, 1, none⟩ v1).setCell ⟨b, 2, none⟩ v2)
    Below w0.heap.size w0 w' ∧ w'.cell? ⟨b, 0, none⟩ = some v0 ∧ w'.cell? ⟨b, 1, none⟩ = some v1 ∧ w'.cell? ⟨b, 2, none⟩ = some v2 := by
 obtain ⟨T, k⟩ := (h.box _ hy).1
 obtain ⟨h1, h2⟩ := set3 k v0 v1 v2
 exact ⟨h.below.trans (h2.below h.below.size fun k hk => by rw [hk]; exact hb), (cells3 h1).1⟩
set_option maxRecDepth 100000 in
set_option maxHeartbeats 40000000 in
theorem rsolve_bad1 (w : World) (R C R' C' : Int) (A A' : Option Addr) (n cap n' cap' : Nat) (hrt : rightB R C n = false) :
    Calls Try.prog 22 #[.agg #[.int .i64 R, .int .i64 C, .slice A n cap], .agg #[.int .i64 R', .int .i64 C', .slice A' n' cap']] w (ErrM w 50) := by
 have HRT := Lib.hid hrt
 have H0 := Lib.hid ((((MS.start w).putT #[.int .i64 R, .int .i64 C, .slice A n cap] 38).putT #[.int .i64 R', .int .i64 C', .slice A' n' cap'] 38).putT #[.int .i64 0, .int .i64 0, .slice none 0 0] 38)
 go_enter Try.func22, Try.ntmps22
 obtain ⟨a0, a1, a2⟩ := H0.out.cells mm2
 go_wp2_with fail
 clear a0 a1 a2
 generalize ((w.alloc (.cells #[.int .i64 R, .int .i64 C, .slice A n cap] 38)).alloc (.cells #[.int .i64 R', .int .i64 C', .slice A' n' cap'] 38)).alloc (.cells #[.int .i64 0, .int .i64 0, .slice none 0 0] 38) = w1 at *
 simp only [World.size_alloc] at H0
 obtain ⟨ga, hga⟩ : ∃ x, w.heap.size = x := ⟨_, rfl⟩
 obtain ⟨gb, hgb⟩ : ∃ x, ga + 1 = x := ⟨_, rfl⟩
 obtain ⟨g0, hg0⟩ : ∃ x, gb + 1 = x := ⟨_, rfl⟩
 have HG := Lib.hid (show w.heap.size ≤ g0 from by omega)
 rw [hga, hgb, hg0] at H0 ⊢
 clear hga hgb hg0
 refine (rright_any w1 _ _ A n cap).mono ?_
 rintro e w2 ⟨rfl, hb⟩
 rw [HRT.out]
 have H2 := Lib.hid (H0.out.keep hb)
 clear hb H0
 obtain ⟨⟨d0, d1, d2⟩, f0, f1, f2⟩ := H2.out.blk mm0
 have hfin := H2.out.end_ mm0 HG.out (.int .i64 0) (.int .i64 0) (.slice none 0 0)
 go_wp2_with fail
 obtain ⟨h1, e0, e1, e2⟩ := hfin
 exact bodyPost_ret (v := .tuple #[.agg #[.int .i64 0, .int .i64 0, .slice none 0 0], .int .i64 50]) (by simp [results, Try.results22, go_sem, e0, e1, e2]) rfl ⟨rfl, h1⟩
set_option maxRecDepth 100000 in
set_option maxHeartbeats 40000000 in
theorem rsolve_bad2 (w : World) (R C R' C' : Int) (A A' : Option Addr) (n cap n' cap' : Nat) (hrt : rightB R C n = true) (hrt2 : rightB R' C' n' = false) :
    Calls Try.prog 22 #[.agg #[.int .i64 R, .int .i64 C, .slice A n cap], .agg #[.int .i64 R', .int .i64 C', .slice A' n' cap']] w (ErrM w 50) := by
 have HRT := Lib.hid hrt
 have HRT2 := Lib.hid hrt2
 have H0 := Lib.hid ((((MS.start w).putT #[.int .i64 R, .int .i64 C, .slice A n cap] 38).putT #[.int .i64 R', .int .i64 C', .slice A' n' cap'] 38).putT #[.int .i64 0, .int .i64 0, .slice none 0 0] 38)
 go_enter Try.func22, Try.ntmps22
 obtain ⟨a0, a1, a2⟩ := H0.out.cells mm2
 go_wp2_with fail
 clear a0 a1 a2
 generalize ((w.alloc (.cells #[.int .i64 R, .int .i64 C, .slice A n cap] 38)).alloc (.cells #[.int .i64 R', .int .i64 C', .slice A' n' cap'] 38)).alloc (.cells #[.int .i64 0, .int .i64 0, .slice none 0 0] 38) = w1 at *
 simp only [World.size_alloc] at H0
 obtain ⟨ga, hga⟩ : ∃ x, w.heap.size = x := ⟨_, rfl⟩
 obtain ⟨gb, hgb⟩ : ∃ x, ga + 1 = x := ⟨_, rfl⟩
 obtain ⟨g0, hg0⟩ : ∃ x, gb + 1 = x := ⟨_, rfl⟩
 have HG := Lib.hid (show w.heap.size ≤ g0 from by omega)
 rw [hga, hgb, hg0] at H0 ⊢
 clear hga hgb hg0
 refine (rright_any w1 _ _ A n cap).mono ?_
 rintro e w2 ⟨rfl, hb⟩
 rw [HRT.out]
 have H2 := Lib.hid (H0.out.keep hb)
 clear hb H0
 obtain ⟨b0, b1, b2⟩ := H2.out.cells mm1
 go_wp2_with fail
 clear b0 b1 b2
 refine (rright_any w2 _ _ A' n' cap').mono ?_
 rintro e w3 ⟨rfl, hb⟩
 rw [HRT2.out]
 have H3 := Lib.hid (H2.out.keep hb)
 clear hb H2
 obtain ⟨⟨d0, d1, d2⟩, f0, f1, f2⟩ := H3.out.blk mm0
 have hfin := H3.out.end_ mm0 HG.out (.int .i64 0) (.int .i64 0) (.slice none 0 0)
 go_wp2_with fail
 obtain ⟨h1, e0, e1, e2⟩ := hfin
 exact bodyPost_ret (v := .tuple #[.agg #[.int .i64 0, .int .i64 0, .slice none 0 0], .int .i64 50]) (by simp [results, Try.results22, go_sem, e0, e1, e2]) rfl ⟨rfl, h1⟩
set_option maxRecDepth 100000 in
set_option maxHeartbeats 40000000 in
theorem rsolve_bad3 (w : World) (R C R' C' : Int) (A A' : Option Addr) (n cap n' cap' : Nat) (hrt : rightB R C n = true) (hrt2 : rightB R' C' n' = true) (hne : (R != R') = true) :
    Calls Try.prog 22 #[.agg #[.int .i64 R, .int .i64 C, .slice A n cap], .agg #[.int .i64 R', .int .i64 C', .slice A' n' cap']] w (ErrM w 50) := by
 have HRT := Lib.hid hrt
 have HRT2 := Lib.hid hrt2
 have H0 := Lib.hid ((((MS.start w).putT #[.int .i64 R, .int .i64 C, .slice A n cap] 38).putT #[.int .i64 R', .int .i64 C', .slice A' n' cap'] 38).putT #[.int .i64 0, .int .i64 0, .slice none 0 0] 38)
 go_enter Try.func22, Try.ntmps22
 obtain ⟨a0, a1, a2⟩ := H0.out.cells mm2
 go_wp2_with fail
 clear a0 a1 a2
 generalize ((w.alloc (.cells #[.int .i64 R, .int .i64 C, .slice A n cap] 38)).alloc (.cells #[.int .i64 R', .int .i64 C', .slice A' n' cap'] 38)).alloc (.cells #[.int .i64 0, .int .i64 0, .slice none 0 0] 38) = w1 at *
 simp only [World.size_alloc] at H0
 obtain ⟨ga, hga⟩ : ∃ x, w.heap.size = x := ⟨_, rfl⟩
 obtain ⟨gb, hgb⟩ : ∃ x, ga + 1 = x := ⟨_, rfl⟩
 obtain ⟨g0, hg0⟩ : ∃ x, gb + 1 = x := ⟨_, rfl⟩
 have HG := Lib.hid (show w.heap.size ≤ g0 from by omega)
 rw [hga, hgb, hg0] at H0 ⊢
 clear hga hgb hg0
 refine (rright_any w1 _ _ A n cap).mono ?_
 rintro e w2 ⟨rfl, hb⟩
 rw [HRT.out]
 have H2 := Lib.hid (H0.out.keep hb)
 clear hb H0
 obtain ⟨b0, b1, b2⟩ := H2.out.cells mm1
 go_wp2_with fail
 clear b0 b1 b2
 refine (rright_any w2 _ _ A' n' cap').mono ?_
 rintro e w3 ⟨rfl, hb⟩
 rw [HRT2.out]
 have H3 := Lib.hid (H2.out.keep hb)
 clear hb H2
 obtain ⟨a0, a1, a2⟩ := H3.out.cells mm2
 obtain ⟨b0, b1, b2⟩ := H3.out.cells mm1
 obtain ⟨⟨d0, d1, d2⟩, f0, f1, f2⟩ := H3.out.blk mm0
 have hfin := H3.out.end_ mm0 HG.out (.int .i64 0) (.int .i64 0) (.slice none 0 0)
 go_wp2_with fail
 obtain ⟨h1, e0, e1, e2⟩ := hfin
 exact bodyPost_ret (v := .tuple #[.agg #[.int .i64 0, .int .i64 0, .slice none 0 0], .int .i64 50]) (by simp [results, Try.results22, go_sem, e0, e1, e2]) rfl ⟨rfl, h1⟩
theorem rsolve_bad (w : World) (R C R' C' : Int) (A A' : Option Addr) (n cap n' cap' : Nat) (h : solB R C n R' C' n' = false) :
    Calls Try.prog 22 #[.agg #[.int .i64 R, .int .i64 C, .slice A n cap], .agg #[.int .i64 R', .int .i64 C', .slice A' n' cap']] w (ErrM w 50) := by
 cases h1 : rightB R C n with
 | false => exact rsolve_bad1 w R C R' C' A A' n cap n' cap' h1
 | true =>
  cases h2 : rightB R' C' n' with
  | false => exact rsolve_bad2 w R C R' C' A A' n cap n' cap' h1 h2
  | true =>
   refine rsolve_bad3 w R C R' C' A A' n cap n' cap' h1 h2 ?_
   unfold solB at h
   rw [h1, h2] at h
   simpa [bne] using h
theorem bes_cut {r c d i : Nat} (a b : M) (hi : i < r) : ((flat r (c + d) (besM c a b)).drop (i * (c + d) + c)).take d = row d (b i) := by
 apply List.ext_getElem?
 intro k
 by_cases hk : k < d
 ·rw [List.getElem?_take, if_pos hk, List.getElem?_drop, Nat.add_assoc, flat_get hi (by omega), row_get hk]
  unfold besM
  rw [if_neg (by omega), Nat.add_sub_cancel_left]
 ·rw [List.getElem?_take, if_neg hk, List.getElem?_eq_none (by rw [row_len]; omega)]
def SolvOk (w : World) (c d : Nat) (m : M) (ok : Bool) (e : Ending) (w' : World) : Prop := (ok = true → NewT w c d m e w') ∧ (ok = false → ErrM w 51 e w')
theorem solves_iff {r c d : Nat} {a b : M} : solves r c d a b = true ↔ (redTo r a b c).at_ = c ∧ ∀ i, c ≤ i → i < r → ∀ k, k < d → (redTo r a b c).B i k = 0 := by
 unfold solves
 rw [Bool.and_eq_true, decide_eq_true_iff, Bool.not_eq_true', drop_zero]
set_option maxRecDepth 100000 in
set_option maxHeartbeats 40000000 in
theorem rsolve_any (w : World) (r c d : Nat) (A A' : Option Addr) (n cap n' cap' : Nat) (a b : M) (hn : n = r * c) (hn' : n' = r * d) (hcap : n ≤ cap ∧ n' ≤ cap') (hd : r ≤ 100 ∧ c ≤ 100 ∧ d ≤ 100) (hA : Bytes w w.heap.size A (flat r c a)) (hB : Bytes w w.heap.size A' (flat r d b)) :
    Calls Try.prog 22 #[.agg #[.int .i64 (r : Int), .int .i64 (c : Int), .slice A n cap], .agg #[.int .i64 (r : Int), .int .i64 (d : Int), .slice A' n' cap']] w (SolvOk w c d (redTo r a b c).B (solves r c d a b)) := by
 obtain ⟨i0, hi0, hz0, hz1, hz2⟩ := info_parts u8info
 have HI0 := Lib.hid (And.intro hi0 (And.intro hz0 (And.intro hz1 hz2)))
 clear hi0 hz0 hz1 hz2
 obtain ⟨q, hq⟩ : ∃ q, q = c + d := ⟨_, rfl⟩
 obtain ⟨st, hst⟩ : ∃ s, redTo r a b c = s := ⟨_, rfl⟩
 have HST := Lib.hid hst
 have HRD := Lib.hid (show (redTo r (besM c a b) (besM c a b) c).at_ = st.at_ ∧ (redTo r (besM c a b) (besM c a b) c).A = besM c st.A st.B from by rw [← hst]; exact bes_red r a b c (Nat.le_refl _))
 have HN := Lib.hid (And.intro hd.1 (And.intro hd.2.1 (And.intro hd.2.2 (And.intro hq (And.intro hn hn')))))
 have HRT := Lib.hid (show rightB (r : Int) (c : Int) n = true from right_dim ⟨hd.1, hd.2.1⟩ hn)
 have HRT2 := Lib.hid (show rightB (r : Int) (d : Int) n' = true from right_dim ⟨hd.1, hd.2.2⟩ hn')
 have HR0 := Lib.hid (((MS.start w).arg hA (c := cap) (by rw [flat_len]; omega)).arg hB (c := cap') (by rw [flat_len]; omega))
 clear hst hq hn hn' hcap hd hA hB
 have H0 := Lib.hid (((HR0.out.putT #[.int .i64 (r : Int), .int .i64 (c : Int), .slice A n cap] 38).putT #[.int .i64 (r : Int), .int .i64 (d : Int), .slice A' n' cap'] 38).putT #[.int .i64 0, .int .i64 0, .slice none 0 0] 38)
 go_enter Try.func22, Try.ntmps22
 obtain ⟨a0, a1, a2⟩ := H0.out.cells mm2
 go_wp2_with fail
 clear a0 a1 a2
 generalize ((w.alloc (.cells #[.int .i64 (r : Int), .int .i64 (c : Int), .slice A n cap] 38)).alloc (.cells #[.int .i64 (r : Int), .int .i64 (d : Int), .slice A' n' cap'] 38)).alloc (.cells #[.int .i64 0, .int .i64 0, .slice none 0 0] 38) = w1 at *
 simp only [World.size_alloc] at H0
 obtain ⟨ga, hga⟩ : ∃ x, w.heap.size = x := ⟨_, rfl⟩
 obtain ⟨gb, hgb⟩ : ∃ x, ga + 1 = x := ⟨_, rfl⟩
 obtain ⟨g0, hg0⟩ : ∃ x, gb + 1 = x := ⟨_, rfl⟩
 have HG := Lib.hid (show w.heap.size ≤ g0 from by omega)
 rw [hga, hgb, hg0] at H0 ⊢
 clear hga hgb hg0
 refine (rright_any w1 _ _ A n cap).mono ?_
 rintro e w2 ⟨rfl, hb⟩
 rw [HRT.out]
 have H2 := Lib.hid (H0.out.keep hb)
 clear hb H0
 obtain ⟨b0, b1, b2⟩ := H2.out.cells mm1
 go_wp2_with fail
 clear b0 b1 b2
 refine (rright_any w2 _ _ A' n' cap').mono ?_
 rintro e w3 ⟨rfl, hb⟩
 rw [HRT2.out]
 have H3 := Lib.hid (H2.out.keep hb)
 clear hb H2
 obtain ⟨a0, a1, a2⟩ := H3.out.cells mm2
 obtain ⟨b0, b1, b2⟩ := H3.out.cells mm1
 go_wp2_with fail
 clear a0 a1 a2 b0 b1 b2
 refine wp_region_noPanic ?_
 refine wp_heldG (fun w' => (w'.cell? ⟨ga, 0, none⟩ = some (.int .i64 (r : Int)) ∧ w'.cell? ⟨ga, 1, none⟩ = some (.int .i64 (c : Int)) ∧ w'.cell? ⟨ga, 2, none⟩ = some (.slice A n cap)) ∧ (w'.cell? ⟨gb, 0, none⟩ = some (.int .i64 (r : Int)) ∧ w'.cell? ⟨gb, 1, none⟩ = some (.int .i64 (d : Int)) ∧ w'.cell? ⟨gb, 2, none⟩ = some (.slice A' n' cap'))) [10] (by kernel_rfl) ?hs0 ?rg0
 case hs0 =>
  have h := H3.out.keep (nextN (Mem.start w3) 1)
  exact ⟨h.cells mm2, h.cells mm1⟩
 case rg0 =>
 intro hHeld
 have HD10 := Lib.hid (show MS _ _ _ _ w3.drew from H3.out.keep (nextN (Mem.start w3) 1))
 generalize w3.drew = wd10 at *
 refine tk 0 rfl (by intro w hSw; obtain ⟨⟨k0, k1, k2⟩, ⟨l0, l1, l2⟩⟩ := hSw; go_simp; try with_reducible rfl) ?_
 refine tk 1 rfl (by intro w hSw; obtain ⟨⟨k0, k1, k2⟩, ⟨l0, l1, l2⟩⟩ := hSw; go_simp; try with_reducible rfl) ?_
 refine pu 3 ?_
 refine tk 4 rfl (by intro w hSw; obtain ⟨⟨k0, k1, k2⟩, ⟨l0, l1, l2⟩⟩ := hSw; go_simp; try with_reducible rfl) ?_
 refine tw 2 9 rfl rfl (fun K hK => ?_) fun K hK => ?_
 ·skip
  go_simp
  refine (besR HD10.out mm1 mm0 rfl rfl ⟨HN.out.1, HN.out.2.1, HN.out.2.2.1⟩ q HN.out.2.2.2.1).mono ?_
  rintro e w11 ⟨A11, c11, rfl, h⟩
  have H11 := Lib.hid h
  clear h
  try dsimp only
  refine hK.out _ _ (fun _ => have h := H11.out; ⟨h.cells mm2, h.cells mm1⟩) fun hHeld => ?_
  clear hK K
  try simp only [pU, pU0, pA, pB, pC]
  have hHeld := hHeld (by kernel_rfl)
  refine tw 5 9 rfl rfl (fun K hK => ?_) fun K hK => ?_
  ·skip
   go_simp
   refine (redR H11.out (ma := besM c a b) mm0 rfl rfl ⟨HN.out.1, by have := HN.out; omega⟩ c (by have := HN.out; omega)).mono ?_
   rintro e w12 ⟨A12, c12, L12, k12, rfl, hle, h⟩
   rw [HRD.out.1]
   rw [HRD.out.2] at h
   have H12 := Lib.hid h
   have HLE := Lib.hid hle
   clear h hle
   try dsimp only
   refine hK.out _ _ (fun _ => have h := H12.out; ⟨h.cells mm2, h.cells mm1⟩) fun hHeld => ?_
   clear hK K
   try simp only [pU, pU0, pA, pB, pC]
   have hHeld := hHeld (by kernel_rfl)
   refine pu 6 ?_
   refine pu 7 ?_
   refine pu 8 ?_
   refine on 9 rfl fun K hK => ?_
   refine step_new (P := Try.prog) _ ⟨rfl, rfl, rfl⟩ newMx5 ?_
   have H13 := Lib.hid (H12.out.putT #[.int .i64 0, .int .i64 0, .slice none 0 0] 38)
   have HB13 := Lib.hid (And.intro H12.out.below.size H12.out.far)
   obtain ⟨g13, hg13⟩ : ∃ x, w12.heap.size = x := ⟨_, rfl⟩
   rw [hg13] at H13 HB13 ⊢
   clear hg13
   generalize w12.alloc (.cells #[.int .i64 0, .int .i64 0, .slice none 0 0] 38) = w13 at *
   try dsimp only
   refine hK.out _ _ (fun _ => have h := H13.out; ⟨h.cells mm3, h.cells mm2⟩) fun hHeld => ?_
   clear hK K
   try simp only [pU, pU0, pA, pB, pC]
   have hHeld := hHeld (by kernel_rfl)
   refine on 10 rfl fun K hK => ?_
   obtain ⟨⟨z0, z1, z2⟩, f0, f1, f2⟩ := H13.out.blk mm0
   go_simp
   have H14 := Lib.hid (H13.out.set HB13.out.1 HB13.out.2 (.int .i64 (r : Int)) (.int .i64 (q : Int)) (.slice A12 (r * q) c12))
   clear z0 z1 z2 f0 f1 f2 HB13
   generalize ((w13.setCell ⟨g13, 0, none⟩ (.int .i64 (r : Int))).setCell ⟨g13, 1, none⟩ (.int .i64 (q : Int))).setCell ⟨g13, 2, none⟩ (.slice A12 (r * q) c12) = w14 at *
   try dsimp only
   refine hK.out _ _ ?_ (fun hHeld => ?_)
   ·exact fun h => (st_no (by kernel_rfl) h).elim
   clear hK K
   try simp only [pU, pU0, pA, pB, pC]
   clear hHeld
   refine puG 11 ⟨_, _, _, _, _, _⟩ (v := ?_) ?_ (fun h => (st_no (by kernel_rfl) h).elim) ?_
   rotate_left
   ·intro w hSw
    try dsimp only at hSw
    go_simp
    try with_reducible rfl
   try simp only [pU, pU0, pA, pB, pC]
   refine wpAnyG_done (by kernel_rfl) ?_ _
   refine NoPanic.normal ?_
   clear hHeld
   obtain ⟨a0, a1, a2⟩ := H14.out.cells mm3
   by_cases htc : st.at_ < c
   ·have HBAD := Lib.hid (show solves r c d a b = false from by
     cases h : solves r c d a b with
     | false => rfl
     | true => have h2 := (solves_iff.1 h).1; rw [HST.out] at h2; omega)
    have htc1 : (st.at_ : Int) < (c : Int) := by omega
    clear htc
    obtain ⟨⟨d0, d1, d2⟩, f0, f1, f2⟩ := H14.out.blk mm1
    have hfin := H14.out.end_ mm1 HG.out (.int .i64 0) (.int .i64 0) (.slice none 0 0)
    go_wp2_with fail
    obtain ⟨h1, e0, e1, e2⟩ := hfin
    refine bodyPost_ret (v := .tuple #[.agg #[.int .i64 0, .int .i64 0, .slice none 0 0], .int .i64 51]) (by simp [results, Try.results22, go_sem, e0, e1, e2]) rfl ?_
    exact ⟨fun h => (by rw [HBAD.out] at h; cases h), fun _ => ⟨rfl, h1⟩⟩
   ·have HTC := Lib.hid (show st.at_ = c ∧ c ≤ r from by have h := redTo_at (A := a) (B := b) (r := r) c; rw [HST.out] at h; omega)
    have htc1 : ¬ (st.at_ : Int) < (c : Int) := by omega
    clear htc
    obtain ⟨b0, b1, b2⟩ := H14.out.cells mm2
    have H5 := Lib.hid (AS.start (BS.start w14) (c : Int) (d : Int))
    go_wp2_with fail
    clear a0 a1 a2 b0 b1 b2 htc1
    obtain ⟨gx, hgx⟩ : ∃ x, w14.heap.size = x := ⟨_, rfl⟩
    rw [hgx] at H5 ⊢
    have HGX := Lib.hid hgx
    clear hgx
    generalize w14.alloc (.cells #[.int .i64 (c : Int), .int .i64 (d : Int), .slice none 0 0] 38) = w5 at *
    go_loopw [9] (fun x wr => ∃ (i : Nat) (A2 : Option Addr) (c2 : Nat), x = .int .i64 (i : Int) ∧ i ≤ r ∧ (∀ x, c ≤ x → x < i → ∀ k, k < d → st.B x k = 0) ∧ AS w14 [] gx (c : Int) (d : Int) A2 c2 (flat (min i c) d st.B) wr) (fun x _ => r - (intOf x).toNat)
    case atStart => exact ⟨0, none, 0, rfl, Nat.zero_le _, fun x h1 h2 => absurd h2 (Nat.not_lt_zero _), by rw [Nat.zero_min, flat_nil]; exact H5.out⟩
    case round =>
     obtain ⟨i, A2, c2, rfl, hi, hz, h⟩ := hrel
     have H6 := Lib.hid h
     have HZ := Lib.hid hz
     clear h hz H5
     obtain ⟨w6, rfl⟩ : ∃ w6 : World, w6 = wr := ⟨_, rfl⟩
     have HW := Lib.hid (H14.out.keep H6.out.bs.below)
     obtain ⟨m0, m1, m2⟩ := HW.out.cells mm0
     obtain ⟨a0, a1, a2⟩ := HW.out.cells mm3
     by_cases hir : i < r
     ·have hi1 : (i : Int) < (r : Int) := by omega
      have hi0 : (0 : Int) ≤ (i : Int) := by omega
      have hni : IntKind.i64.wrap ((i : Int) + 1) = ((i + 1 : Nat) : Int) := by have := HN.out.1; rw [IntWalk.i64_in _ (by omega)]; omega
      have HI := Lib.hid hir
      have hle := idx_le (c := q) hir
      have hsz : r * q ≤ 100 * 200 := Nat.mul_le_mul HN.out.1 (by have := HN.out; omega)
      obtain ⟨p, hp⟩ : ∃ p, i * q = p := ⟨_, rfl⟩
      obtain ⟨lo, hlo⟩ : ∃ s, p + c = s := ⟨_, rfl⟩
      obtain ⟨hi', hhi⟩ : ∃ s, p + q = s := ⟨_, rfl⟩
      have HP := Lib.hid (show i * (c + d) + c = lo from by have := HN.out.2.2.2.1; rw [← hlo, ← hp, this])
      have hwa : IntKind.i64.wrap ((i : Int) * (q : Int)) = (p : Int) := by rw [show (i : Int) * (q : Int) = (p : Int) by rw [← hp]; simp, IntWalk.i64_in _ (by rw [hp] at hle; omega)]
      rw [hp] at hle
      have hwb : IntKind.i64.wrap ((p : Int) + (c : Int)) = (lo : Int) := by have := HN.out; rw [IntWalk.i64_in _ (by omega)]; omega
      have hwc : IntKind.i64.wrap ((p : Int) + (q : Int)) = (hi' : Int) := by rw [IntWalk.i64_in _ (by omega)]; omega
      have hcut := fun W => cut_run W A12 (r * q) c12 lo hi' (by have := HN.out; omega) (by have := HLE.out; omega) d (c12 - lo) (by have := HN.out; omega) rfl
      have HC := Lib.hid (show ∀ W : World, Below w14.heap.size w14 W → Bytes W W.heap.size (cutA A12 c12 lo) (row d (st.B i)) from fun W hW => by
       have h1 := ((H14.out.keep hW).row _ mm0).1
       have h2 := cut_bytes h1 (cap := c12) (lo := lo) (k := d) (by dsimp only; rw [flat_len]; have := HN.out; omega) (by dsimp only; rw [flat_len]; exact HLE.out)
       dsimp only at h2
       rw [HN.out.2.2.2.1, ← HP.out, bes_cut _ _ hir] at h2
       rw [← HP.out]; exact h2)
      clear hp hlo hhi hle hsz
      have H7 := H6
      have HW7 := HW
      by_cases hic : i < c
      ·have hic1 : (i : Int) < (c : Int) := by omega
       have HIC := Lib.hid hic
       obtain ⟨l0, hl0⟩ : ∃ l, (flat (min i c) d st.B).length = l := ⟨_, rfl⟩
       have HL0 := Lib.hid (show (flat (min i c) d st.B).length = l0 ∧ l0 ≤ 10000 from ⟨hl0, by
        rw [← hl0, flat_len]
        have h4 : min i c * d ≤ 100 * 100 := Nat.mul_le_mul (by have := HN.out; omega) (by have := HN.out; omega)
        omega⟩)
       have HFS := Lib.hid (show flat (min (i + 1) c) d st.B = flat (min i c) d st.B ++ row d (st.B i) from by rw [show min (i + 1) c = i + 1 by omega, show min i c = i by omega, flat_succ])
       obtain ⟨⟨x0, x1, x2⟩, _⟩ := H7.out.cells
       rw [hl0] at x2
       obtain ⟨hi0', hz0, hz1, hz2⟩ := HI0.out
       clear hl0
       go_wp2_with ((with_reducible show wpList _ _ _ ((⟨some 78, _, _, _, _, _⟩ : Oper) :: _) _ _); refine wpList_app _ rfl _ _ _ rfl w14.heap.size 5 i0 _ 1 Try.underlying22 hi0' hz0 hz1 hz2 rfl A2 c2 _ ((flat (min i c) d st.B).map u8v) rfl (by rw [List.length_map, HL0.out.1]) H7.out.row _ _ _ d ((row d (st.B i)).map u8v) rfl (by rw [List.length_map, row_len]) (HC.out _ H7.out.bs.below) u8v_one (by rw [List.length_map, List.length_map, HL0.out.1, row_len]; have := HL0.out.2; have := HN.out; simp [maxLen]; omega) (by rw [List.length_map, List.length_map, HL0.out.1, row_len]; have := HL0.out.2; have := HN.out; omega) H7.out.bs.below.size (l0 + d) rfl ?_; intro A5 c5 w8 ho hb hg _; have H8 := Lib.hid (H7.out.app (l' := flat (min (i + 1) c) d st.B) (by rw [HFS.out, List.map_append]; exact ho) hb hg); clear ho hb hg; have h9 := H8.out.set; rw [show (flat (min (i + 1) c) d st.B).length = l0 + d from by rw [HFS.out, List.length_append, HL0.out.1, row_len]] at h9; have H9 := Lib.hid h9; clear h9; obtain ⟨k3, k4⟩ := H8.out.cells; rw [HL0.out.1] at k3)
       go_roundw
       case rel => exact ⟨i + 1, A5, c5, by simp, HI.out, fun x h1 h2 => by have := HIC.out; omega, H9.out⟩
       case measure => simp [intOf]; omega
      ·have hic1 : ¬ (i : Int) < (c : Int) := by omega
       have HIC := Lib.hid (show c ≤ i from by omega)
       clear hic
       go_wp2_with fail
       clear a0 a1 a2 m0 m1 m2
       go_loopw [11] (fun y wr => ∃ k : Nat, y = .int .i64 (k : Int) ∧ k ≤ d ∧ (∀ y, y < k → st.B i y = 0) ∧ w6 = wr) (fun y _ => d - (intOf y).toNat)
       case atStart => exact ⟨0, rfl, Nat.zero_le _, fun y h => absurd h (Nat.not_lt_zero _), rfl⟩
       case round =>
        obtain ⟨k, rfl, hk, hzz, rfl⟩ := hrel
        by_cases hkd : k < d
        ·have hk1 : (k : Int) < (d : Int) := by omega
         have hk0 : (0 : Int) ≤ (k : Int) := by omega
         have hnk : IntKind.i64.wrap ((k : Int) + 1) = ((k + 1 : Nat) : Int) := by have := HN.out; rw [IntWalk.i64_in _ (by omega)]; omega
         obtain ⟨ab, ao, eA, _, hc⟩ := (HC.out _ H7.out.bs.below).at_ (k := k) (by rw [row_len]; exact hkd)
         obtain ⟨x, hx⟩ : ∃ x, st.B i k = x := ⟨_, rfl⟩
         rw [show (row d (st.B i))[k]'(by rw [row_len]; exact hkd) = x from by
          have h := row_get (f := st.B i) hkd
          rw [List.getElem?_eq_getElem (by rw [row_len]; exact hkd)] at h
          injection h with h
          rw [h, hx]] at hc
         rw [eA]
         by_cases hx0 : x = 0
         ·have hxz : (((x.toNat : Nat) : Int) != 0) = false := by rw [hx0]; rfl
          have HZZ := Lib.hid (show k < d ∧ ∀ y, y < k + 1 → st.B i y = 0 from ⟨hkd, fun y h => by
           by_cases e : y = k
           ·rw [e, hx, hx0]
           ·exact hzz y (by omega)⟩)
          clear hx hx0 hzz
          go_wp2_with fail
          go_roundw
          case rel => exact ⟨k + 1, by simp, HZZ.out.1, HZZ.out.2, trivial⟩
          case measure => simp [intOf]; omega
         ·have hxz : (((x.toNat : Nat) : Int) != 0) = true := by rw [bne, u8_zero_no hx0]; rfl
          have HBAD := Lib.hid (show solves r c d a b = false from by
           cases h : solves r c d a b with
           | false => rfl
           | true =>
            have h2 := (solves_iff.1 h).2 i HIC.out HI.out k hkd
            rw [HST.out, hx] at h2
            exact absurd h2 hx0)
          clear hx hx0 hzz
          obtain ⟨⟨d0, d1, d2⟩, f0, f1, f2⟩ := HW7.out.blk mm1
          have hfin := HW7.out.end_ mm1 HG.out (.int .i64 0) (.int .i64 0) (.slice none 0 0)
          go_wp2_with fail
          obtain ⟨h1, e0, e1, e2⟩ := hfin
          refine bodyPost_ret (v := .tuple #[.agg #[.int .i64 0, .int .i64 0, .slice none 0 0], .int .i64 51]) (by simp [results, Try.results22, go_sem, e0, e1, e2]) rfl ?_
          exact ⟨fun h => (by rw [HBAD.out] at h; cases h), fun _ => ⟨rfl, h1⟩⟩
        ·obtain rfl : d = k := by omega
         have HZZ := Lib.hid hzz
         clear hzz
         go_wp2_with fail
         go_roundw
         case rel =>
          refine ⟨i + 1, A2, c2, by simp, HI.out, fun x h1 h2 k hk => ?_, by rw [show min (i + 1) c = min i c by have := HIC.out; omega]; exact H7.out⟩
          by_cases e : x = i
          ·rw [e]; exact HZZ.out k hk
          ·exact HZ.out x h1 (by omega) k hk
         case measure => simp [intOf]; omega
     ·obtain rfl : r = i := by omega
      have HOK := Lib.hid (show solves r c d a b = true from solves_iff.2 (by rw [HST.out]; exact ⟨HTC.out.1, HZ.out⟩))
      have H7 := Lib.hid (show AS w14 [] gx (c : Int) (d : Int) A2 c2 (flat c d st.B) w6 from by have h := H6.out; rw [show min r c = c by have := HTC.out.2; omega] at h; exact h)
      clear H6
      obtain ⟨⟨x0, x1, x2⟩, _⟩ := H7.out.cells
      obtain ⟨lq, hlq⟩ : ∃ lq, (flat c d st.B).length = lq := ⟨_, rfl⟩
      rw [hlq] at x2
      have HLQ := Lib.hid (hlq.symm.trans (flat_len _ _ _))
      clear hlq
      obtain ⟨⟨d0, d1, d2⟩, f0, f1, f2⟩ := HW.out.blk mm1
      have hfin := HW.out.end_ mm1 HG.out (.int .i64 (c : Int)) (.int .i64 (d : Int)) (.slice A2 lq c2)
      have hnw : Nw w.heap.size (((w6.setCell ⟨g0, 0, none⟩ (.int .i64 (c : Int))).setCell ⟨g0, 1, none⟩ (.int .i64 (d : Int))).setCell ⟨g0, 2, none⟩ (.slice A2 lq c2)) A2 (flat c d st.B) := by
       obtain ⟨T, hbk⟩ := (H14.out.box _ mm1).1
       obtain ⟨T', hbk'⟩ := (HW.out.box _ mm1).1
       have hg0 : g0 < w14.heap.size := hbk.lt
       obtain ⟨_, hf⟩ := set3 hbk' (.int .i64 (c : Int)) (.int .i64 (d : Int)) (.slice A2 lq c2)
       refine (Nw.of_own (Own.fr H7.out.row hf fun g' e e2 => ?_)).mono H14.out.below.size
       rcases H7.out.row.form with ⟨e3, _⟩ | ⟨g3, e3, h3, _⟩
       ·rw [e3] at e; cases e
       ·rw [e3] at e; injection e with e; have := congrArg Addr.block e; dsimp only at this; omega
      go_wp2_with fail
      obtain ⟨h1, e0, e1, e2⟩ := hfin
      refine bodyPost_ret (v := .tuple #[.agg #[.int .i64 (c : Int), .int .i64 (d : Int), .slice A2 lq c2], .int .i64 0]) (by simp [results, Try.results22, go_sem, e0, e1, e2]) rfl ?_
      have e9 := HLQ.out
      subst e9
      refine ⟨fun _ => ?_, fun h => (by rw [HOK.out] at h; cases h)⟩
      rw [HST.out]
      refine ⟨A2, c2, rfl, ?_, hnw, h1⟩
      have h3 := H7.out.row.le
      rw [List.length_map, flat_len] at h3
      exact h3
  ·skip
   refine step_new (P := Try.prog) _ ⟨rfl, rfl, rfl⟩ newMx5 ?_
   have H12 := Lib.hid (H11.out.putT #[.int .i64 0, .int .i64 0, .slice none 0 0] 38)
   have HB12 := Lib.hid (And.intro H11.out.below.size H11.out.far)
   obtain ⟨g12, hg12⟩ : ∃ x, w11.heap.size = x := ⟨_, rfl⟩
   rw [hg12] at H12 HB12 ⊢
   clear hg12
   generalize w11.alloc (.cells #[.int .i64 0, .int .i64 0, .slice none 0 0] 38) = w12 at *
   try dsimp only
   refine hK.out _ _ (fun _ => have h := H12.out; ⟨h.cells mm3, h.cells mm2⟩) fun hHeld => ?_
   clear hK K
   try simp only [pU, pU0, pA, pB, pC]
   have hHeld := hHeld (by kernel_rfl)
   refine on 5 rfl fun K hK => ?_
   go_simp
   refine (redR H12.out (ma := besM c a b) mm0 rfl rfl ⟨HN.out.1, by have := HN.out; omega⟩ c (by have := HN.out; omega)).mono ?_
   rintro e w13 ⟨A13, c13, L13, k13, rfl, hle, h⟩
   rw [HRD.out.1]
   rw [HRD.out.2] at h
   have H13 := Lib.hid h
   have HLE := Lib.hid hle
   clear h hle
   try dsimp only
   refine hK.out _ _ (fun _ => have h := H13.out; ⟨h.cells mm3, h.cells mm2⟩) fun hHeld => ?_
   clear hK K
   try simp only [pU, pU0, pA, pB, pC]
   have hHeld := hHeld (by kernel_rfl)
   refine pu 6 ?_
   refine pu 7 ?_
   refine pu 8 ?_
   refine on 10 rfl fun K hK => ?_
   obtain ⟨⟨z0, z1, z2⟩, f0, f1, f2⟩ := H13.out.blk mm0
   go_simp
   have H14 := Lib.hid (H13.out.set HB12.out.1 HB12.out.2 (.int .i64 (r : Int)) (.int .i64 (q : Int)) (.slice A13 (r * q) c13))
   clear z0 z1 z2 f0 f1 f2 HB12
   generalize ((w13.setCell ⟨g12, 0, none⟩ (.int .i64 (r : Int))).setCell ⟨g12, 1, none⟩ (.int .i64 (q : Int))).setCell ⟨g12, 2, none⟩ (.slice A13 (r * q) c13) = w14 at *
   try dsimp only
   refine hK.out _ _ ?_ (fun hHeld => ?_)
   ·exact fun h => (st_no (by kernel_rfl) h).elim
   clear hK K
   try simp only [pU, pU0, pA, pB, pC]
   clear hHeld
   refine puG 11 ⟨_, _, _, _, _, _⟩ (v := ?_) ?_ (fun h => (st_no (by kernel_rfl) h).elim) ?_
   rotate_left
   ·intro w hSw
    try dsimp only at hSw
    go_simp
    try with_reducible rfl
   try simp only [pU, pU0, pA, pB, pC]
   refine wpAnyG_done (by kernel_rfl) ?_ _
   refine NoPanic.normal ?_
   clear hHeld
   obtain ⟨a0, a1, a2⟩ := H14.out.cells mm3
   by_cases htc : st.at_ < c
   ·have HBAD := Lib.hid (show solves r c d a b = false from by
     cases h : solves r c d a b with
     | false => rfl
     | true => have h2 := (solves_iff.1 h).1; rw [HST.out] at h2; omega)
    have htc1 : (st.at_ : Int) < (c : Int) := by omega
    clear htc
    obtain ⟨⟨d0, d1, d2⟩, f0, f1, f2⟩ := H14.out.blk mm1
    have hfin := H14.out.end_ mm1 HG.out (.int .i64 0) (.int .i64 0) (.slice none 0 0)
    go_wp2_with fail
    obtain ⟨h1, e0, e1, e2⟩ := hfin
    refine bodyPost_ret (v := .tuple #[.agg #[.int .i64 0, .int .i64 0, .slice none 0 0], .int .i64 51]) (by simp [results, Try.results22, go_sem, e0, e1, e2]) rfl ?_
    exact ⟨fun h => (by rw [HBAD.out] at h; cases h), fun _ => ⟨rfl, h1⟩⟩
   ·have HTC := Lib.hid (show st.at_ = c ∧ c ≤ r from by have h := redTo_at (A := a) (B := b) (r := r) c; rw [HST.out] at h; omega)
    have htc1 : ¬ (st.at_ : Int) < (c : Int) := by omega
    clear htc
    obtain ⟨b0, b1, b2⟩ := H14.out.cells mm2
    have H5 := Lib.hid (AS.start (BS.start w14) (c : Int) (d : Int))
    go_wp2_with fail
    clear a0 a1 a2 b0 b1 b2 htc1
    obtain ⟨gx, hgx⟩ : ∃ x, w14.heap.size = x := ⟨_, rfl⟩
    rw [hgx] at H5 ⊢
    have HGX := Lib.hid hgx
    clear hgx
    generalize w14.alloc (.cells #[.int .i64 (c : Int), .int .i64 (d : Int), .slice none 0 0] 38) = w5 at *
    go_loopw [9] (fun x wr => ∃ (i : Nat) (A2 : Option Addr) (c2 : Nat), x = .int .i64 (i : Int) ∧ i ≤ r ∧ (∀ x, c ≤ x → x < i → ∀ k, k < d → st.B x k = 0) ∧ AS w14 [] gx (c : Int) (d : Int) A2 c2 (flat (min i c) d st.B) wr) (fun x _ => r - (intOf x).toNat)
    case atStart => exact ⟨0, none, 0, rfl, Nat.zero_le _, fun x h1 h2 => absurd h2 (Nat.not_lt_zero _), by rw [Nat.zero_min, flat_nil]; exact H5.out⟩
    case round =>
     obtain ⟨i, A2, c2, rfl, hi, hz, h⟩ := hrel
     have H6 := Lib.hid h
     have HZ := Lib.hid hz
     clear h hz H5
     obtain ⟨w6, rfl⟩ : ∃ w6 : World, w6 = wr := ⟨_, rfl⟩
     have HW := Lib.hid (H14.out.keep H6.out.bs.below)
     obtain ⟨m0, m1, m2⟩ := HW.out.cells mm0
     obtain ⟨a0, a1, a2⟩ := HW.out.cells mm3
     by_cases hir : i < r
     ·have hi1 : (i : Int) < (r : Int) := by omega
      have hi0 : (0 : Int) ≤ (i : Int) := by omega
      have hni : IntKind.i64.wrap ((i : Int) + 1) = ((i + 1 : Nat) : Int) := by have := HN.out.1; rw [IntWalk.i64_in _ (by omega)]; omega
      have HI := Lib.hid hir
      have hle := idx_le (c := q) hir
      have hsz : r * q ≤ 100 * 200 := Nat.mul_le_mul HN.out.1 (by have := HN.out; omega)
      obtain ⟨p, hp⟩ : ∃ p, i * q = p := ⟨_, rfl⟩
      obtain ⟨lo, hlo⟩ : ∃ s, p + c = s := ⟨_, rfl⟩
      obtain ⟨hi', hhi⟩ : ∃ s, p + q = s := ⟨_, rfl⟩
      have HP := Lib.hid (show i * (c + d) + c = lo from by have := HN.out.2.2.2.1; rw [← hlo, ← hp, this])
      have hwa : IntKind.i64.wrap ((i : Int) * (q : Int)) = (p : Int) := by rw [show (i : Int) * (q : Int) = (p : Int) by rw [← hp]; simp, IntWalk.i64_in _ (by rw [hp] at hle; omega)]
      rw [hp] at hle
      have hwb : IntKind.i64.wrap ((p : Int) + (c : Int)) = (lo : Int) := by have := HN.out; rw [IntWalk.i64_in _ (by omega)]; omega
      have hwc : IntKind.i64.wrap ((p : Int) + (q : Int)) = (hi' : Int) := by rw [IntWalk.i64_in _ (by omega)]; omega
      have hcut := fun W => cut_run W A13 (r * q) c13 lo hi' (by have := HN.out; omega) (by have := HLE.out; omega) d (c13 - lo) (by have := HN.out; omega) rfl
      have HC := Lib.hid (show ∀ W : World, Below w14.heap.size w14 W → Bytes W W.heap.size (cutA A13 c13 lo) (row d (st.B i)) from fun W hW => by
       have h1 := ((H14.out.keep hW).row _ mm0).1
       have h2 := cut_bytes h1 (cap := c13) (lo := lo) (k := d) (by dsimp only; rw [flat_len]; have := HN.out; omega) (by dsimp only; rw [flat_len]; exact HLE.out)
       dsimp only at h2
       rw [HN.out.2.2.2.1, ← HP.out, bes_cut _ _ hir] at h2
       rw [← HP.out]; exact h2)
      clear hp hlo hhi hle hsz
      have H7 := H6
      have HW7 := HW
      by_cases hic : i < c
      ·have hic1 : (i : Int) < (c : Int) := by omega
       have HIC := Lib.hid hic
       obtain ⟨l0, hl0⟩ : ∃ l, (flat (min i c) d st.B).length = l := ⟨_, rfl⟩
       have HL0 := Lib.hid (show (flat (min i c) d st.B).length = l0 ∧ l0 ≤ 10000 from ⟨hl0, by
        rw [← hl0, flat_len]
        have h4 : min i c * d ≤ 100 * 100 := Nat.mul_le_mul (by have := HN.out; omega) (by have := HN.out; omega)
        omega⟩)
       have HFS := Lib.hid (show flat (min (i + 1) c) d st.B = flat (min i c) d st.B ++ row d (st.B i) from by rw [show min (i + 1) c = i + 1 by omega, show min i c = i by omega, flat_succ])
       obtain ⟨⟨x0, x1, x2⟩, _⟩ := H7.out.cells
       rw [hl0] at x2
       obtain ⟨hi0', hz0, hz1, hz2⟩ := HI0.out
       clear hl0
       go_wp2_with ((with_reducible show wpList _ _ _ ((⟨some 78, _, _, _, _, _⟩ : Oper) :: _) _ _); refine wpList_app _ rfl _ _ _ rfl w14.heap.size 5 i0 _ 1 Try.underlying22 hi0' hz0 hz1 hz2 rfl A2 c2 _ ((flat (min i c) d st.B).map u8v) rfl (by rw [List.length_map, HL0.out.1]) H7.out.row _ _ _ d ((row d (st.B i)).map u8v) rfl (by rw [List.length_map, row_len]) (HC.out _ H7.out.bs.below) u8v_one (by rw [List.length_map, List.length_map, HL0.out.1, row_len]; have := HL0.out.2; have := HN.out; simp [maxLen]; omega) (by rw [List.length_map, List.length_map, HL0.out.1, row_len]; have := HL0.out.2; have := HN.out; omega) H7.out.bs.below.size (l0 + d) rfl ?_; intro A5 c5 w8 ho hb hg _; have H8 := Lib.hid (H7.out.app (l' := flat (min (i + 1) c) d st.B) (by rw [HFS.out, List.map_append]; exact ho) hb hg); clear ho hb hg; have h9 := H8.out.set; rw [show (flat (min (i + 1) c) d st.B).length = l0 + d from by rw [HFS.out, List.length_append, HL0.out.1, row_len]] at h9; have H9 := Lib.hid h9; clear h9; obtain ⟨k3, k4⟩ := H8.out.cells; rw [HL0.out.1] at k3)
       go_roundw
       case rel => exact ⟨i + 1, A5, c5, by simp, HI.out, fun x h1 h2 => by have := HIC.out; omega, H9.out⟩
       case measure => simp [intOf]; omega
      ·have hic1 : ¬ (i : Int) < (c : Int) := by omega
       have HIC := Lib.hid (show c ≤ i from by omega)
       clear hic
       go_wp2_with fail
       clear a0 a1 a2 m0 m1 m2
       go_loopw [11] (fun y wr => ∃ k : Nat, y = .int .i64 (k : Int) ∧ k ≤ d ∧ (∀ y, y < k → st.B i y = 0) ∧ w6 = wr) (fun y _ => d - (intOf y).toNat)
       case atStart => exact ⟨0, rfl, Nat.zero_le _, fun y h => absurd h (Nat.not_lt_zero _), rfl⟩
       case round =>
        obtain ⟨k, rfl, hk, hzz, rfl⟩ := hrel
        by_cases hkd : k < d
        ·have hk1 : (k : Int) < (d : Int) := by omega
         have hk0 : (0 : Int) ≤ (k : Int) := by omega
         have hnk : IntKind.i64.wrap ((k : Int) + 1) = ((k + 1 : Nat) : Int) := by have := HN.out; rw [IntWalk.i64_in _ (by omega)]; omega
         obtain ⟨ab, ao, eA, _, hc⟩ := (HC.out _ H7.out.bs.below).at_ (k := k) (by rw [row_len]; exact hkd)
         obtain ⟨x, hx⟩ : ∃ x, st.B i k = x := ⟨_, rfl⟩
         rw [show (row d (st.B i))[k]'(by rw [row_len]; exact hkd) = x from by
          have h := row_get (f := st.B i) hkd
          rw [List.getElem?_eq_getElem (by rw [row_len]; exact hkd)] at h
          injection h with h
          rw [h, hx]] at hc
         rw [eA]
         by_cases hx0 : x = 0
         ·have hxz : (((x.toNat : Nat) : Int) != 0) = false := by rw [hx0]; rfl
          have HZZ := Lib.hid (show k < d ∧ ∀ y, y < k + 1 → st.B i y = 0 from ⟨hkd, fun y h => by
           by_cases e : y = k
           ·rw [e, hx, hx0]
           ·exact hzz y (by omega)⟩)
          clear hx hx0 hzz
          go_wp2_with fail
          go_roundw
          case rel => exact ⟨k + 1, by simp, HZZ.out.1, HZZ.out.2, trivial⟩
          case measure => simp [intOf]; omega
         ·have hxz : (((x.toNat : Nat) : Int) != 0) = true := by rw [bne, u8_zero_no hx0]; rfl
          have HBAD := Lib.hid (show solves r c d a b = false from by
           cases h : solves r c d a b with
           | false => rfl
           | true =>
            have h2 := (solves_iff.1 h).2 i HIC.out HI.out k hkd
            rw [HST.out, hx] at h2
            exact absurd h2 hx0)
          clear hx hx0 hzz
          obtain ⟨⟨d0, d1, d2⟩, f0, f1, f2⟩ := HW7.out.blk mm1
          have hfin := HW7.out.end_ mm1 HG.out (.int .i64 0) (.int .i64 0) (.slice none 0 0)
          go_wp2_with fail
          obtain ⟨h1, e0, e1, e2⟩ := hfin
          refine bodyPost_ret (v := .tuple #[.agg #[.int .i64 0, .int .i64 0, .slice none 0 0], .int .i64 51]) (by simp [results, Try.results22, go_sem, e0, e1, e2]) rfl ?_
          exact ⟨fun h => (by rw [HBAD.out] at h; cases h), fun _ => ⟨rfl, h1⟩⟩
        ·obtain rfl : d = k := by omega
         have HZZ := Lib.hid hzz
         clear hzz
         go_wp2_with fail
         go_roundw
         case rel =>
          refine ⟨i + 1, A2, c2, by simp, HI.out, fun x h1 h2 k hk => ?_, by rw [show min (i + 1) c = min i c by have := HIC.out; omega]; exact H7.out⟩
          by_cases e : x = i
          ·rw [e]; exact HZZ.out k hk
          ·exact HZ.out x h1 (by omega) k hk
         case measure => simp [intOf]; omega
     ·obtain rfl : r = i := by omega
      have HOK := Lib.hid (show solves r c d a b = true from solves_iff.2 (by rw [HST.out]; exact ⟨HTC.out.1, HZ.out⟩))
      have H7 := Lib.hid (show AS w14 [] gx (c : Int) (d : Int) A2 c2 (flat c d st.B) w6 from by have h := H6.out; rw [show min r c = c by have := HTC.out.2; omega] at h; exact h)
      clear H6
      obtain ⟨⟨x0, x1, x2⟩, _⟩ := H7.out.cells
      obtain ⟨lq, hlq⟩ : ∃ lq, (flat c d st.B).length = lq := ⟨_, rfl⟩
      rw [hlq] at x2
      have HLQ := Lib.hid (hlq.symm.trans (flat_len _ _ _))
      clear hlq
      obtain ⟨⟨d0, d1, d2⟩, f0, f1, f2⟩ := HW.out.blk mm1
      have hfin := HW.out.end_ mm1 HG.out (.int .i64 (c : Int)) (.int .i64 (d : Int)) (.slice A2 lq c2)
      have hnw : Nw w.heap.size (((w6.setCell ⟨g0, 0, none⟩ (.int .i64 (c : Int))).setCell ⟨g0, 1, none⟩ (.int .i64 (d : Int))).setCell ⟨g0, 2, none⟩ (.slice A2 lq c2)) A2 (flat c d st.B) := by
       obtain ⟨T, hbk⟩ := (H14.out.box _ mm1).1
       obtain ⟨T', hbk'⟩ := (HW.out.box _ mm1).1
       have hg0 : g0 < w14.heap.size := hbk.lt
       obtain ⟨_, hf⟩ := set3 hbk' (.int .i64 (c : Int)) (.int .i64 (d : Int)) (.slice A2 lq c2)
       refine (Nw.of_own (Own.fr H7.out.row hf fun g' e e2 => ?_)).mono H14.out.below.size
       rcases H7.out.row.form with ⟨e3, _⟩ | ⟨g3, e3, h3, _⟩
       ·rw [e3] at e; cases e
       ·rw [e3] at e; injection e with e; have := congrArg Addr.block e; dsimp only at this; omega
      go_wp2_with fail
      obtain ⟨h1, e0, e1, e2⟩ := hfin
      refine bodyPost_ret (v := .tuple #[.agg #[.int .i64 (c : Int), .int .i64 (d : Int), .slice A2 lq c2], .int .i64 0]) (by simp [results, Try.results22, go_sem, e0, e1, e2]) rfl ?_
      have e9 := HLQ.out
      subst e9
      refine ⟨fun _ => ?_, fun h => (by rw [HOK.out] at h; cases h)⟩
      rw [HST.out]
      refine ⟨A2, c2, rfl, ?_, hnw, h1⟩
      have h3 := H7.out.row.le
      rw [List.length_map, flat_len] at h3
      exact h3
 ·skip
  refine step_new (P := Try.prog) _ ⟨rfl, rfl, rfl⟩ newMx5 ?_
  have H11 := Lib.hid (HD10.out.putT #[.int .i64 0, .int .i64 0, .slice none 0 0] 38)
  have HB11 := Lib.hid (And.intro HD10.out.below.size HD10.out.far)
  obtain ⟨g11, hg11⟩ : ∃ x, wd10.heap.size = x := ⟨_, rfl⟩
  rw [hg11] at H11 HB11 ⊢
  clear hg11
  generalize wd10.alloc (.cells #[.int .i64 0, .int .i64 0, .slice none 0 0] 38) = w11 at *
  try dsimp only
  refine hK.out _ _ (fun _ => have h := H11.out; ⟨h.cells mm3, h.cells mm2⟩) fun hHeld => ?_
  clear hK K
  try simp only [pU, pU0, pA, pB, pC]
  have hHeld := hHeld (by kernel_rfl)
  refine on 2 rfl fun K hK => ?_
  go_simp
  refine (besR H11.out mm1 mm0 rfl rfl ⟨HN.out.1, HN.out.2.1, HN.out.2.2.1⟩ q HN.out.2.2.2.1).mono ?_
  rintro e w12 ⟨A12, c12, rfl, h⟩
  have H12 := Lib.hid h
  clear h
  try dsimp only
  refine hK.out _ _ (fun _ => have h := H12.out; ⟨h.cells mm3, h.cells mm2⟩) fun hHeld => ?_
  clear hK K
  try simp only [pU, pU0, pA, pB, pC]
  have hHeld := hHeld (by kernel_rfl)
  refine on 5 rfl fun K hK => ?_
  go_simp
  refine (redR H12.out (ma := besM c a b) mm0 rfl rfl ⟨HN.out.1, by have := HN.out; omega⟩ c (by have := HN.out; omega)).mono ?_
  rintro e w13 ⟨A13, c13, L13, k13, rfl, hle, h⟩
  rw [HRD.out.1]
  rw [HRD.out.2] at h
  have H13 := Lib.hid h
  have HLE := Lib.hid hle
  clear h hle
  try dsimp only
  refine hK.out _ _ (fun _ => have h := H13.out; ⟨h.cells mm3, h.cells mm2⟩) fun hHeld => ?_
  clear hK K
  try simp only [pU, pU0, pA, pB, pC]
  have hHeld := hHeld (by kernel_rfl)
  refine pu 6 ?_
  refine pu 7 ?_
  refine pu 8 ?_
  refine on 10 rfl fun K hK => ?_
  obtain ⟨⟨z0, z1, z2⟩, f0, f1, f2⟩ := H13.out.blk mm0
  go_simp
  have H14 := Lib.hid (H13.out.set HB11.out.1 HB11.out.2 (.int .i64 (r : Int)) (.int .i64 (q : Int)) (.slice A13 (r * q) c13))
  clear z0 z1 z2 f0 f1 f2 HB11
  generalize ((w13.setCell ⟨g11, 0, none⟩ (.int .i64 (r : Int))).setCell ⟨g11, 1, none⟩ (.int .i64 (q : Int))).setCell ⟨g11, 2, none⟩ (.slice A13 (r * q) c13) = w14 at *
  try dsimp only
  refine hK.out _ _ ?_ (fun hHeld => ?_)
  ·exact fun h => (st_no (by kernel_rfl) h).elim
  clear hK K
  try simp only [pU, pU0, pA, pB, pC]
  clear hHeld
  refine puG 11 ⟨_, _, _, _, _, _⟩ (v := ?_) ?_ (fun h => (st_no (by kernel_rfl) h).elim) ?_
  rotate_left
  ·intro w hSw
   try dsimp only at hSw
   go_simp
   try with_reducible rfl
  try simp only [pU, pU0, pA, pB, pC]
  refine wpAnyG_done (by kernel_rfl) ?_ _
  refine NoPanic.normal ?_
  clear hHeld
  obtain ⟨a0, a1, a2⟩ := H14.out.cells mm3
  by_cases htc : st.at_ < c
  ·have HBAD := Lib.hid (show solves r c d a b = false from by
    cases h : solves r c d a b with
    | false => rfl
    | true => have h2 := (solves_iff.1 h).1; rw [HST.out] at h2; omega)
   have htc1 : (st.at_ : Int) < (c : Int) := by omega
   clear htc
   obtain ⟨⟨d0, d1, d2⟩, f0, f1, f2⟩ := H14.out.blk mm1
   have hfin := H14.out.end_ mm1 HG.out (.int .i64 0) (.int .i64 0) (.slice none 0 0)
   go_wp2_with fail
   obtain ⟨h1, e0, e1, e2⟩ := hfin
   refine bodyPost_ret (v := .tuple #[.agg #[.int .i64 0, .int .i64 0, .slice none 0 0], .int .i64 51]) (by simp [results, Try.results22, go_sem, e0, e1, e2]) rfl ?_
   exact ⟨fun h => (by rw [HBAD.out] at h; cases h), fun _ => ⟨rfl, h1⟩⟩
  ·have HTC := Lib.hid (show st.at_ = c ∧ c ≤ r from by have h := redTo_at (A := a) (B := b) (r := r) c; rw [HST.out] at h; omega)
   have htc1 : ¬ (st.at_ : Int) < (c : Int) := by omega
   clear htc
   obtain ⟨b0, b1, b2⟩ := H14.out.cells mm2
   have H5 := Lib.hid (AS.start (BS.start w14) (c : Int) (d : Int))
   go_wp2_with fail
   clear a0 a1 a2 b0 b1 b2 htc1
   obtain ⟨gx, hgx⟩ : ∃ x, w14.heap.size = x := ⟨_, rfl⟩
   rw [hgx] at H5 ⊢
   have HGX := Lib.hid hgx
   clear hgx
   generalize w14.alloc (.cells #[.int .i64 (c : Int), .int .i64 (d : Int), .slice none 0 0] 38) = w5 at *
   go_loopw [9] (fun x wr => ∃ (i : Nat) (A2 : Option Addr) (c2 : Nat), x = .int .i64 (i : Int) ∧ i ≤ r ∧ (∀ x, c ≤ x → x < i → ∀ k, k < d → st.B x k = 0) ∧ AS w14 [] gx (c : Int) (d : Int) A2 c2 (flat (min i c) d st.B) wr) (fun x _ => r - (intOf x).toNat)
   case atStart => exact ⟨0, none, 0, rfl, Nat.zero_le _, fun x h1 h2 => absurd h2 (Nat.not_lt_zero _), by rw [Nat.zero_min, flat_nil]; exact H5.out⟩
   case round =>
    obtain ⟨i, A2, c2, rfl, hi, hz, h⟩ := hrel
    have H6 := Lib.hid h
    have HZ := Lib.hid hz
    clear h hz H5
    obtain ⟨w6, rfl⟩ : ∃ w6 : World, w6 = wr := ⟨_, rfl⟩
    have HW := Lib.hid (H14.out.keep H6.out.bs.below)
    obtain ⟨m0, m1, m2⟩ := HW.out.cells mm0
    obtain ⟨a0, a1, a2⟩ := HW.out.cells mm3
    by_cases hir : i < r
    ·have hi1 : (i : Int) < (r : Int) := by omega
     have hi0 : (0 : Int) ≤ (i : Int) := by omega
     have hni : IntKind.i64.wrap ((i : Int) + 1) = ((i + 1 : Nat) : Int) := by have := HN.out.1; rw [IntWalk.i64_in _ (by omega)]; omega
     have HI := Lib.hid hir
     have hle := idx_le (c := q) hir
     have hsz : r * q ≤ 100 * 200 := Nat.mul_le_mul HN.out.1 (by have := HN.out; omega)
     obtain ⟨p, hp⟩ : ∃ p, i * q = p := ⟨_, rfl⟩
     obtain ⟨lo, hlo⟩ : ∃ s, p + c = s := ⟨_, rfl⟩
     obtain ⟨hi', hhi⟩ : ∃ s, p + q = s := ⟨_, rfl⟩
     have HP := Lib.hid (show i * (c + d) + c = lo from by have := HN.out.2.2.2.1; rw [← hlo, ← hp, this])
     have hwa : IntKind.i64.wrap ((i : Int) * (q : Int)) = (p : Int) := by rw [show (i : Int) * (q : Int) = (p : Int) by rw [← hp]; simp, IntWalk.i64_in _ (by rw [hp] at hle; omega)]
     rw [hp] at hle
     have hwb : IntKind.i64.wrap ((p : Int) + (c : Int)) = (lo : Int) := by have := HN.out; rw [IntWalk.i64_in _ (by omega)]; omega
     have hwc : IntKind.i64.wrap ((p : Int) + (q : Int)) = (hi' : Int) := by rw [IntWalk.i64_in _ (by omega)]; omega
     have hcut := fun W => cut_run W A13 (r * q) c13 lo hi' (by have := HN.out; omega) (by have := HLE.out; omega) d (c13 - lo) (by have := HN.out; omega) rfl
     have HC := Lib.hid (show ∀ W : World, Below w14.heap.size w14 W → Bytes W W.heap.size (cutA A13 c13 lo) (row d (st.B i)) from fun W hW => by
      have h1 := ((H14.out.keep hW).row _ mm0).1
      have h2 := cut_bytes h1 (cap := c13) (lo := lo) (k := d) (by dsimp only; rw [flat_len]; have := HN.out; omega) (by dsimp only; rw [flat_len]; exact HLE.out)
      dsimp only at h2
      rw [HN.out.2.2.2.1, ← HP.out, bes_cut _ _ hir] at h2
      rw [← HP.out]; exact h2)
     clear hp hlo hhi hle hsz
     have H7 := H6
     have HW7 := HW
     by_cases hic : i < c
     ·have hic1 : (i : Int) < (c : Int) := by omega
      have HIC := Lib.hid hic
      obtain ⟨l0, hl0⟩ : ∃ l, (flat (min i c) d st.B).length = l := ⟨_, rfl⟩
      have HL0 := Lib.hid (show (flat (min i c) d st.B).length = l0 ∧ l0 ≤ 10000 from ⟨hl0, by
       rw [← hl0, flat_len]
       have h4 : min i c * d ≤ 100 * 100 := Nat.mul_le_mul (by have := HN.out; omega) (by have := HN.out; omega)
       omega⟩)
      have HFS := Lib.hid (show flat (min (i + 1) c) d st.B = flat (min i c) d st.B ++ row d (st.B i) from by rw [show min (i + 1) c = i + 1 by omega, show min i c = i by omega, flat_succ])
      obtain ⟨⟨x0, x1, x2⟩, _⟩ := H7.out.cells
      rw [hl0] at x2
      obtain ⟨hi0', hz0, hz1, hz2⟩ := HI0.out
      clear hl0
      go_wp2_with ((with_reducible show wpList _ _ _ ((⟨some 78, _, _, _, _, _⟩ : Oper) :: _) _ _); refine wpList_app _ rfl _ _ _ rfl w14.heap.size 5 i0 _ 1 Try.underlying22 hi0' hz0 hz1 hz2 rfl A2 c2 _ ((flat (min i c) d st.B).map u8v) rfl (by rw [List.length_map, HL0.out.1]) H7.out.row _ _ _ d ((row d (st.B i)).map u8v) rfl (by rw [List.length_map, row_len]) (HC.out _ H7.out.bs.below) u8v_one (by rw [List.length_map, List.length_map, HL0.out.1, row_len]; have := HL0.out.2; have := HN.out; simp [maxLen]; omega) (by rw [List.length_map, List.length_map, HL0.out.1, row_len]; have := HL0.out.2; have := HN.out; omega) H7.out.bs.below.size (l0 + d) rfl ?_; intro A5 c5 w8 ho hb hg _; have H8 := Lib.hid (H7.out.app (l' := flat (min (i + 1) c) d st.B) (by rw [HFS.out, List.map_append]; exact ho) hb hg); clear ho hb hg; have h9 := H8.out.set; rw [show (flat (min (i + 1) c) d st.B).length = l0 + d from by rw [HFS.out, List.length_append, HL0.out.1, row_len]] at h9; have H9 := Lib.hid h9; clear h9; obtain ⟨k3, k4⟩ := H8.out.cells; rw [HL0.out.1] at k3)
      go_roundw
      case rel => exact ⟨i + 1, A5, c5, by simp, HI.out, fun x h1 h2 => by have := HIC.out; omega, H9.out⟩
      case measure => simp [intOf]; omega
     ·have hic1 : ¬ (i : Int) < (c : Int) := by omega
      have HIC := Lib.hid (show c ≤ i from by omega)
      clear hic
      go_wp2_with fail
      clear a0 a1 a2 m0 m1 m2
      go_loopw [11] (fun y wr => ∃ k : Nat, y = .int .i64 (k : Int) ∧ k ≤ d ∧ (∀ y, y < k → st.B i y = 0) ∧ w6 = wr) (fun y _ => d - (intOf y).toNat)
      case atStart => exact ⟨0, rfl, Nat.zero_le _, fun y h => absurd h (Nat.not_lt_zero _), rfl⟩
      case round =>
       obtain ⟨k, rfl, hk, hzz, rfl⟩ := hrel
       by_cases hkd : k < d
       ·have hk1 : (k : Int) < (d : Int) := by omega
        have hk0 : (0 : Int) ≤ (k : Int) := by omega
        have hnk : IntKind.i64.wrap ((k : Int) + 1) = ((k + 1 : Nat) : Int) := by have := HN.out; rw [IntWalk.i64_in _ (by omega)]; omega
        obtain ⟨ab, ao, eA, _, hc⟩ := (HC.out _ H7.out.bs.below).at_ (k := k) (by rw [row_len]; exact hkd)
        obtain ⟨x, hx⟩ : ∃ x, st.B i k = x := ⟨_, rfl⟩
        rw [show (row d (st.B i))[k]'(by rw [row_len]; exact hkd) = x from by
         have h := row_get (f := st.B i) hkd
         rw [List.getElem?_eq_getElem (by rw [row_len]; exact hkd)] at h
         injection h with h
         rw [h, hx]] at hc
        rw [eA]
        by_cases hx0 : x = 0
        ·have hxz : (((x.toNat : Nat) : Int) != 0) = false := by rw [hx0]; rfl
         have HZZ := Lib.hid (show k < d ∧ ∀ y, y < k + 1 → st.B i y = 0 from ⟨hkd, fun y h => by
          by_cases e : y = k
          ·rw [e, hx, hx0]
          ·exact hzz y (by omega)⟩)
         clear hx hx0 hzz
         go_wp2_with fail
         go_roundw
         case rel => exact ⟨k + 1, by simp, HZZ.out.1, HZZ.out.2, trivial⟩
         case measure => simp [intOf]; omega
        ·have hxz : (((x.toNat : Nat) : Int) != 0) = true := by rw [bne, u8_zero_no hx0]; rfl
         have HBAD := Lib.hid (show solves r c d a b = false from by
          cases h : solves r c d a b with
          | false => rfl
          | true =>
           have h2 := (solves_iff.1 h).2 i HIC.out HI.out k hkd
           rw [HST.out, hx] at h2
           exact absurd h2 hx0)
         clear hx hx0 hzz
         obtain ⟨⟨d0, d1, d2⟩, f0, f1, f2⟩ := HW7.out.blk mm1
         have hfin := HW7.out.end_ mm1 HG.out (.int .i64 0) (.int .i64 0) (.slice none 0 0)
         go_wp2_with fail
         obtain ⟨h1, e0, e1, e2⟩ := hfin
         refine bodyPost_ret (v := .tuple #[.agg #[.int .i64 0, .int .i64 0, .slice none 0 0], .int .i64 51]) (by simp [results, Try.results22, go_sem, e0, e1, e2]) rfl ?_
         exact ⟨fun h => (by rw [HBAD.out] at h; cases h), fun _ => ⟨rfl, h1⟩⟩
       ·obtain rfl : d = k := by omega
        have HZZ := Lib.hid hzz
        clear hzz
        go_wp2_with fail
        go_roundw
        case rel =>
         refine ⟨i + 1, A2, c2, by simp, HI.out, fun x h1 h2 k hk => ?_, by rw [show min (i + 1) c = min i c by have := HIC.out; omega]; exact H7.out⟩
         by_cases e : x = i
         ·rw [e]; exact HZZ.out k hk
         ·exact HZ.out x h1 (by omega) k hk
        case measure => simp [intOf]; omega
    ·obtain rfl : r = i := by omega
     have HOK := Lib.hid (show solves r c d a b = true from solves_iff.2 (by rw [HST.out]; exact ⟨HTC.out.1, HZ.out⟩))
     have H7 := Lib.hid (show AS w14 [] gx (c : Int) (d : Int) A2 c2 (flat c d st.B) w6 from by have h := H6.out; rw [show min r c = c by have := HTC.out.2; omega] at h; exact h)
     clear H6
     obtain ⟨⟨x0, x1, x2⟩, _⟩ := H7.out.cells
     obtain ⟨lq, hlq⟩ : ∃ lq, (flat c d st.B).length = lq := ⟨_, rfl⟩
     rw [hlq] at x2
     have HLQ := Lib.hid (hlq.symm.trans (flat_len _ _ _))
     clear hlq
     obtain ⟨⟨d0, d1, d2⟩, f0, f1, f2⟩ := HW.out.blk mm1
     have hfin := HW.out.end_ mm1 HG.out (.int .i64 (c : Int)) (.int .i64 (d : Int)) (.slice A2 lq c2)
     have hnw : Nw w.heap.size (((w6.setCell ⟨g0, 0, none⟩ (.int .i64 (c : Int))).setCell ⟨g0, 1, none⟩ (.int .i64 (d : Int))).setCell ⟨g0, 2, none⟩ (.slice A2 lq c2)) A2 (flat c d st.B) := by
      obtain ⟨T, hbk⟩ := (H14.out.box _ mm1).1
      obtain ⟨T', hbk'⟩ := (HW.out.box _ mm1).1
      have hg0 : g0 < w14.heap.size := hbk.lt
      obtain ⟨_, hf⟩ := set3 hbk' (.int .i64 (c : Int)) (.int .i64 (d : Int)) (.slice A2 lq c2)
      refine (Nw.of_own (Own.fr H7.out.row hf fun g' e e2 => ?_)).mono H14.out.below.size
      rcases H7.out.row.form with ⟨e3, _⟩ | ⟨g3, e3, h3, _⟩
      ·rw [e3] at e; cases e
      ·rw [e3] at e; injection e with e; have := congrArg Addr.block e; dsimp only at this; omega
     go_wp2_with fail
     obtain ⟨h1, e0, e1, e2⟩ := hfin
     refine bodyPost_ret (v := .tuple #[.agg #[.int .i64 (c : Int), .int .i64 (d : Int), .slice A2 lq c2], .int .i64 0]) (by simp [results, Try.results22, go_sem, e0, e1, e2]) rfl ?_
     have e9 := HLQ.out
     subst e9
     refine ⟨fun _ => ?_, fun h => (by rw [HOK.out] at h; cases h)⟩
     rw [HST.out]
     refine ⟨A2, c2, rfl, ?_, hnw, h1⟩
     have h3 := H7.out.row.le
     rw [List.length_map, flat_len] at h3
     exact h3
end Go.Proofs.Ythdapoipfnnaeaa.MxW
/- What MatrixTwo and MatrixOne ask for beyond: copies, the document's product and solution, sameness. -/
namespace Go.Proofs.Ythdapoipfnnaeaa.MxW
open Go.RowKit Go.Shelf Mem Gf FdW Mx Rng
open PlW (In)
set_option linter.unusedVariables false
set_option linter.unusedSectionVars false

theorem via2_2 {P : Prop} {H : Nat → Nat → Option Addr → Nat → Option Addr → Nat → World → Prop} (G : Nat → Nat → Option Addr → Nat → Option Addr → Nat → World → Prop) (main : (∀ g k A c B d W, H g k A c B d W → G g k A c B d W) → P) (rest : ∀ g k A c B d W, H g k A c B d W → G g k A c B d W) : P := main rest
theorem via1_1 {P : Prop} {H : Nat → Option Addr → Nat → World → Prop} (G : Nat → Option Addr → Nat → World → Prop) (main : (∀ g A c W, H g A c W → G g A c W) → P) (rest : ∀ g A c W, H g A c W → G g A c W) : P := main rest
theorem via1_0 {P : Prop} {H : Nat → World → Prop} (G : Nat → World → Prop) (main : (∀ g W, H g W → G g W) → P) (rest : ∀ g W, H g W → G g W) : P := main rest
theorem sol_nat2 {R C R' C' : Int} {n n' : Nat} (h : solB R C n R' C' n' = true) : ∃ r c d : Nat, R = r ∧ C = c ∧ R' = r ∧ C' = d ∧ n = r * c ∧ n' = r * d := by
 unfold solB at h
 rw [Bool.and_eq_true, Bool.and_eq_true] at h
 obtain ⟨r, c, rfl, rfl, _, _, e1⟩ := right_nat h.1.1
 obtain ⟨r', d, rfl, rfl, _, _, e2⟩ := right_nat h.1.2
 have e3 : r = r' := by have := h.2; simp at this; omega
 subst e3
 exact ⟨r, c, d, rfl, rfl, rfl, rfl, e1, e2⟩
theorem MS.sub {w0 w : World} {p : Option Nat} {R R' : List Rw} {X X' : List (Nat × Array Value)} (h : MS w0 p R X w) (hr : ∀ r ∈ R', r ∈ R) (hx : ∀ x ∈ X', x ∈ X) : MS w0 p R' X' w := ⟨h.below, h.fld, fun r k => h.row r (hr r k), fun x k => h.box x (hx x k)⟩
section
variable {w0 w : World} {p : Option Nat} {R : List Rw} {X : List (Nat × Array Value)}
variable (h : MS w0 p R X w)
include h
variable {A B : Option Addr} {a b : List UInt8} {ca cb n m r c d : Nat} {ma mb : M} {R1 C1 R2 C2 : Int}
theorem copiedR (ha : ⟨A, a, ca⟩ ∈ R) (hn : a.length = n) : Calls Try.prog 17 #[.agg #[.int .i64 R1, .int .i64 C1, .slice A n ca]] w (MatO w0 p R X R1 C1 n a) := by
 subst hn
 exact (copied_any w R1 C1 A a _ ca rfl (h.row _ ha).1).mono fun e w' ⟨A', c', he, hle, hnw, hb⟩ => ⟨A', c', he, (h.keep hb).new hnw h.lt hle⟩
theorem rsameR (ha : ⟨A, a, ca⟩ ∈ R) (hn : a.length = n) (hb : ⟨B, b, cb⟩ ∈ R) (hm : b.length = m) {v : Bool} (hv : sameB R1 C1 R2 C2 a b = v) :
    Calls Try.prog 25 #[.agg #[.int .i64 R1, .int .i64 C1, .slice A n ca], .agg #[.int .i64 R2, .int .i64 C2, .slice B m cb]] w (SayM w0 p R X (.bool v)) := by
 subst hv
 exact (rsame_any w R1 C1 R2 C2 A B a b n ca m cb _ _ hn hm (Nat.le_refl _) (Nat.le_refl _) (h.row _ ha).1 (h.row _ hb).1).mono fun e w' ⟨he, hb⟩ => ⟨he, h.keep hb⟩
theorem rrightR {v : Bool} (hv : rightB R1 C1 n = v) : Calls Try.prog 37 #[.agg #[.int .i64 R1, .int .i64 C1, .slice A n ca]] w (SayM w0 p R X (.bool v)) := by
 subst hv
 exact (rright_any w R1 C1 A n ca).mono fun e w' ⟨he, hb⟩ => ⟨he, h.keep hb⟩
theorem rmulR (ha : ⟨A, a, ca⟩ ∈ R) (hb : ⟨B, b, cb⟩ ∈ R) (hn : n = r * c) (hm : m = c * d) (hR : R1 = r ∧ C1 = c ∧ R2 = c ∧ C2 = d) (hd : r ≤ 100 ∧ c ≤ 100 ∧ d ≤ 100) (hA : a = flat r c ma) (hB : b = flat c d mb)
    (Ro Co : Int) (no : Nat) (ho : Ro = r ∧ Co = d ∧ no = r * d) {l : List UInt8} (hl : flat r d (mulM c ma mb) = l) :
    Calls Try.prog 19 #[.agg #[.int .i64 R1, .int .i64 C1, .slice A n ca], .agg #[.int .i64 R2, .int .i64 C2, .slice B m cb]] w (MatR w0 p R X Ro Co no l) := by
 obtain ⟨rfl, rfl, rfl, rfl⟩ := hR
 subst hA; subst hB
 exact (rmul_ok w r c d A B n ca m cb ma mb hn hm hd (h.row _ ha).1 (h.row _ hb).1).mono fun e w' k => newT h ho hl k
theorem rmul0R (hv : mulB R1 C1 n R2 C2 m = false) : Calls Try.prog 19 #[.agg #[.int .i64 R1, .int .i64 C1, .slice A n ca], .agg #[.int .i64 R2, .int .i64 C2, .slice B m cb]] w (SayM w0 p R X (.tuple #[.agg #[.int .i64 0, .int .i64 0, .slice none 0 0], .int .i64 50])) :=
 (rmul_bad w R1 C1 R2 C2 A B n ca m cb hv).mono fun e w' ⟨he, hb⟩ => ⟨he, h.keep hb⟩
theorem rsolveR (ha : ⟨A, a, ca⟩ ∈ R) (hb : ⟨B, b, cb⟩ ∈ R) (hn : n = r * c) (hm : m = r * d) (hR : R1 = r ∧ C1 = c ∧ R2 = r ∧ C2 = d) (hd : r ≤ 100 ∧ c ≤ 100 ∧ d ≤ 100) (hA : a = flat r c ma) (hB : b = flat r d mb) (hs : solves r c d ma mb = true)
    (Ro Co : Int) (no : Nat) (ho : Ro = c ∧ Co = d ∧ no = c * d) {l : List UInt8} (hl : flat c d (redTo r ma mb c).B = l) :
    Calls Try.prog 22 #[.agg #[.int .i64 R1, .int .i64 C1, .slice A n ca], .agg #[.int .i64 R2, .int .i64 C2, .slice B m cb]] w (MatR w0 p R X Ro Co no l) := by
 obtain ⟨rfl, rfl, rfl, rfl⟩ := hR
 subst hA; subst hB
 have k1 := (h.row _ ha).2.2; have k2 := (h.row _ hb).2.2
 dsimp only at k1 k2
 rw [flat_len] at k1 k2
 exact (rsolve_any w r c d A B n ca m cb ma mb hn hm ⟨by omega, by omega⟩ hd (h.row _ ha).1 (h.row _ hb).1).mono fun e w' k => newT h ho hl (k.1 hs)
theorem rsolve1R (ha : ⟨A, a, ca⟩ ∈ R) (hb : ⟨B, b, cb⟩ ∈ R) (hn : n = r * c) (hm : m = r * d) (hR : R1 = r ∧ C1 = c ∧ R2 = r ∧ C2 = d) (hd : r ≤ 100 ∧ c ≤ 100 ∧ d ≤ 100) (hA : a = flat r c ma) (hB : b = flat r d mb) (hs : solves r c d ma mb = false) :
    Calls Try.prog 22 #[.agg #[.int .i64 R1, .int .i64 C1, .slice A n ca], .agg #[.int .i64 R2, .int .i64 C2, .slice B m cb]] w (SayM w0 p R X (.tuple #[.agg #[.int .i64 0, .int .i64 0, .slice none 0 0], .int .i64 51])) := by
 obtain ⟨rfl, rfl, rfl, rfl⟩ := hR
 subst hA; subst hB
 have k1 := (h.row _ ha).2.2; have k2 := (h.row _ hb).2.2
 dsimp only at k1 k2
 rw [flat_len] at k1 k2
 exact (rsolve_any w r c d A B n ca m cb ma mb hn hm ⟨by omega, by omega⟩ hd (h.row _ ha).1 (h.row _ hb).1).mono fun e w' k => ⟨(k.2 hs).1, h.keep (k.2 hs).2⟩
theorem rsolve0R (hv : solB R1 C1 n R2 C2 m = false) : Calls Try.prog 22 #[.agg #[.int .i64 R1, .int .i64 C1, .slice A n ca], .agg #[.int .i64 R2, .int .i64 C2, .slice B m cb]] w (SayM w0 p R X (.tuple #[.agg #[.int .i64 0, .int .i64 0, .slice none 0 0], .int .i64 50])) :=
 (rsolve_bad w R1 C1 R2 C2 A B n ca m cb hv).mono fun e w' ⟨he, hb⟩ => ⟨he, h.keep hb⟩
end
end Go.Proofs.Ythdapoipfnnaeaa.MxW
/- The document's Rank and Inverse. -/
namespace Go.Proofs.Ythdapoipfnnaeaa.MxW
open Go.RowKit Go.Shelf Mem Gf FdW Mx Rng
open PlW (In)
set_option linter.unusedVariables false
set_option linter.unusedSectionVars false
attribute [local go_sem] Oper.semAt_some wide_fn
set_option maxRecDepth 100000 in
set_option maxHeartbeats 40000000 in
theorem rrank_bad (w : World) (R C : Int) (A : Option Addr) (n cap : Nat) (hrt : rightB R C n = false) :
    Calls Try.prog 36 #[.agg #[.int .i64 R, .int .i64 C, .slice A n cap]] w fun e w' => e = .returned (.tuple #[.int .i64 0, .int .i64 50]) ∧ Below w.heap.size w w' := by
 have HR := Lib.hid hrt
 have H0 := Lib.hid ((MS.start w).putT #[.int .i64 R, .int .i64 C, .slice A n cap] 38)
 go_enter Try.func36, Try.ntmps36
 obtain ⟨a0, a1, a2⟩ := H0.out.cells mm0
 go_wp2_with fail
 clear a0 a1 a2
 generalize w.alloc (.cells #[.int .i64 R, .int .i64 C, .slice A n cap] 38) = w1 at *
 refine (rright_any w1 _ _ A n cap).mono ?_
 rintro e w2 ⟨rfl, hb⟩
 rw [HR.out]
 have H1 := Lib.hid (H0.out.keep hb)
 clear hb
 go_wp2_with fail
 go_ret2
 exact ⟨rfl, H1.out.below⟩
set_option maxRecDepth 100000 in
set_option maxHeartbeats 40000000 in
theorem rrank_ok (w : World) (r c : Nat) (A : Option Addr) (n cap : Nat) (m : M) (hn : n = r * c) (hcap : n ≤ cap) (hd : r ≤ 100 ∧ c ≤ 100) (hA : Bytes w w.heap.size A (flat r c m)) :
    Calls Try.prog 36 #[.agg #[.int .i64 (r : Int), .int .i64 (c : Int), .slice A n cap]] w fun e w' => e = .returned (.tuple #[.int .i64 (rankM r c m : Int), .int .i64 0]) ∧ Below w.heap.size w w' := by
 obtain ⟨k, hk⟩ : ∃ k, rankM r c m = k := ⟨_, rfl⟩
 have HK := Lib.hid (show (redTo r m m c).at_ = k from by rw [rank_eq]; exact hk)
 rw [hk]
 have HN := Lib.hid (And.intro hd hn)
 have HR := Lib.hid (show rightB (r : Int) (c : Int) n = true from right_dim hd hn)
 have H0 := Lib.hid (((MS.start w).arg hA (c := cap) (by rw [flat_len]; omega)).putT #[.int .i64 (r : Int), .int .i64 (c : Int), .slice A n cap] 38)
 clear hk hA hcap hn hd
 go_enter Try.func36, Try.ntmps36
 obtain ⟨a0, a1, a2⟩ := H0.out.cells mm0
 go_wp2_with fail
 clear a0 a1 a2
 generalize w.alloc (.cells #[.int .i64 (r : Int), .int .i64 (c : Int), .slice A n cap] 38) = w1 at *
 refine (rright_any w1 _ _ A n cap).mono ?_
 rintro e w2 ⟨rfl, hb⟩
 rw [HR.out]
 have H1 := Lib.hid (H0.out.keep hb)
 clear hb H0
 obtain ⟨a0, a1, a2⟩ := H1.out.cells mm0
 go_wp2_with fail
 clear a0 a1 a2
 refine (redR H1.out (ma := m) mm0 rfl HN.out.2 ⟨HN.out.1.1, by have := HN.out.1; omega⟩ c (Nat.le_refl _)).mono ?_
 rintro e w3 ⟨A3, c3, L3, k3, rfl, hle, h⟩
 rw [HK.out]
 have H3 := Lib.hid h
 clear h hle
 have H4 := Lib.hid (H3.out.putT #[.int .i64 (r : Int), .int .i64 (c : Int), .slice A3 (r * c) c3] 38)
 go_wp2_with fail
 go_ret2
 exact ⟨rfl, H4.out.below⟩
set_option maxRecDepth 100000 in
set_option maxHeartbeats 40000000 in
theorem rinv_bad0 (w : World) (R C : Int) (A : Option Addr) (n cap : Nat) (hrt : rightB R C n = false) :
    Calls Try.prog 38 #[.agg #[.int .i64 R, .int .i64 C, .slice A n cap]] w (ErrM w 50) := by
 have HRT := Lib.hid hrt
 have H0 := Lib.hid (((MS.start w).putT #[.int .i64 R, .int .i64 C, .slice A n cap] 38).putT #[.int .i64 0, .int .i64 0, .slice none 0 0] 38)
 go_enter Try.func38, Try.ntmps38
 obtain ⟨a0, a1, a2⟩ := H0.out.cells mm1
 go_wp2_with fail
 clear a0 a1 a2
 generalize (w.alloc (.cells #[.int .i64 R, .int .i64 C, .slice A n cap] 38)).alloc (.cells #[.int .i64 0, .int .i64 0, .slice none 0 0] 38) = w1 at *
 simp only [World.size_alloc] at H0
 obtain ⟨ga, hga⟩ : ∃ x, w.heap.size = x := ⟨_, rfl⟩
 obtain ⟨g0, hg0⟩ : ∃ x, ga + 1 = x := ⟨_, rfl⟩
 have HG := Lib.hid (show w.heap.size ≤ g0 from by omega)
 rw [hga, hg0] at H0 ⊢
 clear hga hg0
 refine (rright_any w1 _ _ A n cap).mono ?_
 rintro e w2 ⟨rfl, hb⟩
 rw [HRT.out]
 have H2 := Lib.hid (H0.out.keep hb)
 clear hb H0
 obtain ⟨a0, a1, a2⟩ := H2.out.cells mm1
 obtain ⟨⟨d0, d1, d2⟩, f0, f1, f2⟩ := H2.out.blk mm0
 have hfin := H2.out.end_ mm0 HG.out (.int .i64 0) (.int .i64 0) (.slice none 0 0)
 go_wp2_with fail
 obtain ⟨h1, e0, e1, e2⟩ := hfin
 exact bodyPost_ret (v := .tuple #[.agg #[.int .i64 0, .int .i64 0, .slice none 0 0], .int .i64 50]) (by simp [results, Try.results38, go_sem, e0, e1, e2]) rfl ⟨rfl, h1⟩
set_option maxRecDepth 100000 in
set_option maxHeartbeats 40000000 in
theorem rinv_bad1 (w : World) (R C : Int) (A : Option Addr) (n cap : Nat) (hrt : rightB R C n = true) (hne : (R != C) = true) :
    Calls Try.prog 38 #[.agg #[.int .i64 R, .int .i64 C, .slice A n cap]] w (ErrM w 50) := by
 have HRT := Lib.hid hrt
 have H0 := Lib.hid (((MS.start w).putT #[.int .i64 R, .int .i64 C, .slice A n cap] 38).putT #[.int .i64 0, .int .i64 0, .slice none 0 0] 38)
 go_enter Try.func38, Try.ntmps38
 obtain ⟨a0, a1, a2⟩ := H0.out.cells mm1
 go_wp2_with fail
 clear a0 a1 a2
 generalize (w.alloc (.cells #[.int .i64 R, .int .i64 C, .slice A n cap] 38)).alloc (.cells #[.int .i64 0, .int .i64 0, .slice none 0 0] 38) = w1 at *
 simp only [World.size_alloc] at H0
 obtain ⟨ga, hga⟩ : ∃ x, w.heap.size = x := ⟨_, rfl⟩
 obtain ⟨g0, hg0⟩ : ∃ x, ga + 1 = x := ⟨_, rfl⟩
 have HG := Lib.hid (show w.heap.size ≤ g0 from by omega)
 rw [hga, hg0] at H0 ⊢
 clear hga hg0
 refine (rright_any w1 _ _ A n cap).mono ?_
 rintro e w2 ⟨rfl, hb⟩
 rw [HRT.out]
 have H2 := Lib.hid (H0.out.keep hb)
 clear hb H0
 obtain ⟨a0, a1, a2⟩ := H2.out.cells mm1
 obtain ⟨⟨d0, d1, d2⟩, f0, f1, f2⟩ := H2.out.blk mm0
 have hfin := H2.out.end_ mm0 HG.out (.int .i64 0) (.int .i64 0) (.slice none 0 0)
 go_wp2_with fail
 obtain ⟨h1, e0, e1, e2⟩ := hfin
 exact bodyPost_ret (v := .tuple #[.agg #[.int .i64 0, .int .i64 0, .slice none 0 0], .int .i64 50]) (by simp [results, Try.results38, go_sem, e0, e1, e2]) rfl ⟨rfl, h1⟩
theorem rinv_bad (w : World) (R C : Int) (A : Option Addr) (n cap : Nat) (h : (rightB R C n && R == C) = false) : Calls Try.prog 38 #[.agg #[.int .i64 R, .int .i64 C, .slice A n cap]] w (ErrM w 50) := by
 cases h1 : rightB R C n with
 | false => exact rinv_bad0 w R C A n cap h1
 | true => exact rinv_bad1 w R C A n cap h1 (by rw [h1] at h; simpa [bne] using h)
set_option maxRecDepth 100000 in
set_option maxHeartbeats 40000000 in
theorem rinv_no (w : World) (r : Nat) (A : Option Addr) (n cap : Nat) (a : M) (hn : n = r * r) (hcap : n ≤ cap) (hr : r ≤ 100) (hA : Bytes w w.heap.size A (flat r r a)) (hs : solves r r r a idm = false) :
    Calls Try.prog 38 #[.agg #[.int .i64 (r : Int), .int .i64 (r : Int), .slice A n cap]] w (ErrM w 51) := by
 have HN := Lib.hid (And.intro hr hn)
 have HS := Lib.hid hs
 have HRT := Lib.hid (show rightB (r : Int) (r : Int) n = true from right_dim ⟨hr, hr⟩ hn)
 have h4 : ¬ (4096 : Int) < (r : Int) := by omega
 have HR0 := Lib.hid ((MS.start w).arg hA (c := cap) (by rw [flat_len]; omega))
 clear hn hcap hr hA hs
 have H0 := Lib.hid ((HR0.out.putT #[.int .i64 (r : Int), .int .i64 (r : Int), .slice A n cap] 38).putT #[.int .i64 0, .int .i64 0, .slice none 0 0] 38)
 go_enter Try.func38, Try.ntmps38
 obtain ⟨a0, a1, a2⟩ := H0.out.cells mm1
 go_wp2_with fail
 clear a0 a1 a2
 generalize (w.alloc (.cells #[.int .i64 (r : Int), .int .i64 (r : Int), .slice A n cap] 38)).alloc (.cells #[.int .i64 0, .int .i64 0, .slice none 0 0] 38) = w1 at *
 simp only [World.size_alloc] at H0
 obtain ⟨ga, hga⟩ : ∃ x, w.heap.size = x := ⟨_, rfl⟩
 obtain ⟨g0, hg0⟩ : ∃ x, ga + 1 = x := ⟨_, rfl⟩
 have HG := Lib.hid (show w.heap.size ≤ g0 from by omega)
 rw [hga, hg0] at H0 ⊢
 clear hga hg0
 refine (rright_any w1 _ _ A n cap).mono ?_
 rintro e w2 ⟨rfl, hb⟩
 rw [HRT.out]
 have H2 := Lib.hid (H0.out.keep hb)
 clear hb H0
 obtain ⟨a0, a1, a2⟩ := H2.out.cells mm1
 go_wp2_with fail
 clear a0 a1 a2
 have H3 := Lib.hid (show MS _ _ _ _ w2.drew from H2.out.keep (nextN (Mem.start w2) 1))
 refine wp_region_noPanic ?_
 refine wp_heldG (fun w' => w'.cell? ⟨ga, 0, none⟩ = some (.int .i64 (r : Int)) ∧ w'.cell? ⟨ga, 1, none⟩ = some (.int .i64 (r : Int)) ∧ w'.cell? ⟨ga, 2, none⟩ = some (.slice A n cap)) [7] (by kernel_rfl) ?hs0 ?rg0
 case hs0 =>
  exact H3.out.cells mm1
 case rg0 =>
 intro hHeld
 refine tk 0 rfl (by intro w hSw; obtain ⟨k0, k1, k2⟩ := hSw; go_simp; try with_reducible rfl) ?_
 refine pu 1 ?_
 refine tk 2 rfl (by intro w hSw; obtain ⟨k0, k1, k2⟩ := hSw; go_simp; try with_reducible rfl) ?_
 refine on 3 rfl fun K hK => ?_
 go_simp
 refine (roneR H3.out (R1 := (r : Int)) (r := r) (by omega) (by have := HN.out.1; omega) (r : Int) (r * r) ⟨rfl, rfl⟩ rfl).mono ?_
 rintro e w4 ⟨A4, c4, rfl, h⟩
 have H4 := Lib.hid h
 clear h
 try dsimp only
 refine hK.out _ _ (fun _ => H4.out.cells mm1) fun hHeld => ?_
 clear hK K
 try simp only [pU, pU0, pA, pB, pC]
 have hHeld := hHeld (by kernel_rfl)
 refine on 4 rfl fun K hK => ?_
 go_simp
 refine (rsolve1R H4.out (r := r) (c := r) (d := r) mm1 mm0 HN.out.2 rfl ⟨rfl, rfl, rfl, rfl⟩ ⟨HN.out.1, HN.out.1, HN.out.1⟩ rfl rfl HS.out).mono ?_
 rintro e w5 ⟨rfl, h⟩
 have H5 := Lib.hid h
 clear h
 try dsimp only
 refine hK.out _ _ (fun _ => H5.out.cells mm1) fun hHeld => ?_
 clear hK K
 try simp only [pU, pU0, pA, pB, pC]
 have hHeld := hHeld (by kernel_rfl)
 refine pu 5 ?_
 refine pu 6 ?_
 refine on 7 rfl fun K hK => ?_
 obtain ⟨⟨d0, d1, d2⟩, f0, f1, f2⟩ := H5.out.blk mm0
 go_simp
 try dsimp only
 refine hK.out _ _ ?_ (fun hHeld => ?_)
 ·exact fun h => (st_no (by kernel_rfl) h).elim
 clear hK K
 try simp only [pU, pU0, pA, pB, pC]
 clear hHeld
 refine puG 8 ⟨_, _, _, _, _, _⟩ (v := ?_) ?_ (fun h => (st_no (by kernel_rfl) h).elim) ?_
 rotate_left
 ·intro w hSw
  try dsimp only at hSw
  go_simp
  try with_reducible rfl
 try simp only [pU, pU0, pA, pB, pC]
 refine wpAnyG_done (by kernel_rfl) ?_ _
 refine NoPanic.normal ?_
 have hfin := H5.out.end_ mm0 HG.out (.int .i64 0) (.int .i64 0) (.slice none 0 0)
 clear hHeld
 go_wp2_with fail
 obtain ⟨h1, e0, e1, e2⟩ := hfin
 refine bodyPost_ret (v := .tuple #[.agg #[.int .i64 0, .int .i64 0, .slice none 0 0], .int .i64 51]) (by simp [results, Try.results38, go_sem, e0, e1, e2]) rfl ?_
 exact ⟨rfl, h1⟩
set_option maxRecDepth 100000 in
set_option maxHeartbeats 40000000 in
theorem rinv_ok (w : World) (r : Nat) (A : Option Addr) (n cap : Nat) (a : M) (hn : n = r * r) (hcap : n ≤ cap) (hr : r ≤ 100) (hA : Bytes w w.heap.size A (flat r r a)) (hs : solves r r r a idm = true) :
    Calls Try.prog 38 #[.agg #[.int .i64 (r : Int), .int .i64 (r : Int), .slice A n cap]] w (NewT w r r (redTo r a idm r).B) := by
 have HN := Lib.hid (And.intro hr hn)
 have HS := Lib.hid hs
 have HRT := Lib.hid (show rightB (r : Int) (r : Int) n = true from right_dim ⟨hr, hr⟩ hn)
 have h4 : ¬ (4096 : Int) < (r : Int) := by omega
 have HR0 := Lib.hid ((MS.start w).arg hA (c := cap) (by rw [flat_len]; omega))
 clear hn hcap hr hA hs
 have H0 := Lib.hid ((HR0.out.putT #[.int .i64 (r : Int), .int .i64 (r : Int), .slice A n cap] 38).putT #[.int .i64 0, .int .i64 0, .slice none 0 0] 38)
 go_enter Try.func38, Try.ntmps38
 obtain ⟨a0, a1, a2⟩ := H0.out.cells mm1
 go_wp2_with fail
 clear a0 a1 a2
 generalize (w.alloc (.cells #[.int .i64 (r : Int), .int .i64 (r : Int), .slice A n cap] 38)).alloc (.cells #[.int .i64 0, .int .i64 0, .slice none 0 0] 38) = w1 at *
 simp only [World.size_alloc] at H0
 obtain ⟨ga, hga⟩ : ∃ x, w.heap.size = x := ⟨_, rfl⟩
 obtain ⟨g0, hg0⟩ : ∃ x, ga + 1 = x := ⟨_, rfl⟩
 have HG := Lib.hid (show w.heap.size ≤ g0 from by omega)
 rw [hga, hg0] at H0 ⊢
 clear hga hg0
 refine (rright_any w1 _ _ A n cap).mono ?_
 rintro e w2 ⟨rfl, hb⟩
 rw [HRT.out]
 have H2 := Lib.hid (H0.out.keep hb)
 clear hb H0
 obtain ⟨a0, a1, a2⟩ := H2.out.cells mm1
 go_wp2_with fail
 clear a0 a1 a2
 have H3 := Lib.hid (show MS _ _ _ _ w2.drew from H2.out.keep (nextN (Mem.start w2) 1))
 refine wp_region_noPanic ?_
 refine wp_heldG (fun w' => w'.cell? ⟨ga, 0, none⟩ = some (.int .i64 (r : Int)) ∧ w'.cell? ⟨ga, 1, none⟩ = some (.int .i64 (r : Int)) ∧ w'.cell? ⟨ga, 2, none⟩ = some (.slice A n cap)) [7] (by kernel_rfl) ?hs0 ?rg0
 case hs0 =>
  exact H3.out.cells mm1
 case rg0 =>
 intro hHeld
 refine tk 0 rfl (by intro w hSw; obtain ⟨k0, k1, k2⟩ := hSw; go_simp; try with_reducible rfl) ?_
 refine pu 1 ?_
 refine tk 2 rfl (by intro w hSw; obtain ⟨k0, k1, k2⟩ := hSw; go_simp; try with_reducible rfl) ?_
 refine on 3 rfl fun K hK => ?_
 go_simp
 refine (roneR H3.out (R1 := (r : Int)) (r := r) (by omega) (by have := HN.out.1; omega) (r : Int) (r * r) ⟨rfl, rfl⟩ rfl).mono ?_
 rintro e w4 ⟨A4, c4, rfl, h⟩
 have H4 := Lib.hid h
 clear h
 try dsimp only
 refine hK.out _ _ (fun _ => H4.out.cells mm1) fun hHeld => ?_
 clear hK K
 try simp only [pU, pU0, pA, pB, pC]
 have hHeld := hHeld (by kernel_rfl)
 refine on 4 rfl fun K hK => ?_
 go_simp
 have hra := H4.out.row _ mm1
 have hri := H4.out.row _ mm0
 refine (rsolve_any w4 r r r A A4 n cap (r * r) c4 a idm HN.out.2 rfl ⟨by have := HN.out.2; have h := hra.2.2; dsimp only at h; rw [flat_len] at h; omega, by have h := hri.2.2; dsimp only at h; rwa [flat_len] at h⟩ ⟨HN.out.1, HN.out.1, HN.out.1⟩ hra.1 hri.1).mono ?_
 rintro e w5 k
 obtain ⟨A5, c5, rfl, hle, hnw, hb⟩ := k.1 HS.out
 have H5 := Lib.hid (H4.out.keep hb)
 have HNW := Lib.hid (And.intro hle hnw)
 have HSZ := Lib.hid (show g0 < w4.heap.size from by obtain ⟨T, k⟩ := (H4.out.box _ mm0).1; exact k.lt)
 clear k hle hnw hb hra hri
 try dsimp only
 refine hK.out _ _ (fun _ => H5.out.cells mm1) fun hHeld => ?_
 clear hK K
 try simp only [pU, pU0, pA, pB, pC]
 have hHeld := hHeld (by kernel_rfl)
 refine pu 5 ?_
 refine pu 6 ?_
 refine on 7 rfl fun K hK => ?_
 obtain ⟨⟨d0, d1, d2⟩, f0, f1, f2⟩ := H5.out.blk mm0
 go_simp
 try dsimp only
 refine hK.out _ _ ?_ (fun hHeld => ?_)
 ·exact fun h => (st_no (by kernel_rfl) h).elim
 clear hK K
 try simp only [pU, pU0, pA, pB, pC]
 clear hHeld
 refine puG 8 ⟨_, _, _, _, _, _⟩ (v := ?_) ?_ (fun h => (st_no (by kernel_rfl) h).elim) ?_
 rotate_left
 ·intro w hSw
  try dsimp only at hSw
  go_simp
  try with_reducible rfl
 try simp only [pU, pU0, pA, pB, pC]
 refine wpAnyG_done (by kernel_rfl) ?_ _
 refine NoPanic.normal ?_
 have hfin := H5.out.end_ mm0 HG.out (.int .i64 (r : Int)) (.int .i64 (r : Int)) (.slice A5 (r * r) c5)
 clear hHeld
 go_wp2_with fail
 obtain ⟨h1, e0, e1, e2⟩ := hfin
 refine bodyPost_ret (v := .tuple #[.agg #[.int .i64 (r : Int), .int .i64 (r : Int), .slice A5 (r * r) c5], .int .i64 0]) (by simp [results, Try.results38, go_sem, e0, e1, e2]) rfl ?_
 obtain ⟨T, hbk⟩ := (H5.out.box _ mm0).1
 exact ⟨A5, c5, rfl, HNW.out.1, (nw_fr HNW.out.2 (set3 hbk _ _ _).2 HSZ.out).mono H4.out.below.size, h1⟩
end Go.Proofs.Ythdapoipfnnaeaa.MxW
/- The document's Turned. -/
namespace Go.Proofs.Ythdapoipfnnaeaa.MxW
open Go.RowKit Go.Shelf Mem Gf FdW Mx Rng
open PlW (In)
set_option linter.unusedVariables false
set_option linter.unusedSectionVars false
attribute [local go_sem] Oper.semAt_some wide_fn

def rtUp (a : M) (i k : Nat) : M := fun x y => if y < i ∨ (y = i ∧ x < k) then a y x else 0
theorem rtUp_step (a : M) (i k x y : Nat) : upd (rtUp a i k) k i (a i k) x y = rtUp a i (k + 1) x y := by
 unfold upd rtUp
 by_cases h : x = k ∧ y = i
 ·obtain ⟨rfl, rfl⟩ := h
  rw [if_pos ⟨rfl, rfl⟩, if_pos (.inr ⟨rfl, by omega⟩)]
 ·rw [if_neg h]
  by_cases h2 : y < i ∨ y = i ∧ x < k
  ·rw [if_pos h2, if_pos (by omega)]
  ·rw [if_neg h2, if_neg (by omega)]
theorem rtUp_next {c : Nat} (a : M) (i x y : Nat) (hx : x < c) : rtUp a i c x y = rtUp a (i + 1) 0 x y := by
 unfold rtUp
 by_cases h : y < i ∨ y = i ∧ x < c
 ·rw [if_pos h, if_pos (by omega)]
 ·rw [if_neg h, if_neg (by omega)]
set_option maxRecDepth 100000 in
set_option maxHeartbeats 40000000 in
theorem rturned_bad (w : World) (R C : Int) (A : Option Addr) (n cap : Nat) (hrt : rightB R C n = false) :
    Calls Try.prog 35 #[.agg #[.int .i64 R, .int .i64 C, .slice A n cap]] w (ErrM w 50) := by
 have HRT := Lib.hid hrt
 have H0 := Lib.hid (((BS.start w).put #[.int .i64 R, .int .i64 C, .slice A n cap] 38 (by decide)).put #[.int .i64 0, .int .i64 0, .slice none 0 0] 38 (by decide))
 go_enter Try.func35, Try.ntmps35
 obtain ⟨⟨a0, a1, a2⟩, _⟩ := H0.out.cells mm1
 go_wp2_with fail
 clear a0 a1 a2
 obtain ⟨w1, hw1⟩ : ∃ x : World, (w.alloc (.cells #[.int .i64 R, .int .i64 C, .slice A n cap] 38)).alloc (.cells #[.int .i64 0, .int .i64 0, .slice none 0 0] 38) = x := ⟨_, rfl⟩
 rw [hw1, World.size_alloc] at H0
 rw [hw1]
 clear hw1
 obtain ⟨ga, hga⟩ : ∃ x, w.heap.size = x := ⟨_, rfl⟩
 obtain ⟨g0, hg0⟩ : ∃ x, ga + 1 = x := ⟨_, rfl⟩
 rw [hga, hg0] at H0 ⊢
 refine (rright_any w1 _ _ A n cap).mono ?_
 rintro e w2 ⟨rfl, hb⟩
 rw [HRT.out]
 have H1 := Lib.hid (H0.out.keep hb)
 clear hb H0
 obtain ⟨⟨d0, d1, d2⟩, f0, f1, f2⟩ := H1.out.cells mm0
 have hfin := H1.out.end_ mm0 (.int .i64 0) (.int .i64 0) (.slice none 0 0)
 go_wp2_with fail
 obtain ⟨h1, h2, e0, e1, e2⟩ := hfin
 exact bodyPost_ret (v := .tuple #[.agg #[.int .i64 0, .int .i64 0, .slice none 0 0], .int .i64 50]) (by simp [results, Try.results35, go_sem, e0, e1, e2]) rfl ⟨rfl, h1⟩
set_option maxRecDepth 100000 in
set_option maxHeartbeats 40000000 in
theorem rturned_ok (w : World) (r c : Nat) (A : Option Addr) (n cap : Nat) (a : M) (hn : n = r * c) (hd : r ≤ 100 ∧ c ≤ 100) (hA : Bytes w w.heap.size A (flat r c a)) :
    Calls Try.prog 35 #[.agg #[.int .i64 (r : Int), .int .i64 (c : Int), .slice A n cap]] w (NewT w c r fun x y => a y x) := by
 have HN := Lib.hid (And.intro hd.1 (And.intro hd.2 hn))
 have HRT := Lib.hid (show rightB (r : Int) (c : Int) n = true from right_dim hd hn)
 have HA := Lib.hid hA
 clear hn hd hA
 have H0 := Lib.hid (((BS.start w).put #[.int .i64 (r : Int), .int .i64 (c : Int), .slice A n cap] 38 (by decide)).put #[.int .i64 0, .int .i64 0, .slice none 0 0] 38 (by decide))
 go_enter Try.func35, Try.ntmps35
 obtain ⟨⟨a0, a1, a2⟩, _⟩ := H0.out.cells mm1
 go_wp2_with fail
 clear a0 a1 a2
 obtain ⟨w1, hw1⟩ : ∃ x : World, (w.alloc (.cells #[.int .i64 (r : Int), .int .i64 (c : Int), .slice A n cap] 38)).alloc (.cells #[.int .i64 0, .int .i64 0, .slice none 0 0] 38) = x := ⟨_, rfl⟩
 rw [hw1, World.size_alloc] at H0
 rw [hw1]
 clear hw1
 obtain ⟨ga, hga⟩ : ∃ x, w.heap.size = x := ⟨_, rfl⟩
 obtain ⟨g0, hg0⟩ : ∃ x, ga + 1 = x := ⟨_, rfl⟩
 rw [hga, hg0] at H0 ⊢
 refine (rright_any w1 _ _ A n cap).mono ?_
 rintro e w2 ⟨rfl, hb⟩
 rw [HRT.out]
 have H1 := Lib.hid (H0.out.keep hb)
 clear hb H0
 obtain ⟨⟨a0, a1, a2⟩, _⟩ := H1.out.cells mm1
 go_wp2_with fail
 clear a0 a1 a2
 refine (rnone_any w2 (c) (r) (by have h1 : c * r ≤ 100 * 100 := Nat.mul_le_mul HN.out.2.1 HN.out.1; omega)).mono ?_
 rintro e w22 ⟨g, rfl, ho, hb⟩
 have H2 := Lib.hid (H1.out.none_ (g := g) (cap := c * r) (r := c) (c := r) (m := fun _ _ => 0) (show Wm w22 w.heap.size g (c * r) (c) (r) _ from ho.down H1.out.below.size) hb)
 clear ho hb 
 have H3 := Lib.hid (H2.out.put (mcells (c) (r) (some ⟨g, 0, none⟩) (c * r) (c * r)) 38 (by decide))
 go_wp2_with fail
 obtain ⟨gm, hgm⟩ : ∃ x, w22.heap.size = x := ⟨_, rfl⟩
 obtain ⟨w3, hw3⟩ : ∃ x : World, w22.alloc (.cells #[.int .i64 (c : Int), .int .i64 (r : Int), .slice (some ⟨g, 0, none⟩) (c * r) (c * r)] 38) = x := ⟨_, rfl⟩
 have hw3' : w22.alloc (.cells (mcells (c) (r) (some ⟨g, 0, none⟩) (c * r) (c * r)) 38) = w3 := hw3
 rw [hw3', hgm] at H3
 rw [hw3, hgm]
 clear hw3 hw3' hgm
 go_loopw [5] (fun i wr => ∃ i' : Nat, i = .int .i64 (i' : Int) ∧ i' ≤ r ∧ WS w [(gm, 38, mcells c r (some ⟨g, 0, none⟩) (c * r) (c * r)), (g0, 38, #[.int .i64 0, .int .i64 0, .slice none 0 0]), (ga, 38, mcells r c A n cap)] g (c * r) c r (rtUp a i' 0) wr) (fun i _ => r - (intOf i).toNat)
 case atStart => exact ⟨0, rfl, Nat.zero_le _, H3.out.congr fun x _ y _ => by unfold rtUp; rw [if_neg (by omega)]⟩
 case round =>
  obtain ⟨i, rfl, hi, h⟩ := hrel
  have H4 := Lib.hid h
  clear h H3
  obtain ⟨w4, rfl⟩ : ∃ w4 : World, w4 = wr := ⟨_, rfl⟩
  obtain ⟨⟨a0, a1, a2⟩, _⟩ := H4.out.cells mm2
  by_cases hir : i < r
  ·have hi1 : (i : Int) < (r : Int) := by omega
   have hwi : IntKind.i64.wrap ((i : Int) + 1) = ((i + 1 : Nat) : Int) := by have := HN.out.1; rw [IntWalk.i64_in _ (by omega)]; omega
   have HI := Lib.hid hir
   go_wp2_with fail
   clear a0 a1 a2
   go_loopw [6] (fun k wr => ∃ k' : Nat, k = .int .i64 (k' : Int) ∧ k' ≤ c ∧ WS w [(gm, 38, mcells c r (some ⟨g, 0, none⟩) (c * r) (c * r)), (g0, 38, #[.int .i64 0, .int .i64 0, .slice none 0 0]), (ga, 38, mcells r c A n cap)] g (c * r) c r (rtUp a i k') wr) (fun k _ => c - (intOf k).toNat)
   case atStart => exact ⟨0, rfl, Nat.zero_le _, H4.out⟩
   case round =>
    obtain ⟨k, rfl, hk, h⟩ := hrel
    have H5 := Lib.hid h
    clear h
    obtain ⟨w5, rfl⟩ : ∃ w5 : World, w5 = wr := ⟨_, rfl⟩
    obtain ⟨⟨a0, a1, a2⟩, _⟩ := H5.out.cells mm2
    by_cases hkc : k < c
    ·have hk1 : (k : Int) < (c : Int) := by omega
     have hwk : IntKind.i64.wrap ((k : Int) + 1) = ((k + 1 : Nat) : Int) := by have := HN.out.2.1; rw [IntWalk.i64_in _ (by omega)]; omega
     have HK := Lib.hid hkc
     have hpl := idx_lt HI.out hkc
     have hsl := idx_lt (c := r) hkc HI.out
     have hsz1 : r * c ≤ 100 * 100 := Nat.mul_le_mul HN.out.1 HN.out.2.1
     have hsz3 : c * r ≤ 100 * 100 := Nat.mul_le_mul HN.out.2.1 HN.out.1
     obtain ⟨p, hp⟩ : ∃ p, i * c + k = p := ⟨_, rfl⟩
     obtain ⟨s, hs⟩ : ∃ s, k * r + i = s := ⟨_, rfl⟩
     obtain ⟨ab, ao, eA, -, -⟩ := HA.out.at_ (k := p) (by rw [flat_len, ← hp]; exact hpl)
     obtain ⟨x, hx⟩ : ∃ x, a i k = x := ⟨_, rfl⟩
     have HX := Lib.hid (show ∀ W : World, Below w.heap.size w W → W.cell? ⟨ab, ao + p, none⟩ = some (.int .u8 (x.toNat : Int)) from fun W hW => by
      obtain ⟨b', o', e', _, hc⟩ := (HA.out.below hW).at_ (k := p) (by rw [flat_len, ← hp]; exact hpl)
      rw [eA] at e'; injection e' with e'; injection e' with e1 e2; subst e1; subst e2
      rw [hc]; simp only [← hp, flat_getE HI.out hkc, hx])
     subst eA
     have HZE := Lib.hid (And.intro hx hs)
     have HD5 := Lib.hid (show WS w [(gm, 38, mcells c r (some ⟨g, 0, none⟩) (c * r) (c * r)), (g0, 38, #[.int .i64 0, .int .i64 0, .slice none 0 0]), (ga, 38, mcells r c (some ⟨ab, ao, none⟩) n cap)] g (c * r) c r (rtUp a i k) w5.drew from H5.out.keep (nextN (Mem.start w5) 1))
     have HZS := Lib.hid (HD5.out.row.at2 hkc HI.out hs (x := rtUp a i k k i) rfl)
     have hw1 : IntKind.i64.wrap ((i : Int) * (c : Int)) = ((i * c : Nat) : Int) := by rw [show (i : Int) * (c : Int) = ((i * c : Nat) : Int) by simp, IntWalk.i64_in _ (by omega)]
     have hw3 : IntKind.i64.wrap ((k : Int) * (r : Int)) = ((k * r : Nat) : Int) := by rw [show (k : Int) * (r : Int) = ((k * r : Nat) : Int) by simp, IntWalk.i64_in _ (by omega)]
     obtain ⟨p1, hp1⟩ : ∃ p1, i * c = p1 := ⟨_, rfl⟩
     obtain ⟨s1, hs1⟩ : ∃ s1, k * r = s1 := ⟨_, rfl⟩
     rw [hp1] at hw1 hp hpl
     rw [hs1] at hw3 hs hsl
     have hw2 : IntKind.i64.wrap ((p1 : Int) + (k : Int)) = (p : Int) := by rw [IntWalk.i64_in _ (by omega)]; omega
     have hw4 : IntKind.i64.wrap ((s1 : Int) + (i : Int)) = (s : Int) := by rw [IntWalk.i64_in _ (by omega)]; omega
     have hp0 : (0 : Int) ≤ (p : Int) := by omega
     have hp2 : (p : Int) < (n : Int) := by have := HN.out.2.2; omega
     have hs0 : (0 : Int) ≤ (s : Int) := by omega
     have hs2 : (s : Int) < (c : Int) * (r : Int) := by rw [show (c : Int) * (r : Int) = ((c * r : Nat) : Int) by simp]; omega
     clear hx hp hs hp1 hs1 hpl hsl hsz1 hsz3
     go_wp2_with fail
     clear a0 a1 a2
     refine wp_region_noPanic ?_
     refine wp_heldG (fun w' => (w'.cell? ⟨gm, 0, none⟩ = some (.int .i64 (c : Int)) ∧ w'.cell? ⟨gm, 1, none⟩ = some (.int .i64 (r : Int)) ∧ w'.cell? ⟨gm, 2, none⟩ = some (.slice (some ⟨g, 0, none⟩) (c * r) (c * r))) ∧ (w'.cell? ⟨ga, 0, none⟩ = some (.int .i64 (r : Int)) ∧ w'.cell? ⟨ga, 1, none⟩ = some (.int .i64 (c : Int)) ∧ w'.cell? ⟨ga, 2, none⟩ = some (.slice (some ⟨ab, ao, none⟩) n cap)) ∧ w'.cell? ⟨ab, ao + p, none⟩ = some (.int .u8 (x.toNat : Int))) [19] (by kernel_rfl) ?hs0 ?rg0
     case hs0 =>
      exact ⟨(HD5.out.cells mm0).1, (HD5.out.cells mm2).1, HX.out _ HD5.out.below⟩
     case rg0 =>
     intro hHeld
     refine pu 0 ?_
     refine tk 1 rfl (by intro w hSw; obtain ⟨⟨k0, k1, k2⟩, ⟨l0, l1, l2⟩, t0⟩ := hSw; go_simp; try with_reducible rfl) ?_
     refine pu 2 ?_
     refine pu 3 ?_
     refine tk 4 rfl (by intro w hSw; obtain ⟨⟨k0, k1, k2⟩, ⟨l0, l1, l2⟩, t0⟩ := hSw; go_simp; try with_reducible rfl) ?_
     refine pu 5 ?_
     refine pu 6 ?_
     refine pu 7 ?_
     refine pu 8 ?_
     refine tk 9 rfl (by intro w hSw; obtain ⟨⟨k0, k1, k2⟩, ⟨l0, l1, l2⟩, t0⟩ := hSw; go_simp; try with_reducible rfl) ?_
     refine pu 10 ?_
     refine pu 11 ?_
     refine tk 12 rfl (by intro w hSw; obtain ⟨⟨k0, k1, k2⟩, ⟨l0, l1, l2⟩, t0⟩ := hSw; go_simp; try with_reducible rfl) ?_
     refine pu 13 ?_
     refine pu 14 ?_
     refine pu 15 ?_
     refine pu 16 ?_
     refine tk 17 rfl (by intro w hSw; obtain ⟨⟨k0, k1, k2⟩, ⟨l0, l1, l2⟩, t0⟩ := hSw; go_simp; try with_reducible rfl) ?_
     refine pu 18 ?_
     refine on 19 rfl fun K hK => ?_
     obtain ⟨s3, s4⟩ := HZS.out
     go_simp
     try dsimp only
     refine hK.out _ _ ?_ (fun hHeld => ?_)
     ·exact fun h => (st_no (by kernel_rfl) h).elim
     clear hK K
     try simp only [pU, pU0, pA, pB, pC]
     clear hHeld
     refine wpAnyG_done (by kernel_rfl) ?_ _
     refine NoPanic.normal ?_
     clear hHeld
     have h7 := H5.out.set HK.out HI.out x
     rw [HZE.out.2] at h7
     have H7 := Lib.hid (h7.keep (nextN (Mem.start _) 1))
     clear h7
     go_wp2_with fail
     go_roundw
     case rel =>
      refine ⟨k + 1, by simp, HK.out, H7.out.congr fun x' _ y' _ => ?_⟩
      have h := rtUp_step a i k x' y'
      rw [HZE.out.1] at h
      exact h
     case measure => simp [intOf]; omega
    ·obtain rfl : c = k := by omega
     go_wp2_with fail
     go_roundw
     case rel => exact ⟨i + 1, by simp, HI.out, H5.out.congr fun x hx y _ => rtUp_next a i x y hx⟩
     case measure => simp [intOf]; omega
  ·obtain rfl : r = i := by omega
   obtain ⟨⟨c0, c1, c2⟩, _⟩ := H4.out.cells mm0
   obtain ⟨⟨d0, d1, d2⟩, f0, f1, f2⟩ := H4.out.cells mm1
   have hfin := H4.out.end_ mm1 (.int .i64 (c : Int)) (.int .i64 (r : Int)) (.slice (some ⟨g, 0, none⟩) (c * r) (c * r))
   go_wp2_with fail
   obtain ⟨h1, h2, e0, e1, e2⟩ := hfin
   refine bodyPost_ret (v := .tuple #[.agg #[.int .i64 (c : Int), .int .i64 (r : Int), .slice (some ⟨g, 0, none⟩) (c * r) (c * r)], .int .i64 0]) (by simp [results, Try.results35, go_sem, e0, e1, e2]) rfl ?_
   refine ⟨some ⟨g, 0, none⟩, c * r, rfl, Nat.le_refl _, ?_, h1⟩
   rw [flat_congr (m' := fun x y => a y x) fun x _ y hy => by unfold rtUp; rw [if_pos (.inl hy)]] at h2
   exact h2
end Go.Proofs.Ythdapoipfnnaeaa.MxW
/- The document's Packed. -/
namespace Go.Proofs.Ythdapoipfnnaeaa.MxW
open Go.RowKit Go.Shelf Mem Gf FdW Mx Rng
open PlW (In)
set_option linter.unusedVariables false
set_option linter.unusedSectionVars false
attribute [local go_sem] Oper.semAt_some wide_fn

/-- The packed rows ahead of row i, and of it what lies ahead of column k. -/
def pkUp (n : Nat) (m : M) (i k : Nat) : List UInt8 := packS n m i ++ (packR n m i).take (k - i)
theorem pkUp_len (n : Nat) (m : M) (i k : Nat) (hk : k ≤ n) : (pkUp n m i k).length = offS n i + (k - i) := by
 unfold pkUp
 rw [List.length_append, packS_len, List.length_take, packR_len, Nat.min_eq_left (by omega)]
theorem pkUp_step (n : Nat) (m : M) {i k : Nat} (hi : i ≤ k) (hk : k < n) : pkUp n m i (k + 1) = pkUp n m i k ++ [m i k] := by
 unfold pkUp
 rw [show k + 1 - i = (k - i) + 1 by omega, List.take_succ_eq_append_getElem (by rw [packR_len]; omega), ← List.append_assoc]
 congr 2
 unfold packR
 simp only [List.getElem_map, List.getElem_range]
 rw [show i + (k - i) = k by omega]
theorem pkUp_next (n : Nat) (m : M) (i : Nat) : pkUp n m i n = pkUp n m (i + 1) (i + 1) := by
 unfold pkUp
 rw [packS_succ, Nat.sub_self, List.take_zero, List.append_nil, List.take_of_length_le (by rw [packR_len]; exact Nat.le_refl _)]
theorem pkUp_zero (n : Nat) (m : M) : pkUp n m 0 0 = [] := rfl
theorem pkUp_done (n : Nat) (m : M) : pkUp n m n n = packS n m n := by
 unfold pkUp
 rw [Nat.sub_self, List.take_zero, List.append_nil]
def RPackOk (w : World) (r : Nat) (m : M) (sym : Bool) (e : Ending) (w' : World) : Prop := (sym = true → PackOk w r m e w') ∧ (sym = false → PackNo w e w')
def symB (r : Nat) (m : M) : Bool := decide (∀ i, i < r → ∀ k, k < r → i ≤ k → m i k = m k i)
set_option maxRecDepth 100000 in
set_option maxHeartbeats 40000000 in
theorem rpacked_bad0 (w : World) (R C : Int) (A : Option Addr) (n cap : Nat) (hrt : rightB R C n = false) :
    Calls Try.prog 40 #[.agg #[.int .i64 R, .int .i64 C, .slice A n cap]] w (PackNo w) := by
 have HRT := Lib.hid hrt
 have H0 := Lib.hid ((BS.start w).put #[.int .i64 R, .int .i64 C, .slice A n cap] 38 (by decide))
 go_enter Try.func40, Try.ntmps40
 obtain ⟨⟨a0, a1, a2⟩, _⟩ := H0.out.cells mm0
 go_wp2_with fail
 clear a0 a1 a2
 generalize w.alloc (.cells #[.int .i64 R, .int .i64 C, .slice A n cap] 38) = w1 at *
 obtain ⟨ga, hga⟩ : ∃ x, w.heap.size = x := ⟨_, rfl⟩
 rw [hga] at H0 ⊢
 clear hga
 refine (rright_any w1 _ _ A n cap).mono ?_
 rintro e w2 ⟨rfl, hb⟩
 rw [HRT.out]
 have H1 := Lib.hid (H0.out.keep hb)
 clear hb H0
 obtain ⟨⟨a0, a1, a2⟩, _⟩ := H1.out.cells mm0
 go_wp2_with fail
 go_ret2
 exact ⟨rfl, H1.out.below⟩
set_option maxRecDepth 100000 in
set_option maxHeartbeats 40000000 in
theorem rpacked_bad1 (w : World) (R C : Int) (A : Option Addr) (n cap : Nat) (hrt : rightB R C n = true) (hne : (R != C) = true) :
    Calls Try.prog 40 #[.agg #[.int .i64 R, .int .i64 C, .slice A n cap]] w (PackNo w) := by
 have HRT := Lib.hid hrt
 have H0 := Lib.hid ((BS.start w).put #[.int .i64 R, .int .i64 C, .slice A n cap] 38 (by decide))
 go_enter Try.func40, Try.ntmps40
 obtain ⟨⟨a0, a1, a2⟩, _⟩ := H0.out.cells mm0
 go_wp2_with fail
 clear a0 a1 a2
 generalize w.alloc (.cells #[.int .i64 R, .int .i64 C, .slice A n cap] 38) = w1 at *
 obtain ⟨ga, hga⟩ : ∃ x, w.heap.size = x := ⟨_, rfl⟩
 rw [hga] at H0 ⊢
 clear hga
 refine (rright_any w1 _ _ A n cap).mono ?_
 rintro e w2 ⟨rfl, hb⟩
 rw [HRT.out]
 have H1 := Lib.hid (H0.out.keep hb)
 clear hb H0
 obtain ⟨⟨a0, a1, a2⟩, _⟩ := H1.out.cells mm0
 go_wp2_with fail
 go_ret2
 exact ⟨rfl, H1.out.below⟩
theorem rpacked_bad (w : World) (R C : Int) (A : Option Addr) (n cap : Nat) (h : (rightB R C n && R == C) = false) : Calls Try.prog 40 #[.agg #[.int .i64 R, .int .i64 C, .slice A n cap]] w (PackNo w) := by
 cases h1 : rightB R C n with
 | false => exact rpacked_bad0 w R C A n cap h1
 | true => exact rpacked_bad1 w R C A n cap h1 (by rw [h1] at h; simpa [bne] using h)
/-- Boxes, and bytes that are put one behind another. -/
structure LS (w0 : World) (Y : List (Nat × TypeId × Array Value)) (A : Option Addr) (cap : Nat) (l : List UInt8) (w : World) : Prop where
 bs : BS w0 Y w
 row : Mem.Own w w0.heap.size 5 A cap (l.map u8v)
theorem LS.keep {w0 w w' : World} {Y : List (Nat × TypeId × Array Value)} {A : Option Addr} {cap : Nat} {l : List UInt8} (h : LS w0 Y A cap l w) (hb : Below w.heap.size w w') : LS w0 Y A cap l w' := ⟨h.bs.keep hb, h.row.keep hb⟩
theorem LS.grow {w0 w w' : World} {Y : List (Nat × TypeId × Array Value)} {A A' : Option Addr} {cap cap' : Nat} {l l' : List UInt8} (h : LS w0 Y A cap l w) (ho : Mem.Own w' w0.heap.size 5 A' cap' (l'.map u8v)) (hb : Below w0.heap.size w w') (hg : w.grownBy w' (A.map (·.block))) : LS w0 Y A' cap' l' w' :=
 ⟨⟨h.bs.below.trans hb, fun y hy => ⟨(h.bs.box y hy).1.app h.row (h.bs.box y hy).2.1 hg, (h.bs.box y hy).2⟩⟩, ho⟩
set_option maxRecDepth 100000 in
set_option maxHeartbeats 40000000 in
theorem rpacked_any (w : World) (r : Nat) (A : Option Addr) (n cap : Nat) (m : M) (hn : n = r * r) (hr : r ≤ 100) (hA : Bytes w w.heap.size A (flat r r m)) :
    Calls Try.prog 40 #[.agg #[.int .i64 (r : Int), .int .i64 (r : Int), .slice A n cap]] w (RPackOk w r m (symB r m)) := by
 obtain ⟨i0, hi0, hz0, hz1, hz2⟩ := info_parts u8info
 have HN := Lib.hid (And.intro hr hn)
 have HRT := Lib.hid (show rightB (r : Int) (r : Int) n = true from right_dim ⟨hr, hr⟩ hn)
 have HA := Lib.hid hA
 clear hn hr hA
 have H0 := Lib.hid ((BS.start w).put #[.int .i64 (r : Int), .int .i64 (r : Int), .slice A n cap] 38 (by decide))
 go_enter Try.func40, Try.ntmps40
 obtain ⟨⟨a0, a1, a2⟩, _⟩ := H0.out.cells mm0
 go_wp2_with fail
 clear a0 a1 a2
 generalize w.alloc (.cells #[.int .i64 (r : Int), .int .i64 (r : Int), .slice A n cap] 38) = w1 at *
 obtain ⟨ga, hga⟩ : ∃ x, w.heap.size = x := ⟨_, rfl⟩
 rw [hga] at H0 ⊢
 clear hga
 refine (rright_any w1 _ _ A n cap).mono ?_
 rintro e w2 ⟨rfl, hb⟩
 rw [HRT.out]
 have H1 := Lib.hid (H0.out.keep hb)
 clear hb H0
 obtain ⟨⟨a0, a1, a2⟩, _⟩ := H1.out.cells mm0
 have H3 := Lib.hid (show LS w [(ga, 38, mcells r r A n cap)] none 0 [] w2 from ⟨H1.out, Mem.Own.nil⟩)
 go_wp2_with fail
 clear a0 a1 a2 H1
 go_loopw [4, 5] (fun l x wr => ∃ (i : Nat) (A2 : Option Addr) (c2 l0 : Nat), x = .int .i64 (i : Int) ∧ l = .slice A2 l0 c2 ∧ i ≤ r ∧ l0 = offS r i ∧ (∀ a, a < i → ∀ b, b < r → a ≤ b → m a b = m b a) ∧ LS w [(ga, 38, mcells r r A n cap)] A2 c2 (pkUp r m i i) wr) (fun _ x _ => r - (intOf x).toNat)
 case atStart => exact ⟨0, none, 0, 0, rfl, rfl, Nat.zero_le _, rfl, fun a h => absurd h (Nat.not_lt_zero _), H3.out⟩
 case round =>
  obtain ⟨i, A2, c2, l0, rfl, rfl, hi, hl, hs, h⟩ := hrel
  have H4 := Lib.hid h
  have HS := Lib.hid hs
  have HL0 := Lib.hid hl
  clear h hs hl H3
  obtain ⟨w4, rfl⟩ : ∃ w4 : World, w4 = wr := ⟨_, rfl⟩
  obtain ⟨⟨a0, a1, a2⟩, _⟩ := H4.out.bs.cells mm0
  by_cases hir : i < r
  ·have hi1 : (i : Int) < (r : Int) := by omega
   have hwi : IntKind.i64.wrap ((i : Int) + 1) = ((i + 1 : Nat) : Int) := by have := HN.out.1; rw [IntWalk.i64_in _ (by omega)]; omega
   have HI := Lib.hid hir
   go_wp2_with fail
   clear a0 a1 a2
   go_loopw [4, 6] (fun l x wr => ∃ (k : Nat) (A2 : Option Addr) (c2 l0 : Nat), x = .int .i64 (k : Int) ∧ l = .slice A2 l0 c2 ∧ i ≤ k ∧ k ≤ r ∧ l0 = offS r i + (k - i) ∧ (∀ b, b < k → i ≤ b → m i b = m b i) ∧ LS w [(ga, 38, mcells r r A n cap)] A2 c2 (pkUp r m i k) wr) (fun _ x _ => r - (intOf x).toNat)
   case atStart => exact ⟨i, A2, c2, l0, rfl, rfl, Nat.le_refl _, hi, by rw [Nat.sub_self, Nat.add_zero]; exact HL0.out, fun b h1 h2 => absurd h1 (by omega), H4.out⟩
   case round =>
    clear HL0 H4
    obtain ⟨k, A2, c2, l0, rfl, rfl, hik, hk, hl, hsk, h⟩ := hrel
    have H5 := Lib.hid h
    have HSK := Lib.hid hsk
    clear h hsk
    obtain ⟨w5, rfl⟩ : ∃ w5 : World, w5 = wr := ⟨_, rfl⟩
    obtain ⟨⟨a0, a1, a2⟩, _⟩ := H5.out.bs.cells mm0
    by_cases hkr : k < r
    ·have hk1 : (k : Int) < (r : Int) := by omega
     have hwk : IntKind.i64.wrap ((k : Int) + 1) = ((k + 1 : Nat) : Int) := by have := HN.out.1; rw [IntWalk.i64_in _ (by omega)]; omega
     have HIK := Lib.hid (And.intro hik hkr)
     have hpl := idx_lt (c := r) HI.out hkr
     have hql := idx_lt (c := r) hkr HI.out
     have hsz : r * r ≤ 100 * 100 := Nat.mul_le_mul HN.out.1 HN.out.1
     obtain ⟨p, hp⟩ : ∃ p, i * r + k = p := ⟨_, rfl⟩
     obtain ⟨q, hq⟩ : ∃ q, k * r + i = q := ⟨_, rfl⟩
     obtain ⟨ab, ao, eA, -, -⟩ := HA.out.at_ (k := p) (by rw [flat_len, ← hp]; exact hpl)
     obtain ⟨x, hx⟩ : ∃ x, m i k = x := ⟨_, rfl⟩
     obtain ⟨y, hy⟩ : ∃ y, m k i = y := ⟨_, rfl⟩
     have HX := Lib.hid (show ∀ W : World, Below w.heap.size w W → W.cell? ⟨ab, ao + p, none⟩ = some (.int .u8 (x.toNat : Int)) from fun W hW => by
      obtain ⟨b', o', e', _, hc⟩ := (HA.out.below hW).at_ (k := p) (by rw [flat_len, ← hp]; exact hpl)
      rw [eA] at e'; injection e' with e'; injection e' with e1 e2; subst e1; subst e2
      rw [hc]; simp only [← hp, flat_getE HI.out hkr, hx])
     have HY := Lib.hid (show ∀ W : World, Below w.heap.size w W → W.cell? ⟨ab, ao + q, none⟩ = some (.int .u8 (y.toNat : Int)) from fun W hW => by
      obtain ⟨b', o', e', _, hc⟩ := (HA.out.below hW).at_ (k := q) (by rw [flat_len, ← hq]; exact hql)
      rw [eA] at e'; injection e' with e'; injection e' with e1 e2; subst e1; subst e2
      rw [hc]; simp only [← hq, flat_getE hkr HI.out, hy])
     subst eA
     have hx5 := HX.out _ H5.out.bs.below
     have hy5 := HY.out _ H5.out.bs.below
     have HXE := Lib.hid hx
     have HYE := Lib.hid hy
     have HL := Lib.hid (show (pkUp r m i k).length = l0 ∧ l0 ≤ 20000 from by
      have h1 := offS_lt (n := r) HI.out hik hkr
      have h2 := offS_len r
      have h3 : r * (r + 1) ≤ 100 * 101 := Nat.mul_le_mul HN.out.1 (by have := HN.out.1; omega)
      exact ⟨by rw [pkUp_len _ _ _ _ hk, hl], by omega⟩)
     have hw1 : IntKind.i64.wrap ((i : Int) * (r : Int)) = ((i * r : Nat) : Int) := by rw [show (i : Int) * (r : Int) = ((i * r : Nat) : Int) by simp, IntWalk.i64_in _ (by omega)]
     have hw3 : IntKind.i64.wrap ((k : Int) * (r : Int)) = ((k * r : Nat) : Int) := by rw [show (k : Int) * (r : Int) = ((k * r : Nat) : Int) by simp, IntWalk.i64_in _ (by omega)]
     have hlk : l0 + 1 = offS r i + (k + 1 - i) := by omega
     have HLK := Lib.hid hlk
     obtain ⟨p1, hp1⟩ : ∃ p1, i * r = p1 := ⟨_, rfl⟩
     obtain ⟨q1, hq1⟩ : ∃ q1, k * r = q1 := ⟨_, rfl⟩
     rw [hp1] at hw1 hp hpl
     rw [hq1] at hw3 hq hql
     have hw2 : IntKind.i64.wrap ((p1 : Int) + (k : Int)) = (p : Int) := by rw [IntWalk.i64_in _ (by omega)]; omega
     have hw4 : IntKind.i64.wrap ((q1 : Int) + (i : Int)) = (q : Int) := by rw [IntWalk.i64_in _ (by omega)]; omega
     have hp0 : (0 : Int) ≤ (p : Int) := by omega
     have hp2 : (p : Int) < (n : Int) := by have := HN.out.2; omega
     have hq0 : (0 : Int) ≤ (q : Int) := by omega
     have hq2 : (q : Int) < (n : Int) := by have := HN.out.2; omega
     clear hx hy hp hq hp1 hq1 hpl hql hsz hl hlk
     by_cases hxy : x = y
     ·have hne : ((x.toNat : Int) != (y.toNat : Int)) = false := by rw [hxy]; simp
      have HXY := Lib.hid hxy
      clear hxy
      go_wp2_with fail
      go_quiet (fail)
      obtain ⟨w6, hw6⟩ : ∃ x : World, w5.drewN nq = x := ⟨_, rfl⟩
      have H6 := Lib.hid (show LS w [(ga, 38, mcells r r (some ⟨ab, ao, none⟩) n cap)] A2 c2 (pkUp r m i k) w6 from by rw [← hw6]; exact H5.out.keep (nextN (Mem.start w5) nq))
      rw [hw6]
      clear hw6 hx5 hy5 a0 a1 a2
      obtain ⟨⟨a0, a1, a2⟩, _⟩ := H6.out.bs.cells mm0
      have hx6 := HX.out _ H6.out.bs.below
      have hb1 := Mx_build1 w6 (x.toNat : Int)
      have HCO := Lib.hid (cells_one w6 (.int .u8 (x.toNat : Int)) 5 (w6.heap.size + 1) (by omega))
      have HE := Lib.hid (H6.out.keep (nextA (Mem.start w6) (.cells #[.int .u8 (x.toNat : Int)] 5)))
      go_wp2_with ((with_reducible show wpList _ _ _ ((⟨some 63, _, _, _, _, _⟩ : Oper) :: _) _ _); refine wpList_app _ rfl _ _ _ rfl w.heap.size 5 i0 _ 1 Try.underlying22 hi0 hz0 hz1 hz2 rfl A2 c2 l0 ((pkUp r m i k).map u8v) rfl (by rw [List.length_map, HL.out.1]) HE.out.row _ _ _ 1 [.int .u8 (x.toNat : Int)] rfl rfl HCO.out (by simp [Value.oneCell']) (by rw [List.length_map, HL.out.1]; have := HL.out.2; simp [maxLen]; omega) (by rw [List.length_map, HL.out.1]; have := HL.out.2; simp; omega) HE.out.bs.below.size (l0 + 1) rfl ?_; intro A5 c5 w8 ho hb hg _; have H8 := Lib.hid (HE.out.grow (l' := pkUp r m i (k + 1)) (by rw [pkUp_step r m HIK.out.1 HIK.out.2, HXE.out, List.map_append]; exact ho) hb hg); clear ho hb hg)
      go_roundw
      case rel =>
       refine ⟨k + 1, A5, c5, l0 + 1, by simp, rfl, by have := HIK.out; omega, HIK.out.2, HLK.out, fun b h1 h2 => ?_, H8.out⟩
       by_cases e : b = k
       ·rw [e, HXE.out, HYE.out, HXY.out]
       ·exact HSK.out b (by omega) h2
      case measure => simp [intOf]; omega
     ·have hne : ((x.toNat : Int) != (y.toNat : Int)) = true := by rw [bne_iff_ne]; exact fun e => hxy (UInt8.toNat_inj.1 (by omega))
      have HBAD := Lib.hid (show symB r m = false from by
       unfold symB
       rw [decide_eq_false_iff_not]
       exact fun h => hxy (by rw [← HXE.out, ← HYE.out]; exact h i HI.out k HIK.out.2 HIK.out.1))
      clear hxy
      go_wp2_with fail
      go_quiet (fail)
      go_wp2_with fail
      go_ret2
      exact ⟨fun h => (by rw [HBAD.out] at h; cases h), fun _ => ⟨rfl, (H5.out.keep (nextN (Mem.start w5) nq)).bs.below⟩⟩
    ·obtain rfl : r = k := by omega
     have HLE := Lib.hid hl
     clear hl
     go_wp2_with fail
     go_roundw
     case rel =>
      refine ⟨i + 1, A2, c2, l0, by simp, rfl, HI.out, HLE.out, fun a h1 b h2 h3 => ?_, by rw [← pkUp_next]; exact H5.out⟩
      by_cases e : a = i
      ·rw [e]; exact HSK.out b h2 (by omega)
      ·exact HS.out a (by omega) b h2 h3
     case measure => simp [intOf]; omega
  ·obtain rfl : r = i := by omega
   have HOK := Lib.hid (show symB r m = true from decide_eq_true fun a h1 b h2 h3 => HS.out a h1 b h2 h3)
   go_wp2_with fail
   go_ret2
   refine ⟨fun _ => ?_, fun h => (by rw [HOK.out] at h; cases h)⟩
   rw [HL0.out]
   have h := H4.out
   rw [pkUp_done] at h
   have h3 := h.row.le
   rw [List.length_map, packS_len] at h3
   exact ⟨A2, c2, rfl, h3, Nw.of_own h.row, h.bs.below⟩
end Go.Proofs.Ythdapoipfnnaeaa.MxW
/- What MatrixOne asks for beyond. -/
namespace Go.Proofs.Ythdapoipfnnaeaa.MxW
open Go.RowKit Go.Shelf Mem Gf FdW Mx Rng
open PlW (In)
set_option linter.unusedVariables false
set_option linter.unusedSectionVars false

theorem symB_iff (r : Nat) (m : M) : symB r m = true ↔ flat r r (fun x y => m y x) = flat r r m := by
 unfold symB
 rw [decide_eq_true_iff]
 constructor
 ·intro h
  refine flat_congr fun i hi k hk => ?_
  by_cases e : i ≤ k
  ·exact (h i hi k hk e).symm
  ·exact h k hk i hi (by omega)
 ·intro h i hi k hk _
  exact (flat_inj h hi hk).symm
theorem same_sq (r : Nat) (m : M) (h : symB r m = false) : sameB (r : Int) r r r (flat r r fun x y => m y x) (flat r r m) = false := by
 unfold sameB
 rw [decide_eq_false_iff_not]
 intro k
 rw [(symB_iff r m).2 k.2.2] at h; cases h
theorem same_rect {r c : Nat} (h : r ≠ c) (a b : List UInt8) : sameB (c : Int) r r c a b = false := by
 unfold sameB
 rw [decide_eq_false_iff_not]
 intro k
 exact h (by have := k.1; omega)
section
variable {w0 w : World} {p : Option Nat} {R : List Rw} {X : List (Nat × Array Value)}
variable (h : MS w0 p R X w)
include h
variable {A B : Option Addr} {a b : List UInt8} {ca cb n m r c d : Nat} {ma mb : M} {R1 C1 R2 C2 : Int}
theorem rturnR (ha : ⟨A, a, ca⟩ ∈ R) (hn : n = r * c) (hR : R1 = r ∧ C1 = c) (hd : r ≤ 100 ∧ c ≤ 100) (hA : a = flat r c ma) (Ro Co : Int) (no : Nat) (ho : Ro = c ∧ Co = r ∧ no = c * r) {l : List UInt8} (hl : flat c r (fun x y => ma y x) = l) :
    Calls Try.prog 35 #[.agg #[.int .i64 R1, .int .i64 C1, .slice A n ca]] w (MatR w0 p R X Ro Co no l) := by
 obtain ⟨rfl, rfl⟩ := hR
 subst hA
 exact (rturned_ok w r c A n ca ma hn hd (h.row _ ha).1).mono fun e w' k => newT h ho hl k
theorem rturn0R (hv : rightB R1 C1 n = false) : Calls Try.prog 35 #[.agg #[.int .i64 R1, .int .i64 C1, .slice A n ca]] w (SayM w0 p R X (.tuple #[.agg #[.int .i64 0, .int .i64 0, .slice none 0 0], .int .i64 50])) :=
 (rturned_bad w R1 C1 A n ca hv).mono fun e w' ⟨he, hb⟩ => ⟨he, h.keep hb⟩
theorem rank0R (F : Value) (hv : rightB R1 C1 n = false) : Calls Try.prog 14 #[F, .agg #[.int .i64 R1, .int .i64 C1, .slice A n ca]] w (SayM w0 p R X (.tuple #[.int .i64 0, .int .i64 50])) :=
 (rank_bad w F R1 C1 A n ca hv).mono fun e w' ⟨he, hb⟩ => ⟨he, h.keep hb⟩
theorem rrankR (ha : ⟨A, a, ca⟩ ∈ R) (hn : n = r * c) (hR : R1 = r ∧ C1 = c) (hd : r ≤ 100 ∧ c ≤ 100) (hA : a = flat r c ma) (Ko : Int) (ho : Ko = rankM r c ma) :
    Calls Try.prog 36 #[.agg #[.int .i64 R1, .int .i64 C1, .slice A n ca]] w (SayM w0 p R X (.tuple #[.int .i64 Ko, .int .i64 0])) := by
 obtain ⟨rfl, rfl⟩ := hR
 subst hA; subst ho
 have k1 := (h.row _ ha).2.2
 dsimp only at k1
 rw [flat_len] at k1
 exact (rrank_ok w r c A n ca ma hn (by omega) hd (h.row _ ha).1).mono fun e w' ⟨he, hb⟩ => ⟨he, h.keep hb⟩
theorem rrank0R (hv : rightB R1 C1 n = false) : Calls Try.prog 36 #[.agg #[.int .i64 R1, .int .i64 C1, .slice A n ca]] w (SayM w0 p R X (.tuple #[.int .i64 0, .int .i64 50])) :=
 (rrank_bad w R1 C1 A n ca hv).mono fun e w' ⟨he, hb⟩ => ⟨he, h.keep hb⟩
theorem rinvR (ha : ⟨A, a, ca⟩ ∈ R) (hn : n = r * r) (hR : R1 = r ∧ C1 = r) (hd : r ≤ 100) (hA : a = flat r r ma) (hs : solves r r r ma idm = true) (Ro : Int) (no : Nat) (ho : Ro = r ∧ no = r * r) {l : List UInt8} (hl : flat r r (redTo r ma idm r).B = l) :
    Calls Try.prog 38 #[.agg #[.int .i64 R1, .int .i64 C1, .slice A n ca]] w (MatR w0 p R X Ro Ro no l) := by
 obtain ⟨rfl, rfl⟩ := hR
 subst hA
 have k1 := (h.row _ ha).2.2
 dsimp only at k1
 rw [flat_len] at k1
 exact (rinv_ok w r A n ca ma hn (by omega) hd (h.row _ ha).1 hs).mono fun e w' k => newT h ⟨ho.1, ho.1, ho.2⟩ hl k
theorem rinv1R (ha : ⟨A, a, ca⟩ ∈ R) (hn : n = r * r) (hR : R1 = r ∧ C1 = r) (hd : r ≤ 100) (hA : a = flat r r ma) (hs : solves r r r ma idm = false) :
    Calls Try.prog 38 #[.agg #[.int .i64 R1, .int .i64 C1, .slice A n ca]] w (SayM w0 p R X (.tuple #[.agg #[.int .i64 0, .int .i64 0, .slice none 0 0], .int .i64 51])) := by
 obtain ⟨rfl, rfl⟩ := hR
 subst hA
 have k1 := (h.row _ ha).2.2
 dsimp only at k1
 rw [flat_len] at k1
 exact (rinv_no w r A n ca ma hn (by omega) hd (h.row _ ha).1 hs).mono fun e w' ⟨he, hb⟩ => ⟨he, h.keep hb⟩
theorem rinv0R (hv : (rightB R1 C1 n && R1 == C1) = false) : Calls Try.prog 38 #[.agg #[.int .i64 R1, .int .i64 C1, .slice A n ca]] w (SayM w0 p R X (.tuple #[.agg #[.int .i64 0, .int .i64 0, .slice none 0 0], .int .i64 50])) :=
 (rinv_bad w R1 C1 A n ca hv).mono fun e w' ⟨he, hb⟩ => ⟨he, h.keep hb⟩
theorem pack0R (hv : rightB R1 C1 n = false) : Calls Try.prog 39 #[.agg #[.int .i64 R1, .int .i64 C1, .slice A n ca]] w (SayM w0 p R X (.tuple #[.slice none 0 0, .int .i64 50])) :=
 (packed_bad w R1 C1 A n ca hv).mono fun e w' ⟨he, hb⟩ => ⟨he, h.keep hb⟩
theorem pack1R (ha : ⟨A, a, ca⟩ ∈ R) (hn : n = r * c) (hR : R1 = r ∧ C1 = c) (hd : r ≤ 100 ∧ c ≤ 100) (hA : a = flat r c ma) (hs : sameB (c : Int) r r c (flat c r fun x y => ma y x) (flat r c ma) = false) :
    Calls Try.prog 39 #[.agg #[.int .i64 R1, .int .i64 C1, .slice A n ca]] w (SayM w0 p R X (.tuple #[.slice none 0 0, .int .i64 50])) := by
 obtain ⟨rfl, rfl⟩ := hR
 subst hA
 have k1 := (h.row _ ha).2.2
 dsimp only at k1
 rw [flat_len] at k1
 have hq : r * c ≤ 10000 := Nat.mul_le_mul hd.1 hd.2
 exact (packed_no w r c A n ca ma hn (right_dim hd hn) (by omega) (by omega) (h.row _ ha).1 hs).mono fun e w' ⟨he, hb⟩ => ⟨he, h.keep hb⟩
theorem rpack0R (hv : (rightB R1 C1 n && R1 == C1) = false) : Calls Try.prog 40 #[.agg #[.int .i64 R1, .int .i64 C1, .slice A n ca]] w (SayM w0 p R X (.tuple #[.slice none 0 0, .int .i64 50])) :=
 (rpacked_bad w R1 C1 A n ca hv).mono fun e w' ⟨he, hb⟩ => ⟨he, h.keep hb⟩
theorem rpack1R (ha : ⟨A, a, ca⟩ ∈ R) (hn : n = r * r) (hR : R1 = r ∧ C1 = r) (hd : r ≤ 100) (hA : a = flat r r ma) (hs : symB r ma = false) :
    Calls Try.prog 40 #[.agg #[.int .i64 R1, .int .i64 C1, .slice A n ca]] w (SayM w0 p R X (.tuple #[.slice none 0 0, .int .i64 50])) := by
 obtain ⟨rfl, rfl⟩ := hR
 subst hA
 exact (rpacked_any w r A n ca ma hn hd (h.row _ ha).1).mono fun e w' k => ⟨(k.2 hs).1, h.keep (k.2 hs).2⟩
theorem rpackdR (ha : ⟨A, a, ca⟩ ∈ R) (hn : n = r * r) (hR : R1 = r ∧ C1 = r) (hd : r ≤ 100) (hA : a = flat r r ma) (hs : symB r ma = true) (no : Nat) (ho : no = offS r r) {l : List UInt8} (hl : packS r ma r = l) :
    Calls Try.prog 40 #[.agg #[.int .i64 R1, .int .i64 C1, .slice A n ca]] w (BytR w0 p R X no l) := by
 obtain ⟨rfl, rfl⟩ := hR
 subst hA; subst hl; subst ho
 refine (rpacked_any w r A n ca ma hn hd (h.row _ ha).1).mono fun e w' k => ?_
 obtain ⟨A', cap, he, hle, hnw, hb⟩ := k.1 hs
 exact ⟨A', cap, he, (h.keep hb).new hnw h.lt (by rw [packS_len]; exact hle)⟩
end
end Go.Proofs.Ythdapoipfnnaeaa.MxW
/- The law MatrixOne: its walk. -/
namespace Go.Proofs.Ythdapoipfnnaeaa.MxW
open Go.RowKit Go.Shelf Mem Gf FdW Mx Rng
open PlW (In)
set_option linter.unusedVariables false
set_option linter.unusedSectionVars false
attribute [local go_sem] Oper.semAt_some wide_fn
set_option maxRecDepth 100000 in
set_option maxHeartbeats 40000000 in
theorem one_bad (w : World)  (Rm Cm : Int) (M : Option Addr) (lm : List UInt8) (nm cm : Nat) (hlm : lm.length = nm) (hM : Bytes w w.heap.size M lm) (hcm : lm.length ≤ cm) (hs : smallB 12 Rm Cm nm = true) (hr : rightB Rm Cm nm = false) :
    Calls Try.prog 8 #[.agg #[.int .i64 Rm, .int .i64 Cm, .slice M nm cm]] w fun e w' => e = .returned (.bool true) ∧ Below w.heap.size w w' := by
 have H0 := Lib.hid (((MS.start w).nilR).arg hM hcm)
 have HLNm := Lib.hid hlm
 have HSm := Lib.hid hs
 have HR := Lib.hid hr
 have HRQ := Lib.hid (show (rightB Rm Cm nm && Rm == Cm) = false from by rw [hr]; rfl)
 clear hM hcm hlm hs hr
 go_enter Try.func8, Try.ntmps8
 have L1 := Lib.hid (H0.out.put #[.int .i64 Rm, .int .i64 Cm, .slice M nm cm])
 obtain ⟨a2, b2, d2⟩ := L1.out.cells mm0
 go_wp2_with fail
 clear a2 b2 d2
 have H1 := L1
 clear L1
 generalize (w.alloc (.cells #[.int .i64 Rm, .int .i64 Cm, .slice M nm cm] 27)) = w1 at *
 refine (smallR H1.out 12 (by decide) (v := true) HSm.out).mono ?_
 rintro e w2 ⟨rfl, h⟩
 have H2 := Lib.hid h
 clear h
 go_wp2_with fail
 refine (newR H2.out).mono ?_
 rintro e w3 ⟨rfl, h⟩
 have H3 := Lib.hid h
 clear h
 obtain ⟨a3, b3, d3⟩ := H3.out.cells mm0
 go_wp2_with fail
 clear a3 b3 d3
 refine (copiedR H3.out mm0 HLNm.out).mono ?_
 rintro e w4 ⟨A4, c4, rfl, h⟩
 have H4 := Lib.hid h
 clear h
 have L4 := Lib.hid (H4.out.put #[.int .i64 Rm, .int .i64 Cm, .slice A4 nm c4])
 obtain ⟨a5, b5, d5⟩ := L4.out.cells mm0
 go_wp2_with fail
 clear a5 b5 d5
 have H5 := L4
 clear L4
 generalize (w4.alloc (.cells #[.int .i64 Rm, .int .i64 Cm, .slice A4 nm c4] 27)) = w5 at *
 refine (turn0R H5.out HR.out).mono ?_
 rintro e w6 ⟨rfl, h⟩
 have H6 := Lib.hid h
 clear h
 have L6 := Lib.hid (H6.out.put #[.int .i64 0, .int .i64 0, .slice none 0 0])
 obtain ⟨a7, b7, d7⟩ := L6.out.cells mm2
 go_wp2_with fail
 clear a7 b7 d7
 have H7 := L6
 clear L6
 generalize (w6.alloc (.cells #[.int .i64 0, .int .i64 0, .slice none 0 0] 27)) = w7 at *
 refine (plainR H7.out ).mono ?_
 rintro e w8 ⟨rfl, h⟩
 have H8 := Lib.hid h
 clear h
 go_wp2_with fail
 refine (rturn0R H8.out HR.out).mono ?_
 rintro e w9 ⟨rfl, h⟩
 have H9 := Lib.hid h
 clear h
 have L8 := Lib.hid (H9.out.putT #[.int .i64 0, .int .i64 0, .slice none 0 0] 38)
 obtain ⟨a9, b9, d9⟩ := L8.out.cells mm2
 go_wp2_with fail
 clear a9 b9 d9
 have H10 := L8
 clear L8
 generalize (w9.alloc (.cells #[.int .i64 0, .int .i64 0, .slice none 0 0] 38)) = w10 at *
 refine (rank0R H10.out _ HR.out).mono ?_
 rintro e w11 ⟨rfl, h⟩
 have H11 := Lib.hid h
 clear h
 obtain ⟨a10, b10, d10⟩ := H11.out.cells mm3
 go_wp2_with fail
 clear a10 b10 d10
 refine (plainR H11.out ).mono ?_
 rintro e w12 ⟨rfl, h⟩
 have H12 := Lib.hid h
 clear h
 go_wp2_with fail
 refine (rrank0R H12.out HR.out).mono ?_
 rintro e w13 ⟨rfl, h⟩
 have H13 := Lib.hid h
 clear h
 go_wp2_with fail
 refine wp_region_noPanic ?_
 refine wp_heldG (fun w' => (w'.cell? ⟨w6.heap.size, 0, none⟩ = some (.int .i64 0) ∧ w'.cell? ⟨w6.heap.size, 1, none⟩ = some (.int .i64 0) ∧ w'.cell? ⟨w6.heap.size, 2, none⟩ = some (.slice none 0 0)) ∧ (w'.cell? ⟨w9.heap.size, 0, none⟩ = some (.int .i64 0) ∧ w'.cell? ⟨w9.heap.size, 1, none⟩ = some (.int .i64 0) ∧ w'.cell? ⟨w9.heap.size, 2, none⟩ = some (.slice none 0 0)) ∧ (w'.cell? ⟨w4.heap.size, 0, none⟩ = some (.int .i64 Rm) ∧ w'.cell? ⟨w4.heap.size, 1, none⟩ = some (.int .i64 Cm) ∧ w'.cell? ⟨w4.heap.size, 2, none⟩ = some (.slice A4 nm c4)) ∧ (w'.cell? ⟨w.heap.size, 0, none⟩ = some (.int .i64 Rm) ∧ w'.cell? ⟨w.heap.size, 1, none⟩ = some (.int .i64 Cm) ∧ w'.cell? ⟨w.heap.size, 2, none⟩ = some (.slice M nm cm))) [] (by kernel_rfl) ?hs0 ?rg0
 case hs0 =>
  have h := H13.out.keep (nextN (Mem.start w13) 1)
  exact ⟨h.cells mm1, h.cells mm0, h.cells mm2, h.cells mm3⟩
 case rg0 =>
 intro hHeld
 have HD13 := Lib.hid (show MS _ _ _ _ w13.drew from H13.out.keep (nextN (Mem.start w13) 1))
 generalize w13.drew = wd13 at *
 refine pu 0 ?_
 refine pu 1 ?_
 refine pu 2 ?_
 refine pu 3 ?_
 refine tk 4 rfl (by intro w hSw; obtain ⟨⟨ka0, ka1, ka2⟩, ⟨kb0, kb1, kb2⟩, ⟨kown0, kown1, kown2⟩, ⟨km0, km1, km2⟩⟩ := hSw; go_simp; try with_reducible rfl) ?_
 refine tk 5 rfl (by intro w hSw; obtain ⟨⟨ka0, ka1, ka2⟩, ⟨kb0, kb1, kb2⟩, ⟨kown0, kown1, kown2⟩, ⟨km0, km1, km2⟩⟩ := hSw; go_simp; try with_reducible rfl) ?_
 refine on 6 rfl fun K hK => ?_
 go_simp
 refine (lsameR HD13.out mm2 rfl mm2 rfl (v := true) (sameB_self _ _ _)).mono ?_
 rintro e w14 ⟨rfl, h⟩
 have H14 := Lib.hid h
 clear h
 try dsimp only
 refine hK.out _ _ (fun _ => have h := H14.out; ⟨h.cells mm1, h.cells mm0, h.cells mm2, h.cells mm3⟩) fun hHeld => ?_
 clear hK K
 try simp only [pU, pU0, pA, pB, pC]
 have hHeld := hHeld (by kernel_rfl)
 refine pu 7 ?_
 refine pu 8 ?_
 refine pu 9 ?_
 refine pu 10 ?_
 refine pu 11 ?_
 refine pu 12 ?_
 refine pu 13 ?_
 refine pu 14 ?_
 refine pu 15 ?_
 refine pu 16 ?_
 refine pu 17 ?_
 refine pu 18 ?_
 refine pu 19 ?_
 refine tk 20 rfl (by intro w hSw; obtain ⟨⟨ka0, ka1, ka2⟩, ⟨kb0, kb1, kb2⟩, ⟨kown0, kown1, kown2⟩, ⟨km0, km1, km2⟩⟩ := hSw; go_simp; try with_reducible rfl) ?_
 refine tk 22 rfl (by intro w hSw; obtain ⟨⟨ka0, ka1, ka2⟩, ⟨kb0, kb1, kb2⟩, ⟨kown0, kown1, kown2⟩, ⟨km0, km1, km2⟩⟩ := hSw; go_simp; try with_reducible rfl) ?_
 refine on 21 rfl fun K hK => ?_
 go_simp
 refine (rightR H14.out HR.out).mono ?_
 rintro e w15 ⟨rfl, h⟩
 have H15 := Lib.hid h
 clear h
 try dsimp only
 refine hK.out _ _ (fun _ => have h := H15.out; ⟨h.cells mm1, h.cells mm0, h.cells mm2, h.cells mm3⟩) fun hHeld => ?_
 clear hK K
 try simp only [pU, pU0, pA, pB, pC]
 have hHeld := hHeld (by kernel_rfl)
 refine on 23 rfl fun K hK => ?_
 go_simp
 refine (plainR H15.out ).mono ?_
 rintro e w16 ⟨rfl, h⟩
 have H16 := Lib.hid h
 clear h
 try dsimp only
 refine hK.out _ _ (fun _ => have h := H16.out; ⟨h.cells mm1, h.cells mm0, h.cells mm2, h.cells mm3⟩) fun hHeld => ?_
 clear hK K
 try simp only [pU, pU0, pA, pB, pC]
 have hHeld := hHeld (by kernel_rfl)
 refine on 24 rfl fun K hK => ?_
 go_simp
 refine (rrightR H16.out HR.out).mono ?_
 rintro e w17 ⟨rfl, h⟩
 have H17 := Lib.hid h
 clear h
 try dsimp only
 refine hK.out _ _ (fun _ => have h := H17.out; ⟨h.cells mm1, h.cells mm0, h.cells mm2, h.cells mm3⟩) fun hHeld => ?_
 clear hK K
 try simp only [pU, pU0, pA, pB, pC]
 have hHeld := hHeld (by kernel_rfl)
 refine pu 25 ?_
 refine pu 26 ?_
 refine wpAnyG_done (by kernel_rfl) ?_ _
 refine NoPanic.normal ?_
 obtain ⟨a11, b11, d11⟩ := H17.out.cells mm2
 go_wp2_with fail
 clear a11 b11 d11
 refine (inv0R H17.out _ HRQ.out).mono ?_
 rintro e w18 ⟨rfl, h⟩
 have H18 := Lib.hid h
 clear h
 have L12 := Lib.hid (H18.out.put #[.int .i64 0, .int .i64 0, .slice none 0 0])
 obtain ⟨a13, b13, d13⟩ := L12.out.cells mm4
 go_wp2_with fail
 clear a13 b13 d13
 have H19 := L12
 clear L12
 generalize (w18.alloc (.cells #[.int .i64 0, .int .i64 0, .slice none 0 0] 27)) = w19 at *
 refine (plainR H19.out ).mono ?_
 rintro e w20 ⟨rfl, h⟩
 have H20 := Lib.hid h
 clear h
 go_wp2_with fail
 refine (rinv0R H20.out HRQ.out).mono ?_
 rintro e w21 ⟨rfl, h⟩
 have H21 := Lib.hid h
 clear h
 have L14 := Lib.hid (H21.out.putT #[.int .i64 0, .int .i64 0, .slice none 0 0] 38)
 obtain ⟨a15, b15, d15⟩ := L14.out.cells mm4
 go_wp2_with fail
 clear a15 b15 d15
 have H22 := L14
 clear L14
 generalize (w21.alloc (.cells #[.int .i64 0, .int .i64 0, .slice none 0 0] 38)) = w22 at *
 refine (pack0R H22.out HR.out).mono ?_
 rintro e w23 ⟨rfl, h⟩
 have H23 := Lib.hid h
 clear h
 obtain ⟨a16, b16, d16⟩ := H23.out.cells mm5
 go_wp2_with fail
 clear a16 b16 d16
 refine (plainR H23.out ).mono ?_
 rintro e w24 ⟨rfl, h⟩
 have H24 := Lib.hid h
 clear h
 go_wp2_with fail
 refine (rpack0R H24.out HRQ.out).mono ?_
 rintro e w25 ⟨rfl, h⟩
 have H25 := Lib.hid h
 clear h
 obtain ⟨a17, b17, d17⟩ := H25.out.cells mm1
 obtain ⟨a18, b18, d18⟩ := H25.out.cells mm0
 go_wp2_with fail
 clear a17 b17 d17 a18 b18 d18
 refine (lsameR H25.out mm2 rfl mm2 rfl (v := true) (sameB_self _ _ _)).mono ?_
 rintro e w26 ⟨rfl, h⟩
 have H26 := Lib.hid h
 clear h
 go_wp2_with fail
 refine (sameBytesR H26.out mm2 rfl mm2 rfl (v := true) (decide_eq_true rfl)).mono ?_
 rintro e w' ⟨rfl, rfl⟩
 obtain ⟨a19, b19, d19⟩ := H26.out.cells mm4
 obtain ⟨a20, b20, d20⟩ := H26.out.cells mm5
 go_wp2_with fail
 clear a19 b19 d19 a20 b20 d20
 refine (sameR H26.out mm0 HLNm.out mm1 HLNm.out (v := true) (sameB_self _ _ _)).mono ?_
 rintro e w27 ⟨rfl, h⟩
 have H27 := Lib.hid h
 clear h
 go_wp2_with fail
 refine (works_any _).mono ?_
 rintro e w28 ⟨rfl, hb⟩
 have H28 := Lib.hid (MS.keep H27.out hb)
 clear hb
 go_wp2_with fail
 go_ret
 exact ⟨rfl, H28.out.below⟩
end Go.Proofs.Ythdapoipfnnaeaa.MxW
