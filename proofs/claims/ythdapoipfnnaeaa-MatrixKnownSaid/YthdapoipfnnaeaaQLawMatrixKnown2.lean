/- Texts of a claim, one behind another. -/
import Derived.Test.YthdapoipfnnaeaaSq
import Derived.Test.YthdapoipfnnaeaaSq3
import Derived.Test.YthdapoipfnnaeaaQLawMatrixKnown1
import Derived.Deep.LoopGhost
import Derived.Deep.DeepCutAuto
import Derived.Deep.CutBlock
import Derived.Test.YthdapoipfnnaeaaAppz
set_option linter.unusedSimpArgs false
set_option linter.unusedVariables false
/- reduce. -/
namespace Go.Proofs.Ythdapoipfnnaeaa.MxW
open Go.RowKit Go.Shelf Mem Gf FdW Mx Rng
open PlW (In)
set_option linter.unusedVariables false
attribute [local go_sem] Oper.semAt_some wide_fn

set_option maxRecDepth 100000 in
set_option maxHeartbeats 16000000 in
theorem reduce_ok (w : World) (p : Nat) (hp : Fld w p) (r c d : Nat) (hr : 0 < r) (hc : 0 < c) (hb9 : (r : Int) ≤ 1000 ∧ (c : Int) ≤ 1000 ∧ (d : Int) ≤ 5000) (ga : Nat) (XB : Option Addr) (capA capB : Nat) (A B : M) (hA : Wo w (some ⟨ga, 0, none⟩) capA r c A) (hB : Wo w XB capB r d B) (hne : p ≠ ga ∧ ¬ Bk XB p ∧ ¬ Bk XB ga) :
    Calls Try.prog 46 #[fptr (some p), .agg #[.int .i64 (r : Int), .int .i64 (c : Int), .slice (some ⟨ga, 0, none⟩) (r * c) capA], .agg #[.int .i64 (r : Int), .int .i64 (d : Int), .slice XB (r * d) capB]] w (RedOk w p (some ⟨ga, 0, none⟩) XB capA capB r c d A B) := by
 have hrc : ((r * c : Nat) : Int) ≤ 1000000000 ∧ ((r * d : Nat) : Int) ≤ 1000000000 := by
  have k1 : r * c ≤ 1000 * 1000 := Nat.mul_le_mul (by omega) (by omega)
  have k2 : r * d ≤ 1000 * 5000 := Nat.mul_le_mul (by omega) (by omega)
  omega
 refine of_wide ?_
 refine callsIn_of_wp_marks Try.func46 rfl trivial ?_ rfl
 refine wpIn_wide.2 ?_
 simp only [Try.ntmps46, List.size_toArray, List.length_cons, List.length_nil, Nat.reduceAdd, Nat.reduceSub, Array.replicate_succ, Array.replicate_zero, List.push_toArray, List.append_toArray, List.nil_append, List.cons_append]
 obtain ⟨gf, hgf⟩ : ∃ x, w.heap.size = x := ⟨_, rfl⟩
 obtain ⟨hn, w0, h0, hw0⟩ := red_start w p gf hp hgf r c d ga XB capA capB A B hr hc hA hB hne
 have HN := Lib.hid hn
 have H0 := Lib.hid h0
 have HW0 := Lib.hid hw0
 have HG := Lib.hid hgf
 have HL := Lib.hid (And.intro hr (And.intro hc (And.intro hb9.1 (And.intro hb9.2.1 (And.intro hb9.2.2 hrc)))))
 clear hn h0 hw0 hgf hp hr hc hb9 hA hB hne hrc
 go_wp2_with fail
 rw [HW0.out, HG.out]
 refine wp_loop_ghost_k (fun m a' W => ∃ (n gc : Nat) (Ds : List Nat) (u9 u10 u11 u12 u13 u14 u15 u16 u17 u18 u19 u20 u21 u22 u23 u24 u25 u26 u27 u28 u29 u30 u31 u32 u33 u34 u35 u36 u37 u38 u39 u40 u41 u42 u43 u44 u45 u46 u47 u48 u49 u50 u51 u52 u53 u54 u55 u56 u57 u58 u59 u60 u61 u62 u63 u64 u65 u66 u67 u68 u69 u70 u71 u72 u73 u74 u75 u76 u77 u78 u79 u80 u81 u82 u83 u84 u85 u86 u87 u88 u89 u90 u91 u92 u93 u94 u95 u96 u97 u98 u99 u100 u101 u102 u103 u104 u105 u106 u107 u108 u109 u110 u111 u112 u113 u114 u115 u116 u117 u118 u119 u120 u121 u122 u123 u124 u125 u126 u127 u128 u129 u130 u131 u132 u133 u134 u135 u136 u137 u138 u139 u140 u141 u142 u143 u144 u145 : Value), (n ≤ c ∧ m = c - n ∧ RedW w p gf (gf + 1) (gf + 1 + 1) (gf + 1 + 1 + 1) (some ⟨ga, 0, none⟩) XB capA capB r c d gc n Ds W (redTo r A B n).at_ (redTo r A B n).A (redTo r A B n).B) ∧ a' = { tmps := #[fptr (some p), .agg #[.int .i64 (r : Int), .int .i64 (c : Int), .slice (some ⟨ga, 0, none⟩) (r * c) capA], .agg #[.int .i64 (r : Int), .int .i64 (d : Int), .slice XB (r * d) capB], .pointer (some ⟨gf, 0, none⟩), .pointer (some ⟨gf + 1, 0, none⟩), .pointer (some ⟨gf + 1 + 1, 0, none⟩), .int .i64 0, .pointer (some ⟨gf + 1 + 1 + 1, 0, none⟩), .pointer (some ⟨gc, 0, none⟩), u9, u10, u11, u12, u13, u14, u15, u16, u17, u18, u19, u20, u21, u22, u23, u24, u25, u26, u27, u28, u29, u30, u31, u32, u33, u34, u35, u36, u37, u38, u39, u40, u41, u42, u43, u44, u45, u46, u47, u48, u49, u50, u51, u52, u53, u54, u55, u56, u57, u58, u59, u60, u61, u62, u63, u64, u65, u66, u67, u68, u69, u70, u71, u72, u73, u74, u75, u76, u77, u78, u79, u80, u81, u82, u83, u84, u85, u86, u87, u88, u89, u90, u91, u92, u93, u94, u95, u96, u97, u98, u99, u100, u101, u102, u103, u104, u105, u106, u107, u108, u109, u110, u111, u112, u113, u114, u115, u116, u117, u118, u119, u120, u121, u122, u123, u124, u125, u126, u127, u128, u129, u130, u131, u132, u133, u134, u135, u136, u137, u138, u139, u140, u141, u142, u143, u144, u145], defers := Ds.map mark }) c ?start ?round
 case start =>
  refine ⟨0, gf + 1 + 1 + 1 + 1, [], ?_⟩
  repeat apply Exists.intro
  exact ⟨⟨Nat.zero_le _, rfl, H0.out⟩, rfl⟩
 case round =>
  intro m a' W hinv
  obtain ⟨n, gc, Ds, hinv⟩ := hinv
  obtain ⟨u9, hinv⟩ := hinv
  obtain ⟨u10, hinv⟩ := hinv
  obtain ⟨u11, hinv⟩ := hinv
  obtain ⟨u12, hinv⟩ := hinv
  obtain ⟨u13, hinv⟩ := hinv
  obtain ⟨u14, hinv⟩ := hinv
  obtain ⟨u15, hinv⟩ := hinv
  obtain ⟨u16, hinv⟩ := hinv
  obtain ⟨u17, hinv⟩ := hinv
  obtain ⟨u18, hinv⟩ := hinv
  obtain ⟨u19, hinv⟩ := hinv
  obtain ⟨u20, hinv⟩ := hinv
  obtain ⟨u21, hinv⟩ := hinv
  obtain ⟨u22, hinv⟩ := hinv
  obtain ⟨u23, hinv⟩ := hinv
  obtain ⟨u24, hinv⟩ := hinv
  obtain ⟨u25, hinv⟩ := hinv
  obtain ⟨u26, hinv⟩ := hinv
  obtain ⟨u27, hinv⟩ := hinv
  obtain ⟨u28, hinv⟩ := hinv
  obtain ⟨u29, hinv⟩ := hinv
  obtain ⟨u30, hinv⟩ := hinv
  obtain ⟨u31, hinv⟩ := hinv
  obtain ⟨u32, hinv⟩ := hinv
  obtain ⟨u33, hinv⟩ := hinv
  obtain ⟨u34, hinv⟩ := hinv
  obtain ⟨u35, hinv⟩ := hinv
  obtain ⟨u36, hinv⟩ := hinv
  obtain ⟨u37, hinv⟩ := hinv
  obtain ⟨u38, hinv⟩ := hinv
  obtain ⟨u39, hinv⟩ := hinv
  obtain ⟨u40, hinv⟩ := hinv
  obtain ⟨u41, hinv⟩ := hinv
  obtain ⟨u42, hinv⟩ := hinv
  obtain ⟨u43, hinv⟩ := hinv
  obtain ⟨u44, hinv⟩ := hinv
  obtain ⟨u45, hinv⟩ := hinv
  obtain ⟨u46, hinv⟩ := hinv
  obtain ⟨u47, hinv⟩ := hinv
  obtain ⟨u48, hinv⟩ := hinv
  obtain ⟨u49, hinv⟩ := hinv
  obtain ⟨u50, hinv⟩ := hinv
  obtain ⟨u51, hinv⟩ := hinv
  obtain ⟨u52, hinv⟩ := hinv
  obtain ⟨u53, hinv⟩ := hinv
  obtain ⟨u54, hinv⟩ := hinv
  obtain ⟨u55, hinv⟩ := hinv
  obtain ⟨u56, hinv⟩ := hinv
  obtain ⟨u57, hinv⟩ := hinv
  obtain ⟨u58, hinv⟩ := hinv
  obtain ⟨u59, hinv⟩ := hinv
  obtain ⟨u60, hinv⟩ := hinv
  obtain ⟨u61, hinv⟩ := hinv
  obtain ⟨u62, hinv⟩ := hinv
  obtain ⟨u63, hinv⟩ := hinv
  obtain ⟨u64, hinv⟩ := hinv
  obtain ⟨u65, hinv⟩ := hinv
  obtain ⟨u66, hinv⟩ := hinv
  obtain ⟨u67, hinv⟩ := hinv
  obtain ⟨u68, hinv⟩ := hinv
  obtain ⟨u69, hinv⟩ := hinv
  obtain ⟨u70, hinv⟩ := hinv
  obtain ⟨u71, hinv⟩ := hinv
  obtain ⟨u72, hinv⟩ := hinv
  obtain ⟨u73, hinv⟩ := hinv
  obtain ⟨u74, hinv⟩ := hinv
  obtain ⟨u75, hinv⟩ := hinv
  obtain ⟨u76, hinv⟩ := hinv
  obtain ⟨u77, hinv⟩ := hinv
  obtain ⟨u78, hinv⟩ := hinv
  obtain ⟨u79, hinv⟩ := hinv
  obtain ⟨u80, hinv⟩ := hinv
  obtain ⟨u81, hinv⟩ := hinv
  obtain ⟨u82, hinv⟩ := hinv
  obtain ⟨u83, hinv⟩ := hinv
  obtain ⟨u84, hinv⟩ := hinv
  obtain ⟨u85, hinv⟩ := hinv
  obtain ⟨u86, hinv⟩ := hinv
  obtain ⟨u87, hinv⟩ := hinv
  obtain ⟨u88, hinv⟩ := hinv
  obtain ⟨u89, hinv⟩ := hinv
  obtain ⟨u90, hinv⟩ := hinv
  obtain ⟨u91, hinv⟩ := hinv
  obtain ⟨u92, hinv⟩ := hinv
  obtain ⟨u93, hinv⟩ := hinv
  obtain ⟨u94, hinv⟩ := hinv
  obtain ⟨u95, hinv⟩ := hinv
  obtain ⟨u96, hinv⟩ := hinv
  obtain ⟨u97, hinv⟩ := hinv
  obtain ⟨u98, hinv⟩ := hinv
  obtain ⟨u99, hinv⟩ := hinv
  obtain ⟨u100, hinv⟩ := hinv
  obtain ⟨u101, hinv⟩ := hinv
  obtain ⟨u102, hinv⟩ := hinv
  obtain ⟨u103, hinv⟩ := hinv
  obtain ⟨u104, hinv⟩ := hinv
  obtain ⟨u105, hinv⟩ := hinv
  obtain ⟨u106, hinv⟩ := hinv
  obtain ⟨u107, hinv⟩ := hinv
  obtain ⟨u108, hinv⟩ := hinv
  obtain ⟨u109, hinv⟩ := hinv
  obtain ⟨u110, hinv⟩ := hinv
  obtain ⟨u111, hinv⟩ := hinv
  obtain ⟨u112, hinv⟩ := hinv
  obtain ⟨u113, hinv⟩ := hinv
  obtain ⟨u114, hinv⟩ := hinv
  obtain ⟨u115, hinv⟩ := hinv
  obtain ⟨u116, hinv⟩ := hinv
  obtain ⟨u117, hinv⟩ := hinv
  obtain ⟨u118, hinv⟩ := hinv
  obtain ⟨u119, hinv⟩ := hinv
  obtain ⟨u120, hinv⟩ := hinv
  obtain ⟨u121, hinv⟩ := hinv
  obtain ⟨u122, hinv⟩ := hinv
  obtain ⟨u123, hinv⟩ := hinv
  obtain ⟨u124, hinv⟩ := hinv
  obtain ⟨u125, hinv⟩ := hinv
  obtain ⟨u126, hinv⟩ := hinv
  obtain ⟨u127, hinv⟩ := hinv
  obtain ⟨u128, hinv⟩ := hinv
  obtain ⟨u129, hinv⟩ := hinv
  obtain ⟨u130, hinv⟩ := hinv
  obtain ⟨u131, hinv⟩ := hinv
  obtain ⟨u132, hinv⟩ := hinv
  obtain ⟨u133, hinv⟩ := hinv
  obtain ⟨u134, hinv⟩ := hinv
  obtain ⟨u135, hinv⟩ := hinv
  obtain ⟨u136, hinv⟩ := hinv
  obtain ⟨u137, hinv⟩ := hinv
  obtain ⟨u138, hinv⟩ := hinv
  obtain ⟨u139, hinv⟩ := hinv
  obtain ⟨u140, hinv⟩ := hinv
  obtain ⟨u141, hinv⟩ := hinv
  obtain ⟨u142, hinv⟩ := hinv
  obtain ⟨u143, hinv⟩ := hinv
  obtain ⟨u144, hinv⟩ := hinv
  obtain ⟨u145, hinv⟩ := hinv
  obtain ⟨⟨hn, hm, hW⟩, ha⟩ := hinv
  subst ha
  intro J K hJ hK
  have hat := redTo_at (A := A) (B := B) (r := r) n
  obtain ⟨t, ht⟩ : ∃ x, (redTo r A B n).at_ = x := ⟨_, rfl⟩
  obtain ⟨MA, hMA⟩ : ∃ x, (redTo r A B n).A = x := ⟨_, rfl⟩
  obtain ⟨MB, hMB⟩ : ∃ x, (redTo r A B n).B = x := ⟨_, rfl⟩
  rw [ht, hMA, hMB] at hW
  rw [ht] at hat
  have HT := Lib.hid (And.intro ht (And.intro hMA hMB))
  have c8 : W.cell? ⟨gc, 0, none⟩ = some (.int .i64 (n : Int)) := hW.mc.cell 0
  have c7 : W.cell? ⟨gf + 1 + 1 + 1, 0, none⟩ = some (.int .i64 (t : Int)) := hW.inv.mt.cell 0
  obtain ⟨⟨a0, a1, a2⟩, _⟩ := cells3 hW.inv.ma
  have HW := Lib.hid hW
  have HM := Lib.hid hm
  clear ht hMA hMB hW hm
  by_cases hnc : n < c ∧ t < r
  ·have HNC := Lib.hid (And.intro hnc hat)
   have n1 : decide (n < c) = true := decide_eq_true hnc.1
   have n2 : decide (t < r) = true := decide_eq_true hnc.2
   have n3 := hnc.1
   have n4 := hnc.2
   clear hnc hat hn
   go_wp2_with fail
   clear a0 a1 a2 c7 c8
   go_loopw [9] (fun x wr => ∃ fm : Nat, x = .int .i64 (fm : Int) ∧ t ≤ fm ∧ fm ≤ r ∧ ZerosTo MA n t fm ∧ RedW w p gf (gf + 1) (gf + 1 + 1) (gf + 1 + 1 + 1) (some ⟨ga, 0, none⟩) XB capA capB r c d gc n Ds wr t MA MB) (fun x _ => r - (intOf x).toNat)
   case atStart => exact ⟨t, rfl, Nat.le_refl _, by have := HNC.out; omega, zeros_start MA n t, HW.out⟩
   case round =>
    obtain ⟨fm, rfl, h1, h2, h3, h4⟩ := hrel
    have HF := Lib.hid (And.intro h1 (And.intro h2 (And.intro h3 h4)))
    have f9 : (fm : Int) ≤ 1000 := by have := HL.out.2.2.1; omega
    have f0 : (0 : Int) ≤ (fm : Int) := by omega
    by_cases hfr : fm < r
    ·have hfi : (fm : Int) < (r : Int) := by omega
     obtain ⟨k1, k2⟩ := h4.inv.atA rfl hfr (show n < c from n3)
     obtain ⟨q, hq⟩ : ∃ q, fm * c = q := ⟨_, rfl⟩
     have hrow : rowA (some ⟨ga, 0, none⟩) c fm = some ⟨ga, q, none⟩ := by rw [rowA_some (by omega), Nat.zero_add, hq]
     rw [hq] at k1 k2
     have HQ := Lib.hid (And.intro hq (And.intro hrow hfr))
     obtain ⟨x, hx⟩ : ∃ x, MA fm n = x := ⟨_, rfl⟩
     rw [hx] at k1
     have HX := Lib.hid hx
     clear hq hrow h1 h2 h3 h4 hfr hx
     by_cases hx0 : x = 0
     ·have z1 : ((x.toNat : Int) == 0) = true := by rw [hx0]; rfl
      have HX0 := Lib.hid hx0
      clear hx0
      go_wp2_with fail
      --HELD red6
      refine wp_region_noPanic ?_
      refine wp_heldG (fun w' => Blk w' (gf + 1) 27 (mcells r c (some ⟨ga, 0, none⟩) (r * c) capA) ∧ Blk w' gc 3 #[.int .i64 (n : Int)] ∧ w'.cell? ⟨ga, q + n, none⟩ = some (.int .u8 (x.toNat : Int))) [] (by kernel_rfl) ?hs0 ?rg0
      case hs0 =>
       exact ⟨HF.out.2.2.2.inv.ma, HF.out.2.2.2.mc, k1⟩
      case rg0 =>
      intro hHeld
      refine pu 0 ?_
      refine pu 1 ?_
      refine tk 2 rfl (by intro w hSw; (try dsimp only at hSw); obtain ⟨⟨c0, c1, c2⟩, _⟩ := cells3 hSw.1; go_simp; try with_reducible rfl) ?_
      refine pu 3 ?_
      refine pu 4 ?_
      refine tk 5 rfl (by intro w hSw; (try dsimp only at hSw); obtain ⟨⟨c0, c1, c2⟩, _⟩ := cells3 hSw.1; go_simp; try with_reducible rfl) ?_
      refine pu 6 ?_
      refine tk 8 rfl (by intro w hSw; (try dsimp only at hSw); have c0 : w.cell? ⟨gc, 0, none⟩ = some (.int .i64 (n : Int)) := hSw.2.1.cell 0; go_simp; try with_reducible rfl) ?_
      refine on 7 rfl fun K hK => ?_
      go_simp
      refine (row_any _ r c fm (some ⟨ga, 0, none⟩) (r * c) capA HQ.out.2.2 (by have := HL.out.2.2.1; omega) rfl HL.out.2.2.2.2.2.1 HF.out.2.2.2.inv.ra.le).mono ?_
      rintro e w6 ⟨rfl, hb⟩
      rw [HQ.out.2.1]
      have H6 := Lib.hid (next (nextN (Mem.start wr) 1) hb)
      try dsimp only
      refine hK.out _ _ (fun _ => ⟨hHeld.1.keep hb, hHeld.2.1.keep hb, (hb.cell (p := ⟨ga, q + n, none⟩) (World.block_lt_of_cell? _ _ hHeld.2.2)).trans hHeld.2.2⟩) fun hHeld => ?_
      clear hK K
      try simp only [pU, pU0, pA, pB, pC]
      have hHeld := hHeld (by kernel_rfl)
      refine pu 9 (hv := by intro w _; have n3 := n3; go_simp; try with_reducible rfl) ?_
      refine tk 10 rfl (by intro w hSw; (try dsimp only at hSw); have c0 := hSw.2.2; go_simp; try with_reducible rfl) ?_
      refine pu 11 ?_
      refine pu 12 ?_
      refine wpAnyG_done (by kernel_rfl) ?_ _
      refine NoPanic.normal ?_
      --END red6
      go_wp2_with fail
      go_roundw
      case rel => exact ⟨fm + 1, by simp, by have := HF.out.1; omega, HQ.out.2.2, zeros_next HF.out.2.2.1 (by rw [HX.out]; exact HX0.out), HF.out.2.2.2.keep H6.out⟩
      case measure => simp [intOf]; have := HQ.out.2.2; omega
     ·have z1 : ((x.toNat : Int) == 0) = false := u8_zero_no hx0
      have HX0 := Lib.hid hx0
      clear hx0
      go_wp2_with fail
      --HELD red6b
      refine wp_region_noPanic ?_
      refine wp_heldG (fun w' => Blk w' (gf + 1) 27 (mcells r c (some ⟨ga, 0, none⟩) (r * c) capA) ∧ Blk w' gc 3 #[.int .i64 (n : Int)] ∧ w'.cell? ⟨ga, q + n, none⟩ = some (.int .u8 (x.toNat : Int))) [] (by kernel_rfl) ?hs0 ?rg0
      case hs0 =>
       exact ⟨HF.out.2.2.2.inv.ma, HF.out.2.2.2.mc, k1⟩
      case rg0 =>
      intro hHeld
      refine pu 0 ?_
      refine pu 1 ?_
      refine tk 2 rfl (by intro w hSw; (try dsimp only at hSw); obtain ⟨⟨c0, c1, c2⟩, _⟩ := cells3 hSw.1; go_simp; try with_reducible rfl) ?_
      refine pu 3 ?_
      refine pu 4 ?_
      refine tk 5 rfl (by intro w hSw; (try dsimp only at hSw); obtain ⟨⟨c0, c1, c2⟩, _⟩ := cells3 hSw.1; go_simp; try with_reducible rfl) ?_
      refine pu 6 ?_
      refine tk 8 rfl (by intro w hSw; (try dsimp only at hSw); have c0 : w.cell? ⟨gc, 0, none⟩ = some (.int .i64 (n : Int)) := hSw.2.1.cell 0; go_simp; try with_reducible rfl) ?_
      refine on 7 rfl fun K hK => ?_
      go_simp
      refine (row_any _ r c fm (some ⟨ga, 0, none⟩) (r * c) capA HQ.out.2.2 (by have := HL.out.2.2.1; omega) rfl HL.out.2.2.2.2.2.1 HF.out.2.2.2.inv.ra.le).mono ?_
      rintro e w6 ⟨rfl, hb⟩
      rw [HQ.out.2.1]
      have H6 := Lib.hid (next (nextN (Mem.start wr) 1) hb)
      try dsimp only
      refine hK.out _ _ (fun _ => ⟨hHeld.1.keep hb, hHeld.2.1.keep hb, (hb.cell (p := ⟨ga, q + n, none⟩) (World.block_lt_of_cell? _ _ hHeld.2.2)).trans hHeld.2.2⟩) fun hHeld => ?_
      clear hK K
      try simp only [pU, pU0, pA, pB, pC]
      have hHeld := hHeld (by kernel_rfl)
      refine pu 9 (hv := by intro w _; have n3 := n3; go_simp; try with_reducible rfl) ?_
      refine tk 10 rfl (by intro w hSw; (try dsimp only at hSw); have c0 := hSw.2.2; go_simp; try with_reducible rfl) ?_
      refine pu 11 ?_
      refine pu 12 ?_
      refine wpAnyG_done (by kernel_rfl) ?_ _
      refine NoPanic.normal ?_
      --END red6b
      have h6 := HF.out.2.2.2.keep H6.out
      have HW6 := Lib.hid h6
      have hfe : ((fm : Int) == (r : Int)) = false := by have := HQ.out.2.2; simp; omega
      have HFE := Lib.hid hfe
      obtain ⟨⟨a0, a1, a2⟩, _⟩ := cells3 h6.inv.ma
      obtain ⟨k3, _⟩ := h6.inv.atA rfl HQ.out.2.2 (show n < c from n3)
      rw [HQ.out.1, HX.out] at k3
      clear h6 hfi
      go_wp2_with fail
      --HELD red9
      refine wp_region_noPanic ?_
      refine wp_heldG (fun w' => Blk w' gf 24 (fcellv p) ∧ Blk w' (gf + 1) 27 (mcells r c (some ⟨ga, 0, none⟩) (r * c) capA) ∧ Blk w' gc 3 #[.int .i64 (n : Int)] ∧ w'.cell? ⟨ga, q + n, none⟩ = some (.int .u8 (x.toNat : Int))) [] (by kernel_rfl) ?hs0 ?rg0
      case hs0 =>
       exact ⟨HW6.out.inv.ff, HW6.out.inv.ma, HW6.out.mc, k3⟩
      case rg0 =>
      intro hHeld
      refine tk 0 rfl (by intro w hSw; (try dsimp only at hSw); have c0 := hSw.1.cell 0; simp only [fcellv, List.getElem?_toArray, List.getElem?_cons_zero] at c0; go_simp; try with_reducible rfl) ?_
      refine tk 1 rfl (by intro w hSw; (try dsimp only at hSw); obtain ⟨⟨c0, c1, c2⟩, _⟩ := cells3 hSw.2.1; go_simp; try with_reducible rfl) ?_
      refine pu 2 ?_
      refine tk 4 rfl (by intro w hSw; (try dsimp only at hSw); have c0 : w.cell? ⟨gc, 0, none⟩ = some (.int .i64 (n : Int)) := hSw.2.2.1.cell 0; go_simp; try with_reducible rfl) ?_
      refine on 3 rfl fun K hK => ?_
      go_simp
      refine (row_any _ r c fm (some ⟨ga, 0, none⟩) (r * c) capA HQ.out.2.2 (by have := HL.out.2.2.1; omega) rfl HL.out.2.2.2.2.2.1 HF.out.2.2.2.inv.ra.le).mono ?_
      rintro e w7 ⟨rfl, hb⟩
      rw [HQ.out.2.1]
      have H7 := Lib.hid (next (nextN (Mem.start w6) 1) hb)
      try dsimp only
      refine hK.out _ _ (fun _ => ⟨hHeld.1.keep hb, hHeld.2.1.keep hb, hHeld.2.2.1.keep hb, (hb.cell (p := ⟨ga, q + n, none⟩) (World.block_lt_of_cell? _ _ hHeld.2.2.2)).trans hHeld.2.2.2⟩) fun hHeld => ?_
      clear hK K
      try simp only [pU, pU0, pA, pB, pC]
      have hHeld := hHeld (by kernel_rfl)
      refine pu 5 ?_
      refine tk 6 rfl (by intro w hSw; (try dsimp only at hSw); have c0 := hSw.2.2.2; go_simp; try with_reducible rfl) ?_
      refine on 7 rfl fun K hK => ?_
      clear hb
      go_simp
      refine (inv_any _ (some p) (FldR.some (HW6.out.inv.fld.keep H7.out)) _ x rfl).mono ?_
      rintro e w8 ⟨rfl, hF8, hf8⟩
      have H8 := Lib.hid (And.intro (hF8 p rfl) (hf8.mono (S' := fun k => k = p) fun k _ e => by injection e with e; exact e.symm))
      clear hF8 hf8
      try dsimp only
      refine hK.out _ _ (fun _ => have hn1 := HN.out.n1; have hnp := HN.out.np; have hgc := HW6.out.gtc; ⟨hHeld.1.fr H8.out.2 (by omega), hHeld.2.1.fr H8.out.2 (by omega), hHeld.2.2.1.fr H8.out.2 (by omega), cellFr H8.out.2 hHeld.2.2.2 (fun e => (HN.out.na ga rfl).2 e)⟩) fun hHeld => ?_
      clear hK K
      try simp only [pU, pU0, pA, pB, pC]
      have hHeld := hHeld (by kernel_rfl)
      refine pu 8 ?_
      refine pu 9 ?_
      refine pu 10 ?_
      refine pu 11 ?_
      refine pu 12 ?_
      refine wpAnyG_done (by kernel_rfl) ?_ _
      refine NoPanic.normal ?_
      --END red9
      have HW8 := Lib.hid ((HW6.out.keep H7.out).field HN.out H8.out.2 H8.out.1)
      clear a0 a1 a2 k1 k2 k3 hfe z1
      obtain ⟨⟨a0, a1, a2⟩, _⟩ := cells3 HW8.out.inv.ma
      obtain ⟨⟨b0, b1, b2⟩, _⟩ := cells3 HW8.out.inv.mb
      go_wp2_with fail
      obtain ⟨w9, gl, h9, hw9, hgl⟩ := boxed w8 #[.int .i64 (r : Int), .int .i64 (c : Int), .slice (some ⟨ga, 0, none⟩) (r * c) capA, .int .i64 (r : Int), .int .i64 (d : Int), .slice XB (r * d) capB]
      rw [hw9, hgl]
      have HW9 := Lib.hid (And.intro (HW8.out.keep h9.1) h9.2.1)
      have HGL := Lib.hid (And.intro hgl (RedW.old HN.out HW8.out))
      have HTR := Lib.hid n4
      clear hw9 hgl h9 a0 a1 a2 b0 b1 b2
      go_loopw [69] (fun x wr => ∃ j : Nat, x = .int .i64 (j : Int) ∧ j ≤ 2 ∧ RedW w p gf (gf + 1) (gf + 1 + 1) (gf + 1 + 1 + 1) (some ⟨ga, 0, none⟩) XB capA capB r c d gc n Ds wr t (phA MA t fm n j) (phB MA MB t fm n j) ∧ Blk wr gl 27 #[.int .i64 (r : Int), .int .i64 (c : Int), .slice (some ⟨ga, 0, none⟩) (r * c) capA, .int .i64 (r : Int), .int .i64 (d : Int), .slice XB (r * d) capB]) (fun x _ => 2 - (intOf x).toNat)
      case atStart => exact ⟨0, rfl, by omega, HW9.out.1, HW9.out.2⟩
      case round =>
       obtain ⟨j, rfl, hj, h1, h2⟩ := hrel
       rcases (show j = 0 ∨ j = 1 ∨ j = 2 by omega) with rfl | rfl | rfl
       ·have hw9 := h1
        have e0 : wr.cell? ⟨gl, 0, none⟩ = some (.int .i64 (r : Int)) := h2.cell 0
        have e1 : wr.cell? ⟨gl, 1, none⟩ = some (.int .i64 (c : Int)) := h2.cell 1
        have e2 : wr.cell? ⟨gl, 2, none⟩ = some (.slice (some ⟨ga, 0, none⟩) (r * c) capA) := h2.cell 2
        have HR1 := Lib.hid (And.intro (show RedW w p gf (gf + 1) (gf + 1 + 1) (gf + 1 + 1 + 1) (some ⟨ga, 0, none⟩) XB capA capB r c d gc n Ds wr t MA MB from h1) h2)
        obtain ⟨w10, gm, h10, hw10, hgm⟩ := boxed wr (mcells r c (some ⟨ga, 0, none⟩) (r * c) capA)
        have HW10 := Lib.hid (show wr.alloc (.cells #[.int .i64 (r : Int), .int .i64 (c : Int), .slice (some ⟨ga, 0, none⟩) (r * c) capA] 27) = w10 from hw10)
        have H10 := Lib.hid (And.intro (HR1.out.1.keep h10.1) (And.intro (HR1.out.2.keep h10.1) h10.2.1))
        have HGM := Lib.hid (And.intro hgm h10.1)
        clear h1 h2 hw9 hw10 h10 hgm hj
        go_wp2_with fail
        rw [HW10.out, HGM.out.1]
        --HELD red13A
        refine wp_region_noPanic ?_
        refine wp_heldG (fun w' => Blk w' gm 27 (mcells r c (some ⟨ga, 0, none⟩) (r * c) capA) ∧ Blk w' (gf + 1 + 1 + 1) 3 #[.int .i64 (t : Int)]) [] (by kernel_rfl) ?hs0 ?rg0
        case hs0 =>
         exact ⟨H10.out.2.2, H10.out.1.inv.mt⟩
        case rg0 =>
        intro hHeld
        refine tk 0 rfl (by intro w hSw; (try dsimp only at hSw); obtain ⟨⟨c0, c1, c2⟩, _⟩ := cells3 hSw.1; go_simp; try with_reducible rfl) ?_
        refine tk 1 rfl (by intro w hSw; (try dsimp only at hSw); have c0 : w.cell? ⟨gf + 1 + 1 + 1, 0, none⟩ = some (.int .i64 (t : Int)) := hSw.2.cell 0; go_simp; try with_reducible rfl) ?_
        refine tk 3 rfl (by intro w hSw; (try dsimp only at hSw); obtain ⟨⟨c0, c1, c2⟩, _⟩ := cells3 hSw.1; go_simp; try with_reducible rfl) ?_
        refine pu 4 ?_
        refine on 2 rfl fun K hK => ?_
        go_simp
        refine (row_any _ r c t (some ⟨ga, 0, none⟩) (r * c) capA HTR.out (by have := HL.out.2.2.1; omega) rfl HL.out.2.2.2.2.2.1 H10.out.1.inv.ra.le).mono ?_
        rintro e w11 ⟨rfl, hb⟩
        have H11 := Lib.hid (next (nextN (Mem.start w10) 1) hb)
        try dsimp only
        refine hK.out _ _ (fun _ => ⟨hHeld.1.keep hb, hHeld.2.keep hb⟩) fun hHeld => ?_
        clear hK K
        try simp only [pU, pU0, pA, pB, pC]
        have hHeld := hHeld (by kernel_rfl)
        refine on 5 rfl fun K hK => ?_
        clear hb
        go_simp
        refine (row_any _ r c fm (some ⟨ga, 0, none⟩) (r * c) capA HQ.out.2.2 (by have := HL.out.2.2.1; omega) rfl HL.out.2.2.2.2.2.1 H10.out.1.inv.ra.le).mono ?_
        rintro e w12 ⟨rfl, hb⟩
        have H12 := Lib.hid (next H11.out hb)
        try dsimp only
        refine hK.out _ _ (fun _ => ⟨hHeld.1.keep hb, hHeld.2.keep hb⟩) fun hHeld => ?_
        clear hK K
        try simp only [pU, pU0, pA, pB, pC]
        have hHeld := hHeld (by kernel_rfl)
        refine pu 6 ?_
        refine pu 7 ?_
        refine wpAnyG_done (by kernel_rfl) ?_ _
        refine NoPanic.normal ?_
        --END red13A
        have HW12 := Lib.hid (And.intro (H10.out.1.keep H12.out) (H10.out.2.1.keep H12.out))
        clear e0 e1 e2
        obtain ⟨q1, hq1⟩ : ∃ q1, t * c = q1 := ⟨_, rfl⟩
        rw [show rowA (some ⟨ga, 0, none⟩) c t = some ⟨ga, q1, none⟩ from by rw [rowA_some HL.out.2.1, Nat.zero_add, hq1], HQ.out.2.1]
        have HQ1 := Lib.hid hq1
        clear hq1
        go_wp2_with fail
        go_loopw [81] (fun x wr => ∃ j : Nat, x = .int .i64 (j : Int) ∧ j ≤ c ∧ RedW w p gf (gf + 1) (gf + 1 + 1) (gf + 1 + 1 + 1) (some ⟨ga, 0, none⟩) XB capA capB r c d gc n Ds wr t (swapUp MA t fm j) MB ∧ Blk wr gl 27 #[.int .i64 (r : Int), .int .i64 (c : Int), .slice (some ⟨ga, 0, none⟩) (r * c) capA, .int .i64 (r : Int), .int .i64 (d : Int), .slice XB (r * d) capB]) (fun x _ => c - (intOf x).toNat)
        case atStart => exact ⟨0, rfl, Nat.zero_le _, HW12.out.1.congr (fun i _ k _ => by unfold swapUp; rw [if_neg (by omega)]) (fun _ _ _ _ => rfl), HW12.out.2⟩
        case round =>
         obtain ⟨j, rfl, hj, h1, h2⟩ := hrel
         by_cases hjc : j < c
         ·have hji : (j : Int) < (c : Int) := by omega
          have hj0 : (0 : Int) ≤ (j : Int) := by omega
          have hj9 : (j : Int) ≤ 5000 := by have := HL.out; omega
          obtain ⟨x1, x2⟩ := h1.inv.atA rfl HTR.out hjc
          obtain ⟨y1, y2⟩ := h1.inv.atA rfl HQ.out.2.2 hjc
          rw [HQ1.out] at x1 x2
          rw [HQ.out.1] at y1 y2
          have es : ∀ i, swapUp MA t fm j i j = MA i j := fun i => by unfold swapUp; rw [if_neg (Nat.lt_irrefl _)]
          rw [es t] at x1
          rw [es fm] at y1
          obtain ⟨xv, hxv⟩ : ∃ v, MA t j = v := ⟨_, rfl⟩
          obtain ⟨yv, hyv⟩ : ∃ v, MA fm j = v := ⟨_, rfl⟩
          rw [hxv] at x1
          rw [hyv] at y1
          have HV := Lib.hid (And.intro hxv (And.intro hyv hjc))
          have HW := Lib.hid (And.intro h1 h2)
          clear es hxv hyv hjc h1 h2 hj
          go_wp2_with fail
          --HELD red17A
          refine wp_region_noPanic ?_
          refine wp_heldG (fun w' => w'.cell? ⟨ga, q1 + j, none⟩ = some (.int .u8 (xv.toNat : Int)) ∧ w'.cell? ⟨ga, q + j, none⟩ = some (.int .u8 (yv.toNat : Int))) [13, 15] (by kernel_rfl) ?hs0 ?rg0
          case hs0 =>
           exact ⟨x1, y1⟩
          case rg0 =>
          intro hHeld
          refine pu 0 ?_
          refine pu 1 ?_
          refine pu 2 ?_
          refine pu 3 ?_
          refine pu 4 ?_
          refine pu 5 ?_
          refine pu 6 ?_
          refine tk 7 rfl (by intro w hSw; (try dsimp only at hSw); have c0 := hSw.2; go_simp; try with_reducible rfl) ?_
          refine pu 8 ?_
          refine pu 9 ?_
          refine pu 10 ?_
          refine tk 11 rfl (by intro w hSw; (try dsimp only at hSw); have c0 := hSw.1; go_simp; try with_reducible rfl) ?_
          refine pu 12 ?_
          refine on 13 rfl fun K hK => ?_
          go_simp
          try dsimp only
          refine hK.out _ _ ?_ (fun hHeld => ?_)
          ·exact fun h => (st_no (by kernel_rfl) h).elim
          clear hK K
          try simp only [pU, pU0, pA, pB, pC]
          clear hHeld
          refine puG 14 ⟨_, _, _, _, _, _⟩ (v := ?_) ?_ (fun h => (st_no (by kernel_rfl) h).elim) ?_
          rotate_left
          ·intro w hSw
           try dsimp only at hSw
           go_simp
           try with_reducible rfl
          try simp only [pU, pU0, pA, pB, pC]
          refine on 15 rfl fun K hK => ?_
          have hs1 := HW.out.1.setA rfl HN.out HTR.out HV.out.2.2 yv
          rw [HQ1.out] at hs1
          have HS1 := Lib.hid hs1
          obtain ⟨s1, s2⟩ := hs1.inv.atA rfl HQ.out.2.2 HV.out.2.2
          rw [HQ.out.1] at s1 s2
          clear hs1
          have s1' : (wr.setCell ⟨ga, q1 + j, none⟩ (.int .u8 (yv.toNat : Int))).cell? ⟨ga, q + j, none⟩ = some _ := s1
          have s2' : (wr.setCell ⟨ga, q1 + j, none⟩ (.int .u8 (yv.toNat : Int))).frozen? ⟨ga, q + j, none⟩ = false := s2
          go_simp
          try dsimp only
          refine hK.out _ _ ?_ (fun hHeld => ?_)
          ·exact fun h => (st_no (by kernel_rfl) h).elim
          clear hK K
          try simp only [pU, pU0, pA, pB, pC]
          clear hHeld
          refine wpAnyG_done (by kernel_rfl) ?_ _
          refine NoPanic.normal ?_
          --END red17A
          have hs2 := HS1.out.setA rfl HN.out HQ.out.2.2 HV.out.2.2 xv
          rw [HQ.out.1] at hs2
          have HS2 := Lib.hid hs2
          have HF2 := Lib.hid ((setF (p := ga) wr ⟨ga, q1 + j, none⟩ rfl (.int .u8 (yv.toNat : Int))).trans (setF (p := ga) (wr.setCell ⟨ga, q1 + j, none⟩ (.int .u8 (yv.toNat : Int))) ⟨ga, q + j, none⟩ rfl (.int .u8 (xv.toNat : Int))) fun _ _ h => h)
          clear hs2 x1 x2 y1 y2
          go_wp2_with fail
          go_roundw
          case rel =>
           refine ⟨j + 1, by simp, HV.out.2.2, (HS2.out.keep (nextN (Mem.start _) 1)).congr (fun i _ k _ => by rw [← HV.out.1, ← HV.out.2.1]; exact swapUp_step _ _ _ _ _ _) (fun _ _ _ _ => rfl), (HW.out.2.fr HF2.out (fun e => ?_)).keep (nextN (Mem.start _) 1)⟩
           have hn1 := HN.out.rs (.inl (show Bk (some ⟨ga, 0, none⟩) gl from by rw [e]; rfl))
           have := HGL.out; have := HN.out.n1; have := HN.out.n4
           omega
          case measure => simp [intOf]; omega
         ·obtain rfl : c = j := by omega
          have HWS := Lib.hid (And.intro (show RedW w p gf (gf + 1) (gf + 1 + 1) (gf + 1 + 1 + 1) (some ⟨ga, 0, none⟩) XB capA capB r c d gc n Ds wr t (swapM MA t fm) MB from h1.congr (fun i _ k hk => by unfold swapUp; rw [if_pos hk]) (fun _ _ _ _ => rfl)) h2)
          clear h1 h2 hj hjc
          go_wp2_with fail
          go_loopw [101] (fun x' wr => ∃ j : Nat, x' = .int .i64 (j : Int) ∧ j ≤ c ∧ RedW w p gf (gf + 1) (gf + 1 + 1) (gf + 1 + 1 + 1) (some ⟨ga, 0, none⟩) XB capA capB r c d gc n Ds wr t (scaleUp (swapM MA t fm) t (inv x) j) MB ∧ Blk wr gl 27 #[.int .i64 (r : Int), .int .i64 (c : Int), .slice (some ⟨ga, 0, none⟩) (r * c) capA, .int .i64 (r : Int), .int .i64 (d : Int), .slice XB (r * d) capB]) (fun x' _ => c - (intOf x').toNat)
          case atStart => exact ⟨0, rfl, Nat.zero_le _, HWS.out.1.congr (fun i _ k _ => by unfold scaleUp; rw [if_neg (by omega)]) (fun _ _ _ _ => rfl), HWS.out.2⟩
          case round =>
           obtain ⟨j, rfl, hj, h1, h2⟩ := hrel
           by_cases hjc : j < c
           ·have hji : (j : Int) < (c : Int) := by omega
            have hj0 : (0 : Int) ≤ (j : Int) := by omega
            have hj9 : (j : Int) ≤ 5000 := by have := HL.out; omega
            obtain ⟨x1, x2⟩ := h1.inv.atA rfl HTR.out hjc
            rw [HQ1.out] at x1 x2
            rw [show scaleUp (swapM MA t fm) t (inv x) j t j = MA fm j from by unfold scaleUp swapM; rw [if_neg (by omega), if_pos rfl]] at x1
            obtain ⟨sv, hsv⟩ : ∃ v, MA fm j = v := ⟨_, rfl⟩
            rw [hsv] at x1
            have HV := Lib.hid (And.intro hsv hjc)
            have HW := Lib.hid (And.intro h1 h2)
            have c3 : wr.cell? ⟨gf, 0, none⟩ = some (fptr (some p)) := h1.inv.ff.cell 0
            clear hsv hjc h1 h2 hj
            go_wp2_with fail
            refine (mul_any _ (some p) (FldR.some HW.out.1.inv.fld) _ _ sv (inv x) rfl rfl).mono ?_
            rintro e w13 ⟨rfl, hF, hf⟩
            have hf2 : Fr (fun k => k = p) wr w13 := hf.mono fun k _ e => by injection e with e; exact e.symm
            have HW13 := Lib.hid (HW.out.1.field HN.out hf2 (hF p rfl))
            have HB13 := Lib.hid (HW.out.2.fr hf2 (fun e => by have := HGL.out; have := HN.out.n1; have := HN.out.n4; have := HN.out.np; omega))
            obtain ⟨x3, x4⟩ := HW13.out.inv.atA rfl HTR.out HV.out.2
            rw [HQ1.out] at x3 x4
            clear hF hf hf2 x1 x2 c3
            go_wp2_with fail
            go_roundw
            case rel =>
             have hs := HW13.out.setA rfl HN.out HTR.out HV.out.2 (mul sv (inv x))
             rw [HQ1.out] at hs
             refine ⟨j + 1, by simp, HV.out.2, hs.congr (fun i _ k _ => by rw [← HV.out.1, ← show swapM MA t fm t j = MA fm j from by unfold swapM; rw [if_pos rfl]]; exact scaleUp_step _ _ _ _ _ _) (fun _ _ _ _ => rfl), HB13.out.fr (setF (p := ga) _ ⟨ga, q1 + j, none⟩ rfl _) (fun e => ?_)⟩
             have hn1 := HN.out.rs (.inl (show Bk (some ⟨ga, 0, none⟩) gl from by rw [e]; rfl))
             have := HGL.out; have := HN.out.n1; have := HN.out.n4
             omega
            case measure => simp [intOf]; omega
           ·obtain rfl : c = j := by omega
            have HWE := Lib.hid (And.intro (show RedW w p gf (gf + 1) (gf + 1 + 1) (gf + 1 + 1 + 1) (some ⟨ga, 0, none⟩) XB capA capB r c d gc n Ds wr t (phA MA t fm n 1) (phB MA MB t fm n 1) from h1.congr (fun i _ k hk => by rw [scaleUp_all _ _ _ hk, ← HX.out]; rfl) (fun _ _ _ _ => rfl)) h2)
            clear h1 h2 hj hjc
            go_wp2_with fail
            go_roundw
            case rel => exact ⟨1, by simp, by omega, HWE.out.1, HWE.out.2⟩
            case measure => simp [intOf]
       ·have hw9 := h1
        have e0 : wr.cell? ⟨gl, 3, none⟩ = some (.int .i64 (r : Int)) := h2.cell 3
        have e1 : wr.cell? ⟨gl, 4, none⟩ = some (.int .i64 (d : Int)) := h2.cell 4
        have e2 : wr.cell? ⟨gl, 5, none⟩ = some (.slice XB (r * d) capB) := h2.cell 5
        have HR1 := Lib.hid (And.intro (show RedW w p gf (gf + 1) (gf + 1 + 1) (gf + 1 + 1 + 1) (some ⟨ga, 0, none⟩) XB capA capB r c d gc n Ds wr t (pivA MA t fm n) MB from h1) h2)
        obtain ⟨w10, gm, h10, hw10, hgm⟩ := boxed wr (mcells r d XB (r * d) capB)
        have HW10 := Lib.hid (show wr.alloc (.cells #[.int .i64 (r : Int), .int .i64 (d : Int), .slice XB (r * d) capB] 27) = w10 from hw10)
        have H10 := Lib.hid (And.intro (HR1.out.1.keep h10.1) (And.intro (HR1.out.2.keep h10.1) h10.2.1))
        have HGM := Lib.hid (And.intro hgm h10.1)
        clear h1 h2 hw9 hw10 h10 hgm hj
        go_wp2_with fail
        rw [HW10.out, HGM.out.1]
        --HELD red13B
        refine wp_region_noPanic ?_
        refine wp_heldG (fun w' => Blk w' gm 27 (mcells r d XB (r * d) capB) ∧ Blk w' (gf + 1 + 1 + 1) 3 #[.int .i64 (t : Int)]) [] (by kernel_rfl) ?hs0 ?rg0
        case hs0 =>
         exact ⟨H10.out.2.2, H10.out.1.inv.mt⟩
        case rg0 =>
        intro hHeld
        refine tk 0 rfl (by intro w hSw; (try dsimp only at hSw); obtain ⟨⟨c0, c1, c2⟩, _⟩ := cells3 hSw.1; go_simp; try with_reducible rfl) ?_
        refine tk 1 rfl (by intro w hSw; (try dsimp only at hSw); have c0 : w.cell? ⟨gf + 1 + 1 + 1, 0, none⟩ = some (.int .i64 (t : Int)) := hSw.2.cell 0; go_simp; try with_reducible rfl) ?_
        refine tk 3 rfl (by intro w hSw; (try dsimp only at hSw); obtain ⟨⟨c0, c1, c2⟩, _⟩ := cells3 hSw.1; go_simp; try with_reducible rfl) ?_
        refine pu 4 ?_
        refine on 2 rfl fun K hK => ?_
        go_simp
        refine (row_any _ r d t XB (r * d) capB HTR.out (by have := HL.out.2.2.1; omega) rfl HL.out.2.2.2.2.2.2 H10.out.1.inv.rb.le).mono ?_
        rintro e w11 ⟨rfl, hb⟩
        have H11 := Lib.hid (next (nextN (Mem.start w10) 1) hb)
        try dsimp only
        refine hK.out _ _ (fun _ => ⟨hHeld.1.keep hb, hHeld.2.keep hb⟩) fun hHeld => ?_
        clear hK K
        try simp only [pU, pU0, pA, pB, pC]
        have hHeld := hHeld (by kernel_rfl)
        refine on 5 rfl fun K hK => ?_
        clear hb
        go_simp
        refine (row_any _ r d fm XB (r * d) capB HQ.out.2.2 (by have := HL.out.2.2.1; omega) rfl HL.out.2.2.2.2.2.2 H10.out.1.inv.rb.le).mono ?_
        rintro e w12 ⟨rfl, hb⟩
        have H12 := Lib.hid (next H11.out hb)
        try dsimp only
        refine hK.out _ _ (fun _ => ⟨hHeld.1.keep hb, hHeld.2.keep hb⟩) fun hHeld => ?_
        clear hK K
        try simp only [pU, pU0, pA, pB, pC]
        have hHeld := hHeld (by kernel_rfl)
        refine pu 6 ?_
        refine pu 7 ?_
        refine wpAnyG_done (by kernel_rfl) ?_ _
        refine NoPanic.normal ?_
        --END red13B
        have HW12 := Lib.hid (And.intro (H10.out.1.keep H12.out) (H10.out.2.1.keep H12.out))
        clear e0 e1 e2
        obtain ⟨Y1, hY1⟩ : ∃ Y, rowA XB d t = Y := ⟨_, rfl⟩
        obtain ⟨Y2, hY2⟩ : ∃ Y, rowA XB d fm = Y := ⟨_, rfl⟩
        rw [hY1, hY2]
        have HY := Lib.hid (And.intro hY1 hY2)
        clear hY1 hY2
        go_wp2_with fail
        go_loopw [81] (fun x wr => ∃ j : Nat, x = .int .i64 (j : Int) ∧ j ≤ d ∧ RedW w p gf (gf + 1) (gf + 1 + 1) (gf + 1 + 1 + 1) (some ⟨ga, 0, none⟩) XB capA capB r c d gc n Ds wr t (pivA MA t fm n) (swapUp MB t fm j) ∧ Blk wr gl 27 #[.int .i64 (r : Int), .int .i64 (c : Int), .slice (some ⟨ga, 0, none⟩) (r * c) capA, .int .i64 (r : Int), .int .i64 (d : Int), .slice XB (r * d) capB]) (fun x _ => d - (intOf x).toNat)
        case atStart => exact ⟨0, rfl, Nat.zero_le _, HW12.out.1.congr (fun _ _ _ _ => rfl) (fun i _ k _ => by unfold swapUp; rw [if_neg (by omega)]), HW12.out.2⟩
        case round =>
         obtain ⟨j, rfl, hj, h1, h2⟩ := hrel
         by_cases hjc : j < d
         ·have hji : (j : Int) < (d : Int) := by omega
          have hj0 : (0 : Int) ≤ (j : Int) := by omega
          have hj9 : (j : Int) ≤ 5000 := by have := HL.out; omega
          obtain ⟨gb, hgb, _⟩ := h1.inv.rb.some HL.out.1 (show 0 < d by omega)
          have HGB := Lib.hid hgb
          obtain ⟨q1, hq1⟩ : ∃ q1, t * d = q1 := ⟨_, rfl⟩
          obtain rfl : Y1 = some ⟨gb, q1, none⟩ := by rw [← HY.out.1, hgb, rowA_some (by omega), Nat.zero_add, hq1]
          have HQ1 := Lib.hid hq1
          obtain ⟨q2, hq2⟩ : ∃ q2, fm * d = q2 := ⟨_, rfl⟩
          obtain rfl : Y2 = some ⟨gb, q2, none⟩ := by rw [← HY.out.2, hgb, rowA_some (by omega), Nat.zero_add, hq2]
          have HQ2 := Lib.hid hq2
          clear hq2
          clear hgb hq1
          obtain ⟨x1, x2⟩ := h1.inv.atB HGB.out HTR.out hjc
          obtain ⟨y1, y2⟩ := h1.inv.atB HGB.out HQ.out.2.2 hjc
          rw [HQ1.out] at x1 x2
          rw [HQ2.out] at y1 y2
          have es : ∀ i, swapUp MB t fm j i j = MB i j := fun i => by unfold swapUp; rw [if_neg (Nat.lt_irrefl _)]
          rw [es t] at x1
          rw [es fm] at y1
          obtain ⟨xv, hxv⟩ : ∃ v, MB t j = v := ⟨_, rfl⟩
          obtain ⟨yv, hyv⟩ : ∃ v, MB fm j = v := ⟨_, rfl⟩
          rw [hxv] at x1
          rw [hyv] at y1
          have HV := Lib.hid (And.intro hxv (And.intro hyv hjc))
          have HW := Lib.hid (And.intro h1 h2)
          clear es hxv hyv hjc h1 h2 hj
          go_wp2_with fail
          --HELD red17B
          refine wp_region_noPanic ?_
          refine wp_heldG (fun w' => w'.cell? ⟨gb, q1 + j, none⟩ = some (.int .u8 (xv.toNat : Int)) ∧ w'.cell? ⟨gb, q2 + j, none⟩ = some (.int .u8 (yv.toNat : Int))) [13, 15] (by kernel_rfl) ?hs0 ?rg0
          case hs0 =>
           exact ⟨x1, y1⟩
          case rg0 =>
          intro hHeld
          refine pu 0 ?_
          refine pu 1 ?_
          refine pu 2 ?_
          refine pu 3 ?_
          refine pu 4 ?_
          refine pu 5 ?_
          refine pu 6 ?_
          refine tk 7 rfl (by intro w hSw; (try dsimp only at hSw); have c0 := hSw.2; go_simp; try with_reducible rfl) ?_
          refine pu 8 ?_
          refine pu 9 ?_
          refine pu 10 ?_
          refine tk 11 rfl (by intro w hSw; (try dsimp only at hSw); have c0 := hSw.1; go_simp; try with_reducible rfl) ?_
          refine pu 12 ?_
          refine on 13 rfl fun K hK => ?_
          go_simp
          try dsimp only
          refine hK.out _ _ ?_ (fun hHeld => ?_)
          ·exact fun h => (st_no (by kernel_rfl) h).elim
          clear hK K
          try simp only [pU, pU0, pA, pB, pC]
          clear hHeld
          refine puG 14 ⟨_, _, _, _, _, _⟩ (v := ?_) ?_ (fun h => (st_no (by kernel_rfl) h).elim) ?_
          rotate_left
          ·intro w hSw
           try dsimp only at hSw
           go_simp
           try with_reducible rfl
          try simp only [pU, pU0, pA, pB, pC]
          refine on 15 rfl fun K hK => ?_
          have hs1 := HW.out.1.setB HGB.out HN.out HTR.out HV.out.2.2 yv
          rw [HQ1.out] at hs1
          have HS1 := Lib.hid hs1
          obtain ⟨s1, s2⟩ := hs1.inv.atB HGB.out HQ.out.2.2 HV.out.2.2
          rw [HQ2.out] at s1 s2
          clear hs1
          have s1' : (wr.setCell ⟨gb, q1 + j, none⟩ (.int .u8 (yv.toNat : Int))).cell? ⟨gb, q2 + j, none⟩ = some _ := s1
          have s2' : (wr.setCell ⟨gb, q1 + j, none⟩ (.int .u8 (yv.toNat : Int))).frozen? ⟨gb, q2 + j, none⟩ = false := s2
          go_simp
          try dsimp only
          refine hK.out _ _ ?_ (fun hHeld => ?_)
          ·exact fun h => (st_no (by kernel_rfl) h).elim
          clear hK K
          try simp only [pU, pU0, pA, pB, pC]
          clear hHeld
          refine wpAnyG_done (by kernel_rfl) ?_ _
          refine NoPanic.normal ?_
          --END red17B
          have hs2 := HS1.out.setB HGB.out HN.out HQ.out.2.2 HV.out.2.2 xv
          rw [HQ2.out] at hs2
          have HS2 := Lib.hid hs2
          have HF2 := Lib.hid ((setF (p := gb) wr ⟨gb, q1 + j, none⟩ rfl (.int .u8 (yv.toNat : Int))).trans (setF (p := gb) (wr.setCell ⟨gb, q1 + j, none⟩ (.int .u8 (yv.toNat : Int))) ⟨gb, q2 + j, none⟩ rfl (.int .u8 (xv.toNat : Int))) fun _ _ h => h)
          clear hs2 x1 x2 y1 y2
          go_wp2_with fail
          go_roundw
          case rel =>
           refine ⟨j + 1, by simp, HV.out.2.2, (HS2.out.keep (nextN (Mem.start _) 1)).congr (fun _ _ _ _ => rfl) (fun i _ k _ => by rw [← HV.out.1, ← HV.out.2.1]; exact swapUp_step _ _ _ _ _ _), (HW.out.2.fr HF2.out (fun e => ?_)).keep (nextN (Mem.start _) 1)⟩
           have hn1 := HN.out.rs (.inr (.inl (show Bk XB gl from by rw [e]; exact HGB.out)))
           have := HGL.out; have := HN.out.n1; have := HN.out.n4
           omega
          case measure => simp [intOf]; omega
         ·obtain rfl : d = j := by omega
          have HWS := Lib.hid (And.intro (show RedW w p gf (gf + 1) (gf + 1 + 1) (gf + 1 + 1 + 1) (some ⟨ga, 0, none⟩) XB capA capB r c d gc n Ds wr t (pivA MA t fm n) (swapM MB t fm) from h1.congr (fun _ _ _ _ => rfl) (fun i _ k hk => by unfold swapUp; rw [if_pos hk])) h2)
          clear h1 h2 hj hjc
          go_wp2_with fail
          go_loopw [101] (fun x' wr => ∃ j : Nat, x' = .int .i64 (j : Int) ∧ j ≤ d ∧ RedW w p gf (gf + 1) (gf + 1 + 1) (gf + 1 + 1 + 1) (some ⟨ga, 0, none⟩) XB capA capB r c d gc n Ds wr t (pivA MA t fm n) (scaleUp (swapM MB t fm) t (inv x) j) ∧ Blk wr gl 27 #[.int .i64 (r : Int), .int .i64 (c : Int), .slice (some ⟨ga, 0, none⟩) (r * c) capA, .int .i64 (r : Int), .int .i64 (d : Int), .slice XB (r * d) capB]) (fun x' _ => d - (intOf x').toNat)
          case atStart => exact ⟨0, rfl, Nat.zero_le _, HWS.out.1.congr (fun _ _ _ _ => rfl) (fun i _ k _ => by unfold scaleUp; rw [if_neg (by omega)]), HWS.out.2⟩
          case round =>
           obtain ⟨j, rfl, hj, h1, h2⟩ := hrel
           by_cases hjc : j < d
           ·have hji : (j : Int) < (d : Int) := by omega
            have hj0 : (0 : Int) ≤ (j : Int) := by omega
            have hj9 : (j : Int) ≤ 5000 := by have := HL.out; omega
            obtain ⟨gb, hgb, _⟩ := h1.inv.rb.some HL.out.1 (show 0 < d by omega)
            have HGB := Lib.hid hgb
            obtain ⟨q1, hq1⟩ : ∃ q1, t * d = q1 := ⟨_, rfl⟩
            obtain rfl : Y1 = some ⟨gb, q1, none⟩ := by rw [← HY.out.1, hgb, rowA_some (by omega), Nat.zero_add, hq1]
            have HQ1 := Lib.hid hq1
            clear hgb hq1
            obtain ⟨x1, x2⟩ := h1.inv.atB HGB.out HTR.out hjc
            rw [HQ1.out] at x1 x2
            rw [show scaleUp (swapM MB t fm) t (inv x) j t j = MB fm j from by unfold scaleUp swapM; rw [if_neg (by omega), if_pos rfl]] at x1
            obtain ⟨sv, hsv⟩ : ∃ v, MB fm j = v := ⟨_, rfl⟩
            rw [hsv] at x1
            have HV := Lib.hid (And.intro hsv hjc)
            have HW := Lib.hid (And.intro h1 h2)
            have c3 : wr.cell? ⟨gf, 0, none⟩ = some (fptr (some p)) := h1.inv.ff.cell 0
            clear hsv hjc h1 h2 hj
            go_wp2_with fail
            refine (mul_any _ (some p) (FldR.some HW.out.1.inv.fld) _ _ sv (inv x) rfl rfl).mono ?_
            rintro e w13 ⟨rfl, hF, hf⟩
            have hf2 : Fr (fun k => k = p) wr w13 := hf.mono fun k _ e => by injection e with e; exact e.symm
            have HW13 := Lib.hid (HW.out.1.field HN.out hf2 (hF p rfl))
            have HB13 := Lib.hid (HW.out.2.fr hf2 (fun e => by have := HGL.out; have := HN.out.n1; have := HN.out.n4; have := HN.out.np; omega))
            obtain ⟨x3, x4⟩ := HW13.out.inv.atB HGB.out HTR.out HV.out.2
            rw [HQ1.out] at x3 x4
            clear hF hf hf2 x1 x2 c3
            go_wp2_with fail
            go_roundw
            case rel =>
             have hs := HW13.out.setB HGB.out HN.out HTR.out HV.out.2 (mul sv (inv x))
             rw [HQ1.out] at hs
             refine ⟨j + 1, by simp, HV.out.2, hs.congr (fun _ _ _ _ => rfl) (fun i _ k _ => by rw [← HV.out.1, ← show swapM MB t fm t j = MB fm j from by unfold swapM; rw [if_pos rfl]]; exact scaleUp_step _ _ _ _ _ _), HB13.out.fr (setF (p := gb) _ ⟨gb, q1 + j, none⟩ rfl _) (fun e => ?_)⟩
             have hn1 := HN.out.rs (.inr (.inl (show Bk XB gl from by rw [e]; exact HGB.out)))
             have := HGL.out; have := HN.out.n1; have := HN.out.n4
             omega
            case measure => simp [intOf]; omega
           ·obtain rfl : d = j := by omega
            have HWE := Lib.hid (And.intro (show RedW w p gf (gf + 1) (gf + 1 + 1) (gf + 1 + 1 + 1) (some ⟨ga, 0, none⟩) XB capA capB r c d gc n Ds wr t (phA MA t fm n 2) (phB MA MB t fm n 2) from h1.congr (fun _ _ _ _ => rfl) (fun i _ k hk => by rw [scaleUp_all _ _ _ hk, ← HX.out]; rfl)) h2)
            clear h1 h2 hj hjc
            go_wp2_with fail
            go_roundw
            case rel => exact ⟨2, by simp, by omega, HWE.out.1, HWE.out.2⟩
            case measure => simp [intOf]
       ·obtain ⟨PA, hPA⟩ : ∃ X, pivA MA t fm n = X := ⟨_, rfl⟩
        obtain ⟨PB, hPB⟩ : ∃ X, pivB MA MB t fm n = X := ⟨_, rfl⟩
        have h3 : RedW w p gf (gf + 1) (gf + 1 + 1) (gf + 1 + 1 + 1) (some ⟨ga, 0, none⟩) XB capA capB r c d gc n Ds wr t PA PB := by rw [← hPA, ← hPB]; exact h1
        have HP := Lib.hid (And.intro hPA hPB)
        obtain ⟨⟨a0, a1, a2⟩, _⟩ := cells3 h3.inv.ma
        have HW3 := Lib.hid h3
        clear h1 h2 h3 hj hPA hPB
        go_wp2_with fail
        refine (rows_any wr _ _ _).mono ?_
        rintro e w15' ⟨rfl, rfl⟩
        obtain ⟨w15, bm, h15, hw15, hbm⟩ := boxed wr (mcells r c (some ⟨ga, 0, none⟩) (r * c) capA)
        have HW15 := Lib.hid (show wr.alloc (.cells #[.int .i64 (r : Int), .int .i64 (c : Int), .slice (some ⟨ga, 0, none⟩) (r * c) capA] 27) = w15 from hw15)
        rw [HW15.out, hbm]
        have H15 := Lib.hid h15
        have HI0 := Lib.hid (show RedW w p gf (gf + 1) (gf + 1 + 1) (gf + 1 + 1 + 1) (some ⟨ga, 0, none⟩) XB capA capB r c d gc n Ds w15 t (elimUp (fun i => PA i n) PA t 0) (elimUp (fun i => PA i n) PB t 0) from (HW3.out.keep h15.1).congr (fun i _ k _ => (elimUp_ge _ _ _ (Nat.zero_le i) k).symm) (fun i _ k _ => (elimUp_ge _ _ _ (Nat.zero_le i) k).symm))
        have HAP := Lib.hid (show gf + 1 + 1 + 1 < bm ∧ w15.heap.size = bm + 1 ∧ gc < bm ∧ w.heap.size = gf ∧ ∀ D ∈ Ds, D < bm from by
         have k1 := RedW.old HN.out HW3.out
         refine ⟨by omega, h15.2.2, by omega, HN.out.n1, fun D hD => ?_⟩
         have := (Array.getElem?_eq_some_iff.1 (HW3.out.ds D hD).2).1
         omega)
        clear hw15 h15 hbm a0 a1 a2
        go_wp2_with fail
        refine (wpIn_wide (n := 5)).1 ?_
        refine wpIn_rows bm r c (some ⟨ga, 0, none⟩) (r * c) capA rfl H15.out.2.1 (by have := HL.out.2.2.1; omega) rfl HL.out.2.2.2.2.2.1 HW3.out.inv.ra.le (RS' (some ⟨ga, 0, none⟩) XB p)
         ⟨fun hs => by have := HN.out.rs hs; have := HAP.out; omega, fun hs => by have := HN.out.rs hs; have := HAP.out; omega, fun hs => by have := HN.out.rs hs; have := HAP.out; omega⟩
         (fun i W => RedW w p gf (gf + 1) (gf + 1 + 1) (gf + 1 + 1 + 1) (some ⟨ga, 0, none⟩) XB capA capB r c d gc n Ds W t (elimUp (fun i => PA i n) PA t i) (elimUp (fun i => PA i n) PB t i)) ?hI HI0.out ?hround ?hdone
        case hI =>
         intro i W W' h hf
         obtain ⟨k1, k2, k3, k4, k5⟩ := HAP.out
         exact h.far HN.out hf (fun k e => ⟨by omega, by omega, fun hD => by have := k5 k hD; omega⟩)
        case hround =>
         intro l i W hi hlt
         have HLT := Lib.hid hlt
         obtain ⟨q3, hq3⟩ : ∃ q3, i * c = q3 := ⟨_, rfl⟩
         rw [show rowA (some ⟨ga, 0, none⟩) c i = some ⟨ga, q3, none⟩ from by rw [rowA_some HL.out.2.1, Nat.zero_add, hq3]]
         have HQ3 := Lib.hid hq3
         have hi9 : (i : Int) ≤ 1000 := by have := HL.out.2.2.1; omega
         have hi0 : (0 : Int) ≤ (i : Int) := by omega
         have t9 : (t : Int) ≤ 1000 := by have := HL.out.2.2.1; have := HTR.out; omega
         clear hlt hi hq3
         gi_wp2
         refine ⟨trivial, fun W2 hi2 => ?_⟩
         obtain ⟨x1, _⟩ := hi2.inv.atA rfl HLT.out (show n < c from n3)
         rw [HQ3.out, elimUp_ge _ _ _ (Nat.le_refl i)] at x1
         obtain ⟨tv, htv⟩ : ∃ v, PA i n = v := ⟨_, rfl⟩
         rw [htv] at x1
         have HTV := Lib.hid htv
         have c8 : W2.cell? ⟨gc, 0, none⟩ = some (.int .i64 (n : Int)) := hi2.mc.cell 0
         have c7 : W2.cell? ⟨gf + 1 + 1 + 1, 0, none⟩ = some (.int .i64 (t : Int)) := hi2.inv.mt.cell 0
         have H := Lib.hid hi2
         have hn0 : (0 : Int) ≤ (n : Int) := by omega
         have hni : (n : Int) < (c : Int) := by omega
         clear hi2 htv
         by_cases hit : i = t
         ·have hz : ((i : Int) != (t : Int)) = false := by simp [hit]
          have HIT := Lib.hid hit
          clear hit
          gi_wp2
          refine ⟨Fr.refl _ _, H.out.congr (fun x _ k _ => ?_) (fun x _ k _ => ?_)⟩ <;>
          ·have := HIT.out
           subst this
           exact elimUp_skip _ _ _ x k
         ·have hz : ((i : Int) != (t : Int)) = true := by simp; omega
          have HIT := Lib.hid hit
          clear hit
          gi_wp2
          --HELD red30
          refine wpIn_only ?_
          refine wpIn_heldG (fun w' => Blk w' gf 24 (fcellv p) ∧ Blk w' (gf + 1) 27 (mcells r c (some ⟨ga, 0, none⟩) (r * c) capA) ∧ Blk w' (gf + 1 + 1 + 1) 3 #[.int .i64 (t : Int)]) [] (by kernel_rfl) (by kernel_rfl) (fun ⟨_, _, h⟩ => h) ?hs0 ?rg0
          case hs0 =>
           exact ⟨H.out.inv.ff, H.out.inv.ma, H.out.inv.mt⟩
          case rg0 =>
          intro hHeld
          refine tk 0 rfl (by intro w hSw; (try dsimp only at hSw); have c0 := hSw.1.cell 0; simp only [fcellv, List.getElem?_toArray, List.getElem?_cons_zero] at c0; go_simp; try with_reducible rfl) ?_
          refine pu 1 ?_
          refine tk 2 rfl (by intro w hSw; (try dsimp only at hSw); obtain ⟨⟨c0, c1, c2⟩, _⟩ := cells3 hSw.2.1; go_simp; try with_reducible rfl) ?_
          refine tk 3 rfl (by intro w hSw; (try dsimp only at hSw); have c0 : w.cell? ⟨gf + 1 + 1 + 1, 0, none⟩ = some (.int .i64 (t : Int)) := hSw.2.2.cell 0; go_simp; try with_reducible rfl) ?_
          refine pu 5 ?_
          refine on 4 rfl fun K hK => ?_
          go_simp
          refine (row_any _ r c t (some ⟨ga, 0, none⟩) (r * c) capA HTR.out (by have := HL.out.2.2.1; omega) rfl HL.out.2.2.2.2.2.1 H.out.inv.ra.le).mono ?_
          rintro e w16 ⟨rfl, hb⟩
          have H16 := Lib.hid (next (nextN (Mem.start W2) 1) hb)
          try dsimp only
          refine hK.out _ _ (fun _ => ⟨hHeld.1.keep hb, hHeld.2.1.keep hb, hHeld.2.2.keep hb⟩) fun hHeld => ?_
          clear hK K
          try simp only [pU, pU0, pA, pB, pC]
          have hHeld := hHeld (by kernel_rfl)
          refine on 6 rfl fun K hK => ?_
          clear hb
          go_simp
          have hk16 := H.out.keep H16.out
          have hmo := more_own w16 p hk16.inv.fld (some ⟨ga, 0, none⟩) capA r c _ hk16.inv.ra i t HLT.out HTR.out (fun e => HIT.out e.symm) HL.out.2.2.2.2.2.1 (fun k e => (HN.out.na k e).2) (PA i n)
          rw [show rowA (some ⟨ga, 0, none⟩) c i = some ⟨ga, q3, none⟩ from by rw [rowA_some HL.out.2.1, Nat.zero_add, HQ3.out], HTV.out] at hmo
          refine hmo.mono ?_
          rintro e w17 ⟨rfl, hw17, hf17, hfr17⟩
          have H17 := Lib.hid (And.intro ((hk16.moreA HN.out hw17 hf17 hfr17).congr (by rw [← HTV.out]; exact elim_more HIT.out) (fun _ _ _ _ => rfl)) ((Fr.quiet (S := RS' (some ⟨ga, 0, none⟩) XB p) H16.out).trans (hfr17.mono (S' := RS' (some ⟨ga, 0, none⟩) XB p) fun k _ e => e.elim .inl (fun e => .inr (.inr e))) fun _ _ h => h))
          clear hmo hk16 hw17 hf17 hfr17
          try dsimp only
          refine hK.out _ _ (fun _ => ⟨H17.out.1.inv.ff, H17.out.1.inv.ma, H17.out.1.inv.mt⟩) fun hHeld => ?_
          clear hK K
          try simp only [pU, pU0, pA, pB, pC]
          have hHeld := hHeld (by kernel_rfl)
          refine wpAnyG_done (by kernel_rfl) ?_ _
          refine onlyN_end ?_
          --END red30
          clear x1 c7 c8
          gi_wp2
          --HELD red31
          refine wpIn_only ?_
          refine wpIn_heldG (fun w' => Blk w' gf 24 (fcellv p) ∧ Blk w' (gf + 1 + 1) 27 (mcells r d XB (r * d) capB) ∧ Blk w' (gf + 1 + 1 + 1) 3 #[.int .i64 (t : Int)]) [] (by kernel_rfl) (by kernel_rfl) (fun ⟨_, _, h⟩ => h) ?hs0 ?rg0
          case hs0 =>
           exact ⟨H17.out.1.inv.ff, H17.out.1.inv.mb, H17.out.1.inv.mt⟩
          case rg0 =>
          intro hHeld
          refine tk 0 rfl (by intro w hSw; (try dsimp only at hSw); have c0 := hSw.1.cell 0; simp only [fcellv, List.getElem?_toArray, List.getElem?_cons_zero] at c0; go_simp; try with_reducible rfl) ?_
          refine tk 1 rfl (by intro w hSw; (try dsimp only at hSw); obtain ⟨⟨c0, c1, c2⟩, _⟩ := cells3 hSw.2.1; go_simp; try with_reducible rfl) ?_
          refine pu 2 ?_
          refine tk 4 rfl (by intro w hSw; (try dsimp only at hSw); obtain ⟨⟨c0, c1, c2⟩, _⟩ := cells3 hSw.2.1; go_simp; try with_reducible rfl) ?_
          refine tk 5 rfl (by intro w hSw; (try dsimp only at hSw); have c0 : w.cell? ⟨gf + 1 + 1 + 1, 0, none⟩ = some (.int .i64 (t : Int)) := hSw.2.2.cell 0; go_simp; try with_reducible rfl) ?_
          refine pu 7 ?_
          refine on 3 rfl fun K hK => ?_
          go_simp
          refine (row_any _ r d i XB (r * d) capB HLT.out (by have := HL.out.2.2.1; omega) rfl HL.out.2.2.2.2.2.2 H.out.inv.rb.le).mono ?_
          rintro e w18 ⟨rfl, hb⟩
          have H18 := Lib.hid (next (nextN (Mem.start w17) 1) hb)
          try dsimp only
          refine hK.out _ _ (fun _ => ⟨hHeld.1.keep hb, hHeld.2.1.keep hb, hHeld.2.2.keep hb⟩) fun hHeld => ?_
          clear hK K
          try simp only [pU, pU0, pA, pB, pC]
          have hHeld := hHeld (by kernel_rfl)
          refine on 6 rfl fun K hK => ?_
          clear hb
          go_simp
          refine (row_any _ r d t XB (r * d) capB HTR.out (by have := HL.out.2.2.1; omega) rfl HL.out.2.2.2.2.2.2 H.out.inv.rb.le).mono ?_
          rintro e w19 ⟨rfl, hb⟩
          have H19 := Lib.hid (next H18.out hb)
          try dsimp only
          refine hK.out _ _ (fun _ => ⟨hHeld.1.keep hb, hHeld.2.1.keep hb, hHeld.2.2.keep hb⟩) fun hHeld => ?_
          clear hK K
          try simp only [pU, pU0, pA, pB, pC]
          have hHeld := hHeld (by kernel_rfl)
          refine on 8 rfl fun K hK => ?_
          clear hb
          go_simp
          have hk19 := H17.out.1.keep H19.out
          have hmo := more_own w19 p hk19.inv.fld XB capB r d _ hk19.inv.rb i t HLT.out HTR.out (fun e => HIT.out e.symm) HL.out.2.2.2.2.2.2 (fun k e => (HN.out.nb k e).2) (PA i n)
          rw [HTV.out] at hmo
          refine hmo.mono ?_
          rintro e w33 ⟨rfl, hw33, hf33, hfr33⟩
          have H33 := Lib.hid (And.intro ((hk19.moreB HN.out hw33 hf33 hfr33).congr (fun _ _ _ _ => rfl) (by rw [← HTV.out]; exact elim_more (tf := fun i => PA i n) HIT.out)) ((H17.out.2.trans (Fr.quiet (S := RS' (some ⟨ga, 0, none⟩) XB p) H19.out) fun _ _ h => h).trans (hfr33.mono (S' := RS' (some ⟨ga, 0, none⟩) XB p) fun k _ e => e.elim (fun e => .inr (.inl e)) (fun e => .inr (.inr e))) fun _ _ h => h))
          clear hmo hk19 hw33 hf33 hfr33
          try dsimp only
          refine hK.out _ _ (fun _ => ⟨H33.out.1.inv.ff, H33.out.1.inv.mb, H33.out.1.inv.mt⟩) fun hHeld => ?_
          clear hK K
          try simp only [pU, pU0, pA, pB, pC]
          have hHeld := hHeld (by kernel_rfl)
          refine wpAnyG_done (by kernel_rfl) ?_ _
          refine onlyN_end ?_
          --END red31
          gi_wp2
          exact ⟨H33.out.2, H33.out.1⟩
        case hdone =>
         intro D W hD hi hK
         have hap := HAP.out
         have hm := hi.mark (D := D) (by omega) hK (fun h => by have := hap.2.2.2.2 D h; omega)
         have H := Lib.hid hm
         have c7 : W.cell? ⟨gf + 1 + 1 + 1, 0, none⟩ = some (.int .i64 (t : Int)) := hm.inv.mt.cell 0
         have f7 : W.frozen? ⟨gf + 1 + 1 + 1, 0, none⟩ = false := hm.inv.mt.frozen 0
         have hx := hm.next HN.out
         have c8 : (W.setCell ⟨gf + 1 + 1 + 1, 0, none⟩ (.int .i64 ((t : Int) + 1))).cell? ⟨gc, 0, none⟩ = some (.int .i64 (n : Int)) := hx.mc.cell 0
         have HX2 := Lib.hid hx
         have t9 : (t : Int) ≤ 1000 := by have := HL.out.2.2.1; have := HTR.out; omega
         have hn9 : (n : Int) ≤ 1000 := by have := HL.out.2.2.2.1; omega
         have t0 : (0 : Int) ≤ (t : Int) := by omega
         have hn0 : (0 : Int) ≤ (n : Int) := by omega
         clear hi hm hx hD hK hap
         go_wp2_with fail
         have hc1 := HX2.out.col HN.out
         rw [World.size_setCell] at hc1
         have hrd := redTo_yes (r := r) (n := n) (A := A) (B := B) HQ.out.2.2 (by
          rw [HT.out.1, HT.out.2.1]
          exact find_is HF.out.1 (fun j h1 h2 => HF.out.2.2.1 j h1 h2) (fun _ => by rw [HX.out]; exact HX0.out) (Nat.le_of_lt HQ.out.2.2))
         rw [HT.out.1, HT.out.2.1, HT.out.2.2] at hrd
         have hc2 := hc1.congr (A' := stepX MA MA t fm n) (B' := stepX MA MB t fm n) (fun i hi k _ => by rw [elimUp_done _ _ _ hi]; unfold stepX; rw [← HP.out.1]; rfl) (fun i hi k _ => by rw [elimUp_done _ _ _ hi]; unfold stepX; rw [← HP.out.1, ← HP.out.2])
         have e1 : (redTo r A B (n + 1)).at_ = t + 1 := by rw [hrd]
         have e2 : (redTo r A B (n + 1)).A = stepX MA MA t fm n := by rw [hrd]
         have e3 : (redTo r A B (n + 1)).B = stepX MA MB t fm n := by rw [hrd]
         rw [← e1, ← e2, ← e3] at hc2
         have HC := Lib.hid hc2
         have hmm : c - (n + 1) < m := by have := HM.out; omega
         clear hc1 hc2 hrd e1 e2 e3 c7 c8 f7
         refine Handed.intro (c - (n + 1)) hmm ?_
         go_step
         refine ⟨n + 1, W.heap.size, D :: Ds, ?_⟩
         repeat apply Exists.intro
         refine ⟨?rel, rfl⟩
         exact ⟨n3, rfl, HC.out⟩
    ·obtain rfl : fm = r := by omega
     have hfi : decide ((fm : Int) < (fm : Int)) = false := by simp
     clear h1 h2 h3 h4 hfr
     go_wp2_with fail
     --HELD red6n
     refine wp_region_noPanic ?_
     refine wp_heldG (fun w' => Blk w' (gf + 1) 27 (mcells fm c (some ⟨ga, 0, none⟩) (fm * c) capA)) [] (by kernel_rfl) ?hs0 ?rg0
     case hs0 =>
      exact HF.out.2.2.2.inv.ma
     case rg0 =>
     intro hHeld
     refine pu 0 ?_
     refine pu 1 ?_
     refine tk 2 rfl (by intro w hSw; (try dsimp only at hSw); obtain ⟨⟨c0, c1, c2⟩, _⟩ := cells3 hSw; go_simp; try with_reducible rfl) ?_
     refine pu 3 ?_
     refine pu 4 ?_
     refine ofK 5 ?_
     refine ofK 6 ?_
     refine ofK 7 ?_
     refine ofK 8 ?_
     refine ofK 9 ?_
     refine ofK 10 ?_
     refine ofK 11 ?_
     refine pu 12 ?_
     refine wpAnyG_done (by kernel_rfl) ?_ _
     refine NoPanic.normal ?_
     --END red6n
     obtain ⟨w6, hw6⟩ : ∃ x : World, wr.drew = x := ⟨_, rfl⟩
     have h6 := HF.out.2.2.2.keep (show Below wr.heap.size wr w6 from by rw [← hw6]; exact nextN (Mem.start wr) 1)
     rw [hw6]
     have HW6 := Lib.hid h6
     have c8 : w6.cell? ⟨gc, 0, none⟩ = some (.int .i64 (n : Int)) := h6.mc.cell 0
     have hfe : ((fm : Int) == (fm : Int)) = true := by simp
     obtain ⟨⟨a0, a1, a2⟩, _⟩ := cells3 h6.inv.ma
     have hn9 : (n : Int) ≤ 1000 := by have := HL.out.2.2.2.1; omega
     have hn0 : (0 : Int) ≤ (n : Int) := by omega
     clear h6 hfi hw6
     go_wp2_with fail
     have hc1 := HW6.out.col HN.out
     have hrd := redTo_no (r := fm) (n := n) (A := A) (B := B) (by
      rw [HT.out.1, HT.out.2.1]
      exact find_is (by have := HNC.out; omega) (fun j h1 h2 => HF.out.2.2.1 j h1 h2) (fun h => absurd h (Nat.lt_irrefl _)) (Nat.le_refl _))
     rw [← HT.out.1, ← HT.out.2.1, ← HT.out.2.2, ← hrd] at hc1
     have HC := Lib.hid hc1
     have hmm : c - (n + 1) < m := by have := HM.out; omega
     clear hc1 hrd a0 a1 a2 c8
     go_roundg (c - (n + 1))
     case measure => exact hmm
     case rel => exact ⟨n3, rfl, HC.out⟩
  ·have he : RedOk w p (some ⟨ga, 0, none⟩) XB capA capB r c d A B (.returned (.int .i64 (t : Int))) W := by
    have hrd : redTo r A B c = redTo r A B n := by
     rcases Nat.lt_or_ge n c with h | h
     ·refine redTo_full ?_ c hn
      rw [HT.out.1]
      omega
     ·obtain rfl : n = c := by omega
      rfl
    unfold RedOk
    rw [hrd, HT.out.1, HT.out.2.1, HT.out.2.2]
    exact ⟨rfl, HW.out.inv.ra, HW.out.inv.rb, HW.out.inv.fld, HW.out.inv.fr⟩
   have HE := Lib.hid he
   rcases Nat.lt_or_ge n c with h | h
   ·have n1 : decide (n < c) = true := decide_eq_true h
    have n2 : decide (t < r) = false := decide_eq_false (by omega)
    have n3 : ¬ t < r := by omega
    clear he hnc hat hn
    go_wp2_with fail
    exact red_leave HN.out HW.out HE.out (by simp [results, Try.results46, go_sem])
   ·have n1 : decide (n < c) = false := decide_eq_false (by omega)
    have n3 : ¬ n < c := by omega
    clear he hnc hat hn h
    go_wp2_with fail
    exact red_leave HN.out HW.out HE.out (by simp [results, Try.results46, go_sem])
end Go.Proofs.Ythdapoipfnnaeaa.MxW
/- reduce of a matrix without rows or columns; own; Rank. -/
namespace Go.Proofs.Ythdapoipfnnaeaa.MxW
open Go.RowKit Go.Shelf Mem Gf FdW Mx Rng
open PlW (In)
set_option linter.unusedVariables false
attribute [local go_sem] Oper.semAt_some wide_fn

def Int0 (w : World) (e : Ending) (w' : World) : Prop := e = .returned (.int .i64 0) ∧ Below w.heap.size w w'
set_option maxRecDepth 100000 in
set_option maxHeartbeats 40000000 in
theorem reduce_nil (w : World) (F : Value) (hF : F.oneCell' = true) (r c d : Nat) (hrc : r = 0 ∨ c = 0) (XA XB : Option Addr) (n cap m cap' : Nat) :
    Calls Try.prog 46 #[F, .agg #[.int .i64 (r : Int), .int .i64 (c : Int), .slice XA n cap], .agg #[.int .i64 (r : Int), .int .i64 (d : Int), .slice XB m cap']] w (Int0 w) := by
 have hb := nextA (nextA (nextA (nextA (nextA (Mem.start w) (.cells #[F] 24)) (.cells #[.int .i64 (r : Int), .int .i64 (c : Int), .slice XA n cap] 27)) (.cells #[.int .i64 (r : Int), .int .i64 (d : Int), .slice XB m cap'] 27)) (.cells #[.int .i64 0] 3)) (.cells #[.int .i64 0] 3)
 have HB := Lib.hid hb
 clear hb
 refine of_wide ?_
 refine callsIn_of_wp_marks Try.func46 rfl trivial ?_ rfl
 refine wpIn_wide.2 ?_
 simp only [Try.ntmps46, List.size_toArray, List.length_cons, List.length_nil, Nat.reduceAdd, Nat.reduceSub, Array.replicate_succ, Array.replicate_zero, List.push_toArray, List.append_toArray, List.nil_append, List.cons_append]
 rcases Nat.eq_zero_or_pos c with hc | hc
 ·subst hc
  clear hrc
  go_wp2_with fail
  refine wp_loop_once ?_
  go_wp2_with fail
  exact ⟨.int .i64 0, by simp [results, Try.results46, go_sem], rfl, HB.out⟩
 ·have hr : r = 0 := by omega
  subst hr
  have hci : decide (0 < c) = true := decide_eq_true hc
  clear hrc
  go_wp2_with fail
  refine wp_loop_once ?_
  go_wp2_with fail
  exact ⟨.int .i64 0, by simp [results, Try.results46, go_sem], rfl, HB.out⟩
/-- What own leaves. -/
def OwnOk (w : World) (R C : Int) (l : List UInt8) (e : Ending) (w' : World) : Prop := ∃ X cap, e = .returned (.agg #[.int .i64 R, .int .i64 C, .slice X l.length cap]) ∧ Mem.Own w' w.heap.size 5 X cap (l.map u8v) ∧ Below w.heap.size w w'
set_option maxRecDepth 100000 in
set_option maxHeartbeats 1000000 in
theorem own_any (w : World) (R C : Int) (A : Option Addr) (l : List UInt8) (n c : Nat) (hn : l.length = n) (h9 : n ≤ 100000000) (hA : Bytes w w.heap.size A l) : Calls Try.prog 47 #[.agg #[.int .i64 R, .int .i64 C, .slice A n c]] w (OwnOk w R C l) := by
 obtain ⟨wa, g1, ha, hwa, hg1⟩ := boxed w #[.int .i64 R, .int .i64 C, .slice A n c]
 obtain ⟨w2, g2, h2, hw2, hg2⟩ := boxed wa zmx
 have HWA := Lib.hid hwa
 have HW2 := Lib.hid (show wa.alloc (.cells #[.int .i64 0, .int .i64 0, .slice none 0 0] 27) = w2 from hw2)
 have hg3 : g2 = g1 + 1 := by have := ha.2.2; omega
 have HG := Lib.hid (And.intro hg1 hg3)
 have H2 := Lib.hid (show Below w.heap.size w w2 ∧ Blk w2 g1 27 #[.int .i64 R, .int .i64 C, .slice A n c] ∧ Blk w2 g2 27 zmx from ⟨next ha.1 h2.1, ha.2.1.keep h2.1, h2.2.1⟩)
 have HN := Lib.hid (And.intro hn h9)
 have HA := Lib.hid hA
 clear ha hwa hg1 h2 hw2 hg2 hg3 hn h9 hA
 go_enter Try.func47, Try.ntmps47
 go_wp2_with fail
 rw [HWA.out, HW2.out, HG.out.1, show g1 + 1 = g2 from HG.out.2.symm]
 refine (PlW.clone_any w2 A l n c HN.out.1.symm HN.out.2 ((HA.out.below H2.out.1).up H2.out.1.size)).mono ?_
 rintro e w3 ⟨X, cap, rfl, ho, hb⟩
 rw [HN.out.1]
 have H3 := Lib.hid (And.intro ho (And.intro (next H2.out.1 hb) (And.intro (H2.out.2.1.keep hb) (H2.out.2.2.keep hb))))
 obtain ⟨⟨c0, c1, c2⟩, f0, f1, f2⟩ := cells3 H3.out.2.2.1
 have hq := H3.out.2.2.1.set_ 2 (.slice X n cap)
 obtain ⟨w4, hw4⟩ : ∃ x : World, w3.setCell ⟨g1, 2, none⟩ (.slice X n cap) = x := ⟨_, rfl⟩
 have hf4 : Fr (fun k => k = g1) w3 w4 := by rw [← hw4]; exact setF w3 ⟨g1, 2, none⟩ rfl _
 rw [hw4] at hq
 have h5 := H3.out.2.2.2.fr hf4 (fun e => by have := HG.out; omega)
 obtain ⟨⟨d0, d1, d2⟩, e0, e1, e2⟩ := cells3 h5
 obtain ⟨⟨b0, b1, b2⟩, _⟩ := cells3 (show Blk w4 g1 27 #[.int .i64 R, .int .i64 C, .slice X n cap] from hq)
 have h6 := set3 h5 (.int .i64 R) (.int .i64 C) (.slice X n cap)
 obtain ⟨w5, hw5⟩ : ∃ x : World, ((w4.setCell ⟨g2, 0, none⟩ (.int .i64 R)).setCell ⟨g2, 1, none⟩ (.int .i64 C)).setCell ⟨g2, 2, none⟩ (.slice X n cap) = x := ⟨_, rfl⟩
 rw [hw5] at h6
 obtain ⟨⟨k0, k1, k2⟩, _⟩ := cells3 h6.1
 have HW4 := Lib.hid hw4
 have HW5 := Lib.hid hw5
 have H6 := Lib.hid (And.intro hf4 h6.2)
 rw [← hw4] at b0 b1 b2 d0 d1 d2 e0 e1 e2
 clear hb ho hq hf4 h5 h6 hw4 hw5
 go_wp2_with fail
 rw [HW4.out, HW5.out]
 refine bodyPost_ret (v := .agg #[.int .i64 R, .int .i64 C, .slice X n cap]) (by simp [results, Try.results47, go_sem, k0, k1, k2]) rfl ?_
 have hg := HG.out
 have hs : w.heap.size ≤ w2.heap.size := H2.out.1.size
 have hl1 := H2.out.2.1.lt
 have hl2 := H2.out.2.2.lt
 refine ⟨X, cap, by rw [HN.out.1], Own.down ((H3.out.1.fr H6.out.1 (fun g e1 e2 => ?_)).fr H6.out.2 (fun g e1 e2 => ?_)) hs, (H3.out.2.1.trans (H6.out.1.below H3.out.2.1.size fun k e => by omega)).trans (H6.out.2.below (Nat.le_trans H3.out.2.1.size H6.out.1.size) fun k e => by omega)⟩ <;>
 ·rcases H3.out.1.form with ⟨e3, _⟩ | ⟨g', e3, hb, _⟩
  ·rw [e1] at e3; cases e3
  ·rw [e1] at e3; injection e3 with e3; have := congrArg Addr.block e3; dsimp only at this; omega
theorem redTo_nil {r c : Nat} (A B : M) (h : r = 0 ∨ c = 0) : redTo r A B c = ⟨0, A, B⟩ := by
 rcases Nat.eq_zero_or_pos c with hc | hc
 ·subst hc; rfl
 ·obtain rfl : r = 0 := by omega
  exact redTo_full (r := 0) (n := 0) rfl c (Nat.zero_le _)
theorem reduce_any (w : World) (p : Nat) (hp : Fld w p) (r c d : Nat) (hb9 : (r : Int) ≤ 1000 ∧ (c : Int) ≤ 1000 ∧ (d : Int) ≤ 5000) (XA XB : Option Addr) (n m capA capB : Nat) (hn : n = r * c) (hm : m = r * d) (A B : M) (hA : Wo w XA capA r c A) (hB : Wo w XB capB r d B) (hne : (∀ k, Bk XA k → k ≠ p ∧ ¬ Bk XB k) ∧ ∀ k, Bk XB k → k ≠ p) :
    Calls Try.prog 46 #[fptr (some p), .agg #[.int .i64 (r : Int), .int .i64 (c : Int), .slice XA n capA], .agg #[.int .i64 (r : Int), .int .i64 (d : Int), .slice XB m capB]] w (RedOk w p XA XB capA capB r c d A B) := by
 subst hn; subst hm
 by_cases h : r = 0 ∨ c = 0
 ·refine (reduce_nil w _ rfl r c d h XA XB _ capA _ capB).mono ?_
  rintro e w' ⟨rfl, hb⟩
  unfold RedOk
  rw [redTo_nil A B h]
  exact ⟨rfl, hA.keep hb, hB.keep hb, hp.keep hb, Fr.quiet hb⟩
 ·obtain ⟨ga, rfl, hm⟩ := hA.some (by omega) (by omega)
  exact reduce_ok w p hp r c d (by omega) (by omega) hb9 ga XB capA capB A B hA hB ⟨fun e => (hne.1 ga rfl).1 e.symm, fun e => hne.2 p e rfl, (hne.1 ga rfl).2⟩
/-- The reduced form does not hang on the other matrix. -/
theorem redTo_A (r : Nat) (A B B' : M) : ∀ n, (redTo r A B n).at_ = (redTo r A B' n).at_ ∧ (redTo r A B n).A = (redTo r A B' n).A
 | 0 => ⟨rfl, rfl⟩
 | n + 1 => by
  obtain ⟨h1, h2⟩ := redTo_A r A B B' n
  show (redStep r n (redTo r A B n)).at_ = (redStep r n (redTo r A B' n)).at_ ∧ (redStep r n (redTo r A B n)).A = (redStep r n (redTo r A B' n)).A
  unfold redStep
  rw [h1, h2]
  split
  ·exact ⟨rfl, rfl⟩
  ·exact ⟨h1, h2⟩
def rankM (r c : Nat) (A : M) : Nat := (redTo r A (fun _ _ => 0) c).at_
theorem own_bk {w : World} {base c k : Nat} {X : Option Addr} {xs : List Value} (h : Mem.Own w base 5 X c xs) (hk : Bk X k) : base ≤ k ∧ k < w.heap.size := by
 have hk' : X = some ⟨k, 0, none⟩ := hk
 rcases h.form with ⟨e, _⟩ | ⟨g, e, h1, h2, _⟩
 ·rw [hk'] at e; cases e
 ·rw [hk'] at e; injection e with e; have := congrArg Addr.block e; dsimp only at this; omega
theorem red_apart {p B C : Nat} {X XB : Option Addr} (hp : p < B) (hX : ∀ k, Bk X k → B ≤ k ∧ k < C) (hG : ∀ k, Bk XB k → C ≤ k) (hBC : B ≤ C) : (∀ k, Bk X k → k ≠ p ∧ ¬ Bk XB k) ∧ ∀ k, Bk XB k → k ≠ p :=
 ⟨fun k h => ⟨by have := hX k h; omega, fun h2 => by have := hX k h; have := hG k h2; omega⟩, fun k h => by have := hG k h; omega⟩
theorem red_not {p B C k : Nat} {X XB : Option Addr} (hX : ∀ k, Bk X k → B ≤ k ∧ k < C) (hG : ∀ k, Bk XB k → C ≤ k) (hBC : B ≤ C) (hk : k < B) (hp : k ≠ p) : ¬ RS' X XB p k := fun hs => by
 rcases hs with h | h | h
 ·have := hX k h; omega
 ·have := hG k h; omega
 ·exact hp h
theorem red_below {w w4 w5 : World} {p B C : Nat} {X XB : Option Addr} (hb : Below w.heap.size w w4) (hB : w.heap.size ≤ B) (hX : ∀ k, Bk X k → B ≤ k ∧ k < C) (hG : ∀ k, Bk XB k → C ≤ k) (hBC : B ≤ C) (hf : Fr (RS' X XB p) w4 w5) : Fr (fun k => k = p) w w5 :=
 (Fr.quiet (S := fun k => k = p) hb).trans hf fun k hk hs => by
  rcases hs with h | h | h
  ·have := hX k h; omega
  ·have := hG k h; omega
  ·exact h
def RankOk (w : World) (p k : Nat) (e : Ending) (w' : World) : Prop := e = .returned (.tuple #[.int .i64 (k : Int), .int .i64 0]) ∧ Fld w' p ∧ Fr (fun k => k = p) w w'
def RankBad (w : World) (e : Ending) (w' : World) : Prop := e = .returned (.tuple #[.int .i64 0, .int .i64 50]) ∧ Below w.heap.size w w'
set_option maxRecDepth 100000 in
set_option maxHeartbeats 1000000 in
theorem rank_bad (w : World) (F : Value) (R C : Int) (A : Option Addr) (n cap : Nat) (hrt : rightB R C n = false) : Calls Try.prog 14 #[F, .agg #[.int .i64 R, .int .i64 C, .slice A n cap]] w (RankBad w) := by
 obtain ⟨wa, ga, ha, hwa, hga⟩ := boxed w #[.int .i64 R, .int .i64 C, .slice A n cap]
 have HWA := Lib.hid hwa
 have HA := Lib.hid ha
 have HRT := Lib.hid hrt
 clear ha hwa hga hrt
 go_enter Try.func14, Try.ntmps14
 go_wp2_with fail
 rw [HWA.out]
 refine (right_any wa _ _ A n cap).mono ?_
 rintro e w2 ⟨rfl, hb⟩
 rw [HRT.out]
 have H2 := Lib.hid (next HA.out.1 hb)
 clear hb
 go_wp2_with fail
 go_ret2
 exact ⟨rfl, H2.out⟩
set_option maxRecDepth 100000 in
set_option maxHeartbeats 2000000 in
theorem rank_ok (w : World) (p : Nat) (hp : Fld w p) (r c : Nat) (A : Option Addr) (n cap : Nat) (m : M) (hrt : rightB r c n = true) (hrd : r ≤ 100 ∧ c ≤ 100) (hA : In w p A (flat r c m)) :
    Calls Try.prog 14 #[fptr (some p), .agg #[.int .i64 (r : Int), .int .i64 (c : Int), .slice A n cap]] w (RankOk w p (rankM r c m)) := by
 have hn : n = r * c := by obtain ⟨r', c', e1, e2, _, _, e⟩ := right_nat hrt; rw [e, Int.ofNat.inj e1, Int.ofNat.inj e2]
 have hl : n ≤ 10000 := by rw [hn]; exact Nat.mul_le_mul hrd.1 hrd.2
 obtain ⟨wa, ga, ha, hwa, hga⟩ := boxed w (mcells r c A n cap)
 have HWA := Lib.hid (show w.alloc (.cells #[.int .i64 (r : Int), .int .i64 (c : Int), .slice A n cap] 27) = wa from hwa)
 have HA := Lib.hid ha
 have HGA := Lib.hid hga
 have HRT := Lib.hid hrt
 have HP := Lib.hid hp
 have HN := Lib.hid (And.intro hn (And.intro hl hrd))
 have HI := Lib.hid hA
 clear ha hwa hga hrt hp hn hl hA hrd
 go_enter Try.func14, Try.ntmps14
 go_wp2_with fail
 rw [HWA.out, HGA.out]
 refine (right_any wa _ _ A n cap).mono ?_
 rintro e w2 ⟨rfl, hb⟩
 rw [HRT.out]
 have H2 := Lib.hid (And.intro (next HA.out.1 hb) (HA.out.2.1.keep hb))
 clear hb
 go_wp2_with fail
 --HELD rank3
 refine wp_region_noPanic ?_
 refine wp_heldG (fun w' => Blk w' ga 27 (mcells r c A n cap)) [] (by kernel_rfl) ?hs0 ?rg0
 case hs0 =>
  exact H2.out.2
 case rg0 =>
 intro hHeld
 refine pu 0 ?_
 refine tk 1 rfl (by intro w hSw; (try dsimp only at hSw); obtain ⟨⟨c0, c1, c2⟩, _⟩ := cells3 hSw; go_simp; try with_reducible rfl) ?_
 refine pu 3 ?_
 refine tk 4 rfl (by intro w hSw; (try dsimp only at hSw); obtain ⟨⟨c0, c1, c2⟩, _⟩ := cells3 hSw; go_simp; try with_reducible rfl) ?_
 refine on 2 rfl fun K hK => ?_
 go_simp
 have hb2 := next H2.out.1 (nextN (Mem.start w2) 1)
 refine (own_any _ _ _ A (flat r c m) n cap (by rw [flat_len]; exact HN.out.1.symm) (by have := HN.out; omega) ((HI.out.1.below hb2).up hb2.size)).mono ?_
 rintro e w3 ⟨X, cx, rfl, ho, hb⟩
 rw [flat_len]
 have H3 := Lib.hid (And.intro (show Wo w3 X cx r c m from Own.down ho (Nat.zero_le _)) (And.intro (show Mem.Own w3 w2.heap.size 5 X cx _ from ho) (And.intro (next hb2 hb) (show w2.heap.size ≤ w3.heap.size from hb.size))))
 clear ho hb2
 try dsimp only
 refine hK.out _ _ (fun _ => hHeld.keep hb) fun hHeld => ?_
 clear hK K
 try simp only [pU, pU0, pA, pB, pC]
 have hHeld := hHeld (by kernel_rfl)
 refine on 5 rfl fun K hK => ?_
 clear hb
 go_simp
 refine (none_any _ r 0 (by simp)).mono ?_
 rintro e w4 ⟨g, rfl, ho, hb⟩
 have H4 := Lib.hid (And.intro (H3.out.1.keep hb) (And.intro ho (next H3.out.2.2.1 hb)))
 have HS := Lib.hid (show w.heap.size ≤ w2.heap.size ∧ (∀ k, Bk X k → w2.heap.size ≤ k ∧ k < w3.heap.size) ∧ w2.heap.size ≤ w3.heap.size from ⟨H2.out.1.size, fun k h => own_bk H3.out.2.1 h, H3.out.2.2.2⟩)
 clear ho
 try dsimp only
 refine hK.out _ _ (fun _ => hHeld.keep hb) fun hHeld => ?_
 clear hK K
 try simp only [pU, pU0, pA, pB, pC]
 have hHeld := hHeld (by kernel_rfl)
 refine on 6 rfl fun K hK => ?_
 clear hb
 go_simp
 refine (reduce_any w4 p (HP.out.keep H4.out.2.2) r c 0 (by have := HN.out; omega) X (some ⟨g, 0, none⟩) (r * c) (r * 0) cx (r * 0) rfl rfl m (fun _ _ => 0) H4.out.1 (Own.down H4.out.2.1 (Nat.zero_le _)) (red_apart (Nat.lt_of_lt_of_le HP.out.lt HS.out.1) HS.out.2.1 (fun k h => (own_bk H4.out.2.1 h).1) HS.out.2.2)).mono ?_
 rintro e w5 ⟨rfl, _, _, hF, hf⟩
 have H5 := Lib.hid (And.intro hF (red_below H4.out.2.2 HS.out.1 HS.out.2.1 (fun k h => (own_bk H4.out.2.1 h).1) HS.out.2.2 hf))
 clear hF
 try dsimp only
 refine hK.out _ _ (fun _ => hHeld.fr hf (red_not HS.out.2.1 (fun k h => (own_bk H4.out.2.1 h).1) HS.out.2.2 H2.out.2.lt (by have := HGA.out; have := HP.out.lt; omega))) fun hHeld => ?_
 clear hK K
 try simp only [pU, pU0, pA, pB, pC]
 have hHeld := hHeld (by kernel_rfl)
 refine pu 7 ?_
 refine pu 8 ?_
 refine wpAnyG_done (by kernel_rfl) ?_ _
 refine NoPanic.normal ?_
 --END rank3
 go_wp2_with fail
 go_ret2
 exact ⟨rfl, H5.out.1, H5.out.2⟩
end Go.Proofs.Ythdapoipfnnaeaa.MxW
/- Solve. -/
namespace Go.Proofs.Ythdapoipfnnaeaa.MxW
open Go.RowKit Go.Shelf Mem Gf FdW Mx Rng
open PlW (In)
set_option linter.unusedVariables false

theorem nz_any (w : World) (x : UInt8) : Calls Try.prog 53 #[.int .u8 (x.toNat : Int)] w fun e w' => e = .returned (.bool (nz x)) ∧ w = w' := by
 have h : ((x.toNat : Int) != 0) = nz x := by
  unfold nz
  have := u8_zero x
  rw [bne, bne, this]
 go_enter Try.func53, Try.ntmps53
 go_wp2_with fail
 go_ret
 exact ⟨rfl, rfl⟩
def anyNz (l : List UInt8) : Bool := l.any nz
def IdxOk (w : World) (l : List UInt8) (e : Ending) (w' : World) : Prop := ∃ z : Int, e = .returned (.int .i64 z) ∧ decide (0 ≤ z) = anyNz l ∧ w = w'
theorem anyNz_take {l : List UInt8} {j : Nat} (h : anyNz (l.take j) = false) (hj : j < l.length) (hx : nz l[j] = false) : anyNz (l.take (j + 1)) = false := by
 unfold anyNz at h ⊢
 rw [List.take_succ_eq_append_getElem hj, List.any_append, h]
 simp [hx]
theorem anyNz_hit {l : List UInt8} {j : Nat} (hj : j < l.length) (hx : nz l[j] = true) : anyNz l = true := by
 unfold anyNz
 rw [List.any_eq_true]
 exact ⟨l[j], List.getElem_mem hj, hx⟩
set_option maxRecDepth 100000 in
set_option maxHeartbeats 1000000 in
theorem index_any (w : World) (A : Option Addr) (l : List UInt8) (n c : Nat) (hn : l.length = n) (h9 : (n : Int) ≤ 1000000000) (hA : Bytes w w.heap.size A l) :
    Calls Try.prog 64 #[.slice A n c, .func (.func 53) #[] #[]] w (IdxOk w l) := by
 have HN := Lib.hid hn
 have HA := Lib.hid hA
 clear hn hA
 go_enter Try.func64, Try.ntmps64
 go_wp2_with fail
 go_loopw [8] (fun x wr => ∃ j : Nat, x = .int .i64 (j : Int) ∧ j ≤ n ∧ anyNz (l.take j) = false ∧ wr = w) (fun x _ => n - (intOf x).toNat)
 case atStart => exact ⟨0, rfl, Nat.zero_le _, rfl, rfl⟩
 case round =>
  obtain ⟨j, rfl, hj, h1, rfl⟩ := hrel
  have H1 := Lib.hid h1
  clear h1
  by_cases hjn : j < n
  ·have hji : (j : Int) < (n : Int) := by omega
   have hj0 : (0 : Int) ≤ (j : Int) := by omega
   have hjl : j < l.length := by rw [HN.out]; exact hjn
   obtain ⟨b, o, rfl, _, hc⟩ := HA.out.at_ hjl
   obtain ⟨x, hx⟩ : ∃ x, l[j] = x := ⟨_, rfl⟩
   rw [hx] at hc
   have HX := Lib.hid (show j < l.length ∧ ∀ h : j < l.length, l[j] = x from ⟨hjl, fun _ => hx⟩)
   clear hjl hx hj
   cases hz : nz x with
   | true =>
    have HZ := Lib.hid hz
    have hca := nz_any wr x
    rw [hz] at hca
    clear hz
    go_wp2_with fail
    refine hca.mono ?_
    rintro e w' ⟨rfl, rfl⟩
    clear hca
    go_wp2_with fail
    go_ret
    exact ⟨(j : Int), rfl, by
     have h := HX.out.2 HX.out.1
     rw [anyNz_hit HX.out.1 (by rw [h]; exact HZ.out)]; exact decide_eq_true hj0, rfl⟩
   | false =>
    have HZ := Lib.hid hz
    have hca := nz_any wr x
    rw [hz] at hca
    clear hz
    go_wp2_with fail
    refine hca.mono ?_
    rintro e w' ⟨rfl, rfl⟩
    clear hca
    go_wp2_with fail
    go_roundw
    case rel => exact ⟨j + 1, by simp, hjn, anyNz_take H1.out HX.out.1 (by have h := HX.out.2 HX.out.1; rw [h]; exact HZ.out), trivial⟩
    case measure => simp [intOf]; omega
  ·obtain rfl : n = j := by omega
   clear hj hjn
   go_wp2_with fail
   go_ret
   exact ⟨-1, rfl, by
    have h := H1.out
    rw [List.take_of_length_le (by rw [HN.out]; exact Nat.le_refl _)] at h
    rw [h]; rfl, rfl⟩
theorem contains_any (w : World) (A : Option Addr) (l : List UInt8) (n c : Nat) (hn : l.length = n) (h9 : (n : Int) ≤ 1000000000) (hA : Bytes w w.heap.size A l) :
    Calls Try.prog 52 #[.slice A n c, .func (.func 53) #[] #[]] w fun e w' => e = .returned (.bool (anyNz l)) ∧ w = w' := by
 have HI := Lib.hid (index_any w A l n c hn h9 hA)
 clear hn h9 hA
 go_enter Try.func52, Try.ntmps52
 go_wp2_with fail
 refine HI.out.mono ?_
 rintro e w' ⟨z, rfl, hz, rfl⟩
 have HZ := Lib.hid hz
 clear hz
 go_wp2_with fail
 go_ret
 exact ⟨by rw [← HZ.out]; rfl, rfl⟩
theorem flat_take {r s c : Nat} {m : M} (h : s ≤ r) : flat s c m = (flat r c m).take (s * c) := by
 refine (flat_ext (by rw [List.length_take, flat_len, Nat.min_eq_left (Nat.mul_le_mul_right c h)]) fun i hi k hk => ?_).symm
 rw [List.getElem?_take, if_pos (idx_lt hi hk)]
 exact flat_get (by omega) hk
end Go.Proofs.Ythdapoipfnnaeaa.MxW
/- Solve. -/
namespace Go.Proofs.Ythdapoipfnnaeaa.MxW
open Go.RowKit Go.Shelf Mem Gf FdW Mx Rng
open PlW (In)
set_option linter.unusedVariables false

/-- Behind the parameters. -/
structure SolP (w W : World) (ga gb g0 : Nat) (ca cb : Array Value) : Prop where
 below : Below w.heap.size w W
 a : Blk W ga 27 ca
 b : Blk W gb 27 cb
 res : Blk W g0 27 zmx
 nums : w.heap.size = ga ∧ gb = ga + 1 ∧ g0 = ga + 2 ∧ ga + 3 ≤ W.heap.size
theorem SolP.keep {w W W' : World} {ga gb g0 : Nat} {ca cb : Array Value} (h : SolP w W ga gb g0 ca cb) (hb : Below W.heap.size W W') : SolP w W' ga gb g0 ca cb :=
 ⟨next h.below hb, h.a.keep hb, h.b.keep hb, h.res.keep hb, by have := h.nums; have := hb.size; omega⟩
theorem solP_start (w : World) (ca cb : Array Value) : ∃ w1, SolP w w1 w.heap.size (w.heap.size + 1) (w.heap.size + 1 + 1) ca cb ∧
    ((w.alloc (.cells ca 27)).alloc (.cells cb 27)).alloc (.cells zmx 27) = w1 := by
 obtain ⟨x2, g2, h2, e2, n2⟩ := boxed w ca
 obtain ⟨x3, g3, h3, e3, n3⟩ := boxed x2 cb
 obtain ⟨x4, g4, h4, e4, n4⟩ := boxed x3 zmx
 refine ⟨x4, ?_, by rw [e2, e3, e4]⟩
 have k2 := h2.2.2; have k3 := h3.2.2; have k4 := h4.2.2
 rw [n2]
 obtain rfl : g3 = g2 + 1 := by omega
 obtain rfl : g4 = g2 + 1 + 1 := by omega
 exact ⟨next (next h2.1 h3.1) h4.1, (h2.2.1.keep h3.1).keep h4.1, h3.2.1.keep h4.1, h4.2.1, by omega⟩
/-- Refused, when the field may have been made. -/
def ErrF (w : World) (p : Nat) (code : Int) (e : Ending) (w' : World) : Prop := e = .returned (.tuple #[.agg #[.int .i64 0, .int .i64 0, .slice none 0 0], .int .i64 code]) ∧ Fld w' p ∧ Fr (fun k => k = p) w w'
theorem solve_apart {w : World} {p B gx : Nat} {XA X : Option Addr} (hp : p < w.heap.size) (hB : w.heap.size ≤ B) (hX : ∀ k, Bk X k → B ≤ k ∧ k < gx) (hA : ∀ k, Bk XA k → gx < k) (hBx : B ≤ gx) :
    (∀ k, Bk XA k → k ≠ p ∧ ¬ Bk X k) ∧ (∀ k, Bk X k → k ≠ p) ∧ ∀ k, RS' XA X p k → k = p ∨ (B ≤ k ∧ k ≠ gx) := by
 refine ⟨fun k h => ⟨by have := hA k h; omega, fun h2 => by have := hA k h; have := hX k h2; omega⟩, fun k h => by have := hX k h; omega, fun k hs => ?_⟩
 rcases hs with h | h | h
 ·have := hA k h; omega
 ·have := hX k h; omega
 ·exact .inl h
set_option maxRecDepth 100000 in
set_option maxHeartbeats 8000000 in
theorem solve_bad1 (w : World) (F : Value) (R C R' C' : Int) (A A' : Option Addr) (n cap n' cap' : Nat) (hrt : rightB R C n = false) :
    Calls Try.prog 21 #[F, .agg #[.int .i64 R, .int .i64 C, .slice A n cap], .agg #[.int .i64 R', .int .i64 C', .slice A' n' cap']] w (ErrM w 50) := by
 obtain ⟨w1, h1, hw1⟩ := solP_start w #[.int .i64 R, .int .i64 C, .slice A n cap] #[.int .i64 R', .int .i64 C', .slice A' n' cap']
 obtain ⟨ga, hga⟩ : ∃ x, w.heap.size = x := ⟨_, rfl⟩
 rw [hga] at h1
 have HW1 := Lib.hid (show ((w.alloc (.cells #[.int .i64 R, .int .i64 C, .slice A n cap] 27)).alloc (.cells #[.int .i64 R', .int .i64 C', .slice A' n' cap'] 27)).alloc (.cells #[.int .i64 0, .int .i64 0, .slice none 0 0] 27) = w1 from hw1)
 have H1 := Lib.hid h1
 have HG := Lib.hid hga
 have HRT := Lib.hid hrt
 clear h1 hw1 hga hrt
 go_enter Try.func21, Try.ntmps21
 go_wp2_with fail
 rw [HW1.out, HG.out]
 refine (right_any w1 _ _ A n cap).mono ?_
 rintro e wA ⟨rfl, hb⟩
 rw [HRT.out]
 have HA := Lib.hid hb
 clear hb
 have hres := (show SolP w wA ga (ga + 1) (ga + 1 + 1) _ _ from H1.out.keep HA.out).res
 obtain ⟨⟨d0, d1, d2⟩, f0, f1, f2⟩ := cells3 hres
 go_wp2_with fail
 have h3 := set3 hres (.int .i64 0) (.int .i64 0) (.slice none 0 0)
 obtain ⟨w30, hw30⟩ : ∃ x : World, ((wA.setCell ⟨ga + 1 + 1, 0, none⟩ (.int .i64 0)).setCell ⟨ga + 1 + 1, 1, none⟩ (.int .i64 0)).setCell ⟨ga + 1 + 1, 2, none⟩ (.slice none 0 0) = x := ⟨_, rfl⟩
 rw [hw30] at h3 ⊢
 obtain ⟨⟨e0, e1, e2⟩, _⟩ := cells3 h3.1
 refine bodyPost_ret (v := .tuple #[.agg #[.int .i64 0, .int .i64 0, .slice none 0 0], .int .i64 50]) (by simp [results, Try.results21, go_sem, e0, e1, e2]) rfl ?_
 have hb := (H1.out.keep HA.out).below
 have hn := H1.out.nums
 exact ⟨rfl, hb.trans (h3.2.below hb.size fun k e => by rw [e]; omega)⟩
set_option maxRecDepth 100000 in
set_option maxHeartbeats 8000000 in
theorem solve_bad2 (w : World) (F : Value) (R C R' C' : Int) (A A' : Option Addr) (n cap n' cap' : Nat) (hrt : rightB R C n = true) (hrt2 : rightB R' C' n' = false) :
    Calls Try.prog 21 #[F, .agg #[.int .i64 R, .int .i64 C, .slice A n cap], .agg #[.int .i64 R', .int .i64 C', .slice A' n' cap']] w (ErrM w 50) := by
 obtain ⟨w1, h1, hw1⟩ := solP_start w #[.int .i64 R, .int .i64 C, .slice A n cap] #[.int .i64 R', .int .i64 C', .slice A' n' cap']
 obtain ⟨ga, hga⟩ : ∃ x, w.heap.size = x := ⟨_, rfl⟩
 rw [hga] at h1
 have HW1 := Lib.hid (show ((w.alloc (.cells #[.int .i64 R, .int .i64 C, .slice A n cap] 27)).alloc (.cells #[.int .i64 R', .int .i64 C', .slice A' n' cap'] 27)).alloc (.cells #[.int .i64 0, .int .i64 0, .slice none 0 0] 27) = w1 from hw1)
 have H1 := Lib.hid h1
 have HG := Lib.hid hga
 have HRT := Lib.hid hrt
 have HRT2 := Lib.hid hrt2
 clear h1 hw1 hga hrt hrt2
 go_enter Try.func21, Try.ntmps21
 go_wp2_with fail
 rw [HW1.out, HG.out]
 refine (right_any w1 _ _ A n cap).mono ?_
 rintro e wA ⟨rfl, hb⟩
 rw [HRT.out]
 have HA := Lib.hid hb
 have hpa := H1.out.keep hb
 obtain ⟨⟨a0, a1, a2⟩, _⟩ := cells3 hpa.a
 obtain ⟨⟨b0, b1, b2⟩, _⟩ := cells3 hpa.b
 clear hb hpa
 go_wp2_with fail
 refine (right_any wA _ _ A' n' cap').mono ?_
 rintro e wB ⟨rfl, hb⟩
 rw [HRT2.out]
 have HB := Lib.hid (next HA.out hb)
 have hpa := H1.out.keep HB.out
 clear a0 a1 a2 b0 b1 b2
 obtain ⟨⟨a0, a1, a2⟩, _⟩ := cells3 hpa.a
 obtain ⟨⟨b0, b1, b2⟩, _⟩ := cells3 hpa.b
 clear hb hpa
 have hres := (show SolP w wB ga (ga + 1) (ga + 1 + 1) _ _ from H1.out.keep HB.out).res
 obtain ⟨⟨d0, d1, d2⟩, f0, f1, f2⟩ := cells3 hres
 go_wp2_with fail
 have h3 := set3 hres (.int .i64 0) (.int .i64 0) (.slice none 0 0)
 obtain ⟨w30, hw30⟩ : ∃ x : World, ((wB.setCell ⟨ga + 1 + 1, 0, none⟩ (.int .i64 0)).setCell ⟨ga + 1 + 1, 1, none⟩ (.int .i64 0)).setCell ⟨ga + 1 + 1, 2, none⟩ (.slice none 0 0) = x := ⟨_, rfl⟩
 rw [hw30] at h3 ⊢
 obtain ⟨⟨e0, e1, e2⟩, _⟩ := cells3 h3.1
 refine bodyPost_ret (v := .tuple #[.agg #[.int .i64 0, .int .i64 0, .slice none 0 0], .int .i64 50]) (by simp [results, Try.results21, go_sem, e0, e1, e2]) rfl ?_
 have hb := (H1.out.keep HB.out).below
 have hn := H1.out.nums
 exact ⟨rfl, hb.trans (h3.2.below hb.size fun k e => by rw [e]; omega)⟩
set_option maxRecDepth 100000 in
set_option maxHeartbeats 8000000 in
theorem solve_bad3 (w : World) (F : Value) (R C R' C' : Int) (A A' : Option Addr) (n cap n' cap' : Nat) (hrt : rightB R C n = true) (hrt2 : rightB R' C' n' = true) (hne : (R != R') = true) :
    Calls Try.prog 21 #[F, .agg #[.int .i64 R, .int .i64 C, .slice A n cap], .agg #[.int .i64 R', .int .i64 C', .slice A' n' cap']] w (ErrM w 50) := by
 obtain ⟨w1, h1, hw1⟩ := solP_start w #[.int .i64 R, .int .i64 C, .slice A n cap] #[.int .i64 R', .int .i64 C', .slice A' n' cap']
 obtain ⟨ga, hga⟩ : ∃ x, w.heap.size = x := ⟨_, rfl⟩
 rw [hga] at h1
 have HW1 := Lib.hid (show ((w.alloc (.cells #[.int .i64 R, .int .i64 C, .slice A n cap] 27)).alloc (.cells #[.int .i64 R', .int .i64 C', .slice A' n' cap'] 27)).alloc (.cells #[.int .i64 0, .int .i64 0, .slice none 0 0] 27) = w1 from hw1)
 have H1 := Lib.hid h1
 have HG := Lib.hid hga
 have HRT := Lib.hid hrt
 have HRT2 := Lib.hid hrt2
 have HNE := Lib.hid hne
 clear h1 hw1 hga hrt hrt2 hne
 go_enter Try.func21, Try.ntmps21
 go_wp2_with fail
 rw [HW1.out, HG.out]
 refine (right_any w1 _ _ A n cap).mono ?_
 rintro e wA ⟨rfl, hb⟩
 rw [HRT.out]
 have HA := Lib.hid hb
 have hpa := H1.out.keep hb
 obtain ⟨⟨a0, a1, a2⟩, _⟩ := cells3 hpa.a
 obtain ⟨⟨b0, b1, b2⟩, _⟩ := cells3 hpa.b
 clear hb hpa
 go_wp2_with fail
 refine (right_any wA _ _ A' n' cap').mono ?_
 rintro e wB ⟨rfl, hb⟩
 rw [HRT2.out]
 have HB := Lib.hid (next HA.out hb)
 have hpa := H1.out.keep HB.out
 clear a0 a1 a2 b0 b1 b2
 obtain ⟨⟨a0, a1, a2⟩, _⟩ := cells3 hpa.a
 obtain ⟨⟨b0, b1, b2⟩, _⟩ := cells3 hpa.b
 clear hb hpa
 have hne := HNE.out
 have hres := (show SolP w wB ga (ga + 1) (ga + 1 + 1) _ _ from H1.out.keep HB.out).res
 obtain ⟨⟨d0, d1, d2⟩, f0, f1, f2⟩ := cells3 hres
 go_wp2_with fail
 have h3 := set3 hres (.int .i64 0) (.int .i64 0) (.slice none 0 0)
 obtain ⟨w30, hw30⟩ : ∃ x : World, ((wB.setCell ⟨ga + 1 + 1, 0, none⟩ (.int .i64 0)).setCell ⟨ga + 1 + 1, 1, none⟩ (.int .i64 0)).setCell ⟨ga + 1 + 1, 2, none⟩ (.slice none 0 0) = x := ⟨_, rfl⟩
 rw [hw30] at h3 ⊢
 obtain ⟨⟨e0, e1, e2⟩, _⟩ := cells3 h3.1
 refine bodyPost_ret (v := .tuple #[.agg #[.int .i64 0, .int .i64 0, .slice none 0 0], .int .i64 50]) (by simp [results, Try.results21, go_sem, e0, e1, e2]) rfl ?_
 have hb := (H1.out.keep HB.out).below
 have hn := H1.out.nums
 exact ⟨rfl, hb.trans (h3.2.below hb.size fun k e => by rw [e]; omega)⟩
set_option maxRecDepth 100000 in
set_option maxHeartbeats 8000000 in
theorem solve_no1 (w : World) (p : Nat) (hp : Fld w p) (r c d : Nat) (A A' : Option Addr) (n cap n' cap' : Nat) (a b : M) (hrt : rightB r c n = true) (hrt2 : rightB r d n' = true) (hrd : r ≤ 100 ∧ c ≤ 100 ∧ d ≤ 100) (hA : In w p A (flat r c a)) (hB : In w p A' (flat r d b)) (hk : (redTo r a b c).at_ < c) :
    Calls Try.prog 21 #[fptr (some p), .agg #[.int .i64 (r : Int), .int .i64 (c : Int), .slice A n cap], .agg #[.int .i64 (r : Int), .int .i64 (d : Int), .slice A' n' cap']] w (ErrF w p 51) := by
 have hn : n = r * c := by obtain ⟨r', c', e1, e2, _, _, e⟩ := right_nat hrt; rw [e, Int.ofNat.inj e1, Int.ofNat.inj e2]
 have hn' : n' = r * d := by obtain ⟨r', c', e1, e2, _, _, e⟩ := right_nat hrt2; rw [e, Int.ofNat.inj e1, Int.ofNat.inj e2]
 have hl : r * c ≤ 10000 ∧ r * d ≤ 10000 ∧ c * d ≤ 10000 := ⟨Nat.mul_le_mul hrd.1 hrd.2.1, Nat.mul_le_mul hrd.1 hrd.2.2, Nat.mul_le_mul hrd.2.1 hrd.2.2⟩
 obtain ⟨w1, h1, hw1⟩ := solP_start w #[.int .i64 (r : Int), .int .i64 (c : Int), .slice A n cap] #[.int .i64 (r : Int), .int .i64 (d : Int), .slice A' n' cap']
 obtain ⟨ga, hga⟩ : ∃ x, w.heap.size = x := ⟨_, rfl⟩
 rw [hga] at h1
 have HW1 := Lib.hid (show ((w.alloc (.cells #[.int .i64 (r : Int), .int .i64 (c : Int), .slice A n cap] 27)).alloc (.cells #[.int .i64 (r : Int), .int .i64 (d : Int), .slice A' n' cap'] 27)).alloc (.cells #[.int .i64 0, .int .i64 0, .slice none 0 0] 27) = w1 from hw1)
 have H1 := Lib.hid h1
 have HG := Lib.hid hga
 have HP := Lib.hid hp
 have HRT := Lib.hid hrt
 have HRT2 := Lib.hid hrt2
 have HRD := Lib.hid hrd
 have HAA := Lib.hid hA
 have HBB := Lib.hid hB
 have HN := Lib.hid hn
 have HN2 := Lib.hid hn'
 have HL := Lib.hid hl
 have HK := Lib.hid hk
 clear h1 hw1 hga hp hrt hrt2 hrd hA hB hn hn' hl hk
 go_enter Try.func21, Try.ntmps21
 go_wp2_with fail
 rw [HW1.out, HG.out]
 refine (right_any w1 _ _ A n cap).mono ?_
 rintro e wA ⟨rfl, hb⟩
 rw [HRT.out]
 have HA := Lib.hid hb
 have hpa := H1.out.keep hb
 obtain ⟨⟨a0, a1, a2⟩, _⟩ := cells3 hpa.a
 obtain ⟨⟨b0, b1, b2⟩, _⟩ := cells3 hpa.b
 clear hb hpa
 go_wp2_with fail
 refine (right_any wA _ _ A' n' cap').mono ?_
 rintro e wB ⟨rfl, hb⟩
 rw [HRT2.out]
 have HB := Lib.hid (next HA.out hb)
 have hpa := H1.out.keep HB.out
 clear a0 a1 a2 b0 b1 b2
 obtain ⟨⟨a0, a1, a2⟩, _⟩ := cells3 hpa.a
 obtain ⟨⟨b0, b1, b2⟩, _⟩ := cells3 hpa.b
 clear hb hpa
 have H2 := Lib.hid (H1.out.keep HB.out)
 go_wp2_with fail
 refine (own_any wB _ _ A' (flat r d b) n' cap' (by rw [flat_len]; exact HN2.out.symm) (by have := HN2.out; have := HL.out; omega) ((HBB.out.1.below H2.out.below).up H2.out.below.size)).mono ?_
 rintro e w3 ⟨X, cx, rfl, ho, hb⟩
 rw [flat_len]
 have H3 := Lib.hid (And.intro (H2.out.keep hb) (show Mem.Own w3 wB.heap.size 5 X cx ((flat r d b).map u8v) from ho))
 obtain ⟨w4, gx, h4, hw4, hgx⟩ := boxed w3 (mcells r d X (r * d) cx)
 have HW4 := Lib.hid (show w3.alloc (.cells #[.int .i64 (r : Int), .int .i64 (d : Int), .slice X (r * d) cx] 27) = w4 from hw4)
 have H4 := Lib.hid (And.intro (H3.out.1.keep h4.1) (And.intro (H3.out.2.keep h4.1) h4.2))
 have HSX := Lib.hid (show wB.heap.size ≤ gx from by rw [← hgx]; exact hb.size)
 have HGX := Lib.hid hgx
 clear ho hb h4 hw4 hgx a0 a1 a2 b0 b1 b2
 go_wp2_with fail
 rw [HW4.out, HGX.out]
 --HELD solve_no1r
 refine wp_region_noPanic ?_
 refine wp_heldG (fun w' => Blk w' ga 27 (mcells r c A n cap) ∧ Blk w' gx 27 (mcells r d X (r * d) cx)) [] (by kernel_rfl) ?hs0 ?rg0
 case hs0 =>
  exact ⟨H4.out.1.a, H4.out.2.2.1⟩
 case rg0 =>
 intro hHeld
 refine pu 0 ?_
 refine tk 1 rfl (by intro w hSw; (try dsimp only at hSw); obtain ⟨⟨c0, c1, c2⟩, _⟩ := cells3 hSw.1; go_simp; try with_reducible rfl) ?_
 refine tk 3 rfl (by intro w hSw; (try dsimp only at hSw); obtain ⟨⟨c0, c1, c2⟩, _⟩ := cells3 hSw.2; go_simp; try with_reducible rfl) ?_
 refine pu 5 ?_
 refine tk 6 rfl (by intro w hSw; (try dsimp only at hSw); obtain ⟨⟨c0, c1, c2⟩, _⟩ := cells3 hSw.1; go_simp; try with_reducible rfl) ?_
 refine on 2 rfl fun K hK => ?_
 go_simp
 have hb4 := next H4.out.1.below (nextN (Mem.start w4) 1)
 refine (own_any _ _ _ A (flat r c a) n cap (by rw [flat_len]; exact HN.out.symm) (by have := HN.out; have := HL.out; omega) ((HAA.out.1.below hb4).up hb4.size)).mono ?_
 rintro e w5 ⟨XA, ca, rfl, ho, hb⟩
 rw [flat_len]
 have H5 := Lib.hid (And.intro (show Mem.Own w5 w4.heap.size 5 XA ca ((flat r c a).map u8v) from ho) (And.intro (H4.out.1.keep (next (nextN (Mem.start w4) 1) hb)) (And.intro (H4.out.2.1.keep (next (nextN (Mem.start w4) 1) hb)) (H4.out.2.2.1.keep (next (nextN (Mem.start w4) 1) hb)))))
 clear ho hb4
 try dsimp only
 refine hK.out _ _ (fun _ => ⟨hHeld.1.keep hb, hHeld.2.keep hb⟩) fun hHeld => ?_
 clear hK K
 try simp only [pU, pU0, pA, pB, pC]
 have hHeld := hHeld (by kernel_rfl)
 refine on 4 rfl fun K hK => ?_
 clear hb
 go_simp
 have hap := solve_apart (X := X) (XA := XA) HP.out.lt (show w.heap.size ≤ wB.heap.size from H2.out.below.size) (fun k h => ⟨(own_bk H3.out.2 h).1, by have := (own_bk H3.out.2 h).2; have := HGX.out; omega⟩) (fun k h => by have := (own_bk H5.out.1 h).1; have := H4.out.2.2.2; omega) HSX.out
 refine (reduce_any w5 p (HP.out.keep H5.out.2.1.below) r c d (by have := HRD.out; omega) XA X (r * c) (r * d) ca cx rfl rfl a b (Own.down H5.out.1 (Nat.zero_le _)) (Own.down H5.out.2.2.1 (Nat.zero_le _)) ⟨hap.1, hap.2.1⟩).mono ?_
 rintro e w6 ⟨rfl, _, hx6, hF6, hf6⟩
 have H6 := Lib.hid (And.intro hx6 (And.intro hF6 hf6))
 have HAP := Lib.hid hap.2.2
 clear hap hx6 hF6
 try dsimp only
 refine hK.out _ _ ?_ (fun hHeld => ?_)
 ·intro _
  try dsimp only
  have hn := H2.out.nums
  have hpl := HP.out.lt
  have hxl := HGX.out
  have hsx := H3.out.1.nums
  have hszx : wB.heap.size ≤ gx := HSX.out
  exact ⟨hHeld.1.fr hf6 (fun hs => by have := HAP.out _ hs; omega), hHeld.2.fr hf6 (fun hs => by have := HAP.out _ hs; omega)⟩
 clear hK K
 try simp only [pU, pU0, pA, pB, pC]
 have hHeld := hHeld (by kernel_rfl)
 refine pu 7 ?_
 refine wpAnyG_done (by kernel_rfl) ?_ _
 refine NoPanic.normal ?_
 --END solve_no1r
 have hf7 : Fr (fun k => k = p) w w6 := (Fr.quiet (S := fun k => k = p) H5.out.2.1.below).trans H6.out.2.2 fun k hk hs => by
  have h1 := HAP.out k hs
  have h2 := H2.out.below.size
  omega
 have hn := H2.out.nums
 have hpl := HP.out.lt
 have hgr := HG.out
 have hsx := HSX.out
 have hne : ∀ k, k ≠ p → (k < wB.heap.size ∨ k = gx) → ¬ RS' XA X p k := fun k h1 h2 hs => by have := HAP.out k hs; omega
 have H7 := Lib.hid (show Blk w6 ga 27 (mcells r c A n cap) ∧ Blk w6 (ga + 1) 27 (mcells r d A' n' cap') ∧ Blk w6 (ga + 1 + 1) 27 zmx ∧ Blk w6 gx 27 (mcells r d X (r * d) cx) ∧ Fr (fun k => k = p) w w6 from
  ⟨H5.out.2.1.a.fr H6.out.2.2 (hne _ (by omega) (by omega)), H5.out.2.1.b.fr H6.out.2.2 (hne _ (by omega) (by omega)), H5.out.2.1.res.fr H6.out.2.2 (hne _ (by omega) (by omega)), H5.out.2.2.2.fr H6.out.2.2 (hne _ (by omega) (by omega)), hf7⟩)
 clear hf7 hn hpl hgr hsx hne hf6
 have hkk := HK.out
 have hres := H7.out.2.2.1
 obtain ⟨⟨d0, d1, d2⟩, f0, f1, f2⟩ := cells3 hres
 go_wp2_with fail
 have h3 := set3 hres (.int .i64 0) (.int .i64 0) (.slice none 0 0)
 obtain ⟨w30, hw30⟩ : ∃ x : World, ((w6.setCell ⟨ga + 1 + 1, 0, none⟩ (.int .i64 0)).setCell ⟨ga + 1 + 1, 1, none⟩ (.int .i64 0)).setCell ⟨ga + 1 + 1, 2, none⟩ (.slice none 0 0) = x := ⟨_, rfl⟩
 rw [hw30] at h3 ⊢
 obtain ⟨⟨e0, e1, e2⟩, _⟩ := cells3 h3.1
 refine bodyPost_ret (v := .tuple #[.agg #[.int .i64 0, .int .i64 0, .slice none 0 0], .int .i64 51]) (by simp [results, Try.results21, go_sem, e0, e1, e2]) rfl ?_
 exact ⟨rfl, H6.out.2.1.fr h3.2 (by have := HG.out; have := HP.out.lt; omega), H7.out.2.2.2.2.trans h3.2 fun k hk e => by have := HG.out; omega⟩
theorem rest_bytes {w : World} {X : Option Addr} {cap r c q : Nat} {m : M} (h : Wo w X cap r c m) (hq : q < cap) : Bytes w w.heap.size (X.map (·.add q)) ((flat r c m).drop q) := by
 have hb : Bytes w w.heap.size X (flat r c m) := Own.bytes h
 have hle : (flat r c m).length ≤ cap := by rw [flat_len]; exact h.le
 rcases Own.form h with ⟨_, e, _⟩ | ⟨g, rfl, _⟩
 ·omega
 ·have := hb.cut (g := g) (fun a e => by injection e with e; exact e.symm) q (cap - q)
  rw [if_neg (by omega), List.take_of_length_le (by rw [List.length_drop]; omega)] at this
  exact this
theorem head_bytes {w : World} {X : Option Addr} {cap r c : Nat} {m : M} (h : Wo w X cap r c m) (q : Nat) : Bytes w w.heap.size X ((flat r c m).take q) := Bytes.take (Own.bytes h) q
set_option maxRecDepth 100000 in
set_option maxHeartbeats 8000000 in
theorem solve_no2 (w : World) (p : Nat) (hp : Fld w p) (r c d : Nat) (A A' : Option Addr) (n cap n' cap' : Nat) (a b : M) (hrt : rightB r c n = true) (hrt2 : rightB r d n' = true) (hrd : r ≤ 100 ∧ c ≤ 100 ∧ d ≤ 100) (hA : In w p A (flat r c a)) (hB : In w p A' (flat r d b)) (hk : (redTo r a b c).at_ = c) (hz : anyNz ((flat r d (redTo r a b c).B).drop (c * d)) = true) :
    Calls Try.prog 21 #[fptr (some p), .agg #[.int .i64 (r : Int), .int .i64 (c : Int), .slice A n cap], .agg #[.int .i64 (r : Int), .int .i64 (d : Int), .slice A' n' cap']] w (ErrF w p 51) := by
 have hn : n = r * c := by obtain ⟨r', c', e1, e2, _, _, e⟩ := right_nat hrt; rw [e, Int.ofNat.inj e1, Int.ofNat.inj e2]
 have hn' : n' = r * d := by obtain ⟨r', c', e1, e2, _, _, e⟩ := right_nat hrt2; rw [e, Int.ofNat.inj e1, Int.ofNat.inj e2]
 have hl : r * c ≤ 10000 ∧ r * d ≤ 10000 ∧ c * d ≤ 10000 := ⟨Nat.mul_le_mul hrd.1 hrd.2.1, Nat.mul_le_mul hrd.1 hrd.2.2, Nat.mul_le_mul hrd.2.1 hrd.2.2⟩
 obtain ⟨w1, h1, hw1⟩ := solP_start w #[.int .i64 (r : Int), .int .i64 (c : Int), .slice A n cap] #[.int .i64 (r : Int), .int .i64 (d : Int), .slice A' n' cap']
 obtain ⟨ga, hga⟩ : ∃ x, w.heap.size = x := ⟨_, rfl⟩
 rw [hga] at h1
 have HW1 := Lib.hid (show ((w.alloc (.cells #[.int .i64 (r : Int), .int .i64 (c : Int), .slice A n cap] 27)).alloc (.cells #[.int .i64 (r : Int), .int .i64 (d : Int), .slice A' n' cap'] 27)).alloc (.cells #[.int .i64 0, .int .i64 0, .slice none 0 0] 27) = w1 from hw1)
 have H1 := Lib.hid h1
 have HG := Lib.hid hga
 have HP := Lib.hid hp
 have HRT := Lib.hid hrt
 have HRT2 := Lib.hid hrt2
 have HRD := Lib.hid hrd
 have HAA := Lib.hid hA
 have HBB := Lib.hid hB
 have HN := Lib.hid hn
 have HN2 := Lib.hid hn'
 have HL := Lib.hid hl
 have HK := Lib.hid hk
 have HZ := Lib.hid hz
 clear h1 hw1 hga hp hrt hrt2 hrd hA hB hn hn' hl hk hz
 go_enter Try.func21, Try.ntmps21
 go_wp2_with fail
 rw [HW1.out, HG.out]
 refine (right_any w1 _ _ A n cap).mono ?_
 rintro e wA ⟨rfl, hb⟩
 rw [HRT.out]
 have HA := Lib.hid hb
 have hpa := H1.out.keep hb
 obtain ⟨⟨a0, a1, a2⟩, _⟩ := cells3 hpa.a
 obtain ⟨⟨b0, b1, b2⟩, _⟩ := cells3 hpa.b
 clear hb hpa
 go_wp2_with fail
 refine (right_any wA _ _ A' n' cap').mono ?_
 rintro e wB ⟨rfl, hb⟩
 rw [HRT2.out]
 have HB := Lib.hid (next HA.out hb)
 have hpa := H1.out.keep HB.out
 clear a0 a1 a2 b0 b1 b2
 obtain ⟨⟨a0, a1, a2⟩, _⟩ := cells3 hpa.a
 obtain ⟨⟨b0, b1, b2⟩, _⟩ := cells3 hpa.b
 clear hb hpa
 have H2 := Lib.hid (H1.out.keep HB.out)
 go_wp2_with fail
 refine (own_any wB _ _ A' (flat r d b) n' cap' (by rw [flat_len]; exact HN2.out.symm) (by have := HN2.out; have := HL.out; omega) ((HBB.out.1.below H2.out.below).up H2.out.below.size)).mono ?_
 rintro e w3 ⟨X, cx, rfl, ho, hb⟩
 rw [flat_len]
 have H3 := Lib.hid (And.intro (H2.out.keep hb) (show Mem.Own w3 wB.heap.size 5 X cx ((flat r d b).map u8v) from ho))
 obtain ⟨w4, gx, h4, hw4, hgx⟩ := boxed w3 (mcells r d X (r * d) cx)
 have HW4 := Lib.hid (show w3.alloc (.cells #[.int .i64 (r : Int), .int .i64 (d : Int), .slice X (r * d) cx] 27) = w4 from hw4)
 have H4 := Lib.hid (And.intro (H3.out.1.keep h4.1) (And.intro (H3.out.2.keep h4.1) h4.2))
 have HSX := Lib.hid (show wB.heap.size ≤ gx from by rw [← hgx]; exact hb.size)
 have HGX := Lib.hid hgx
 clear ho hb h4 hw4 hgx a0 a1 a2 b0 b1 b2
 go_wp2_with fail
 rw [HW4.out, HGX.out]
 --HELD solve_no2r
 refine wp_region_noPanic ?_
 refine wp_heldG (fun w' => Blk w' ga 27 (mcells r c A n cap) ∧ Blk w' gx 27 (mcells r d X (r * d) cx)) [] (by kernel_rfl) ?hs0 ?rg0
 case hs0 =>
  exact ⟨H4.out.1.a, H4.out.2.2.1⟩
 case rg0 =>
 intro hHeld
 refine pu 0 ?_
 refine tk 1 rfl (by intro w hSw; (try dsimp only at hSw); obtain ⟨⟨c0, c1, c2⟩, _⟩ := cells3 hSw.1; go_simp; try with_reducible rfl) ?_
 refine tk 3 rfl (by intro w hSw; (try dsimp only at hSw); obtain ⟨⟨c0, c1, c2⟩, _⟩ := cells3 hSw.2; go_simp; try with_reducible rfl) ?_
 refine pu 5 ?_
 refine tk 6 rfl (by intro w hSw; (try dsimp only at hSw); obtain ⟨⟨c0, c1, c2⟩, _⟩ := cells3 hSw.1; go_simp; try with_reducible rfl) ?_
 refine on 2 rfl fun K hK => ?_
 go_simp
 have hb4 := next H4.out.1.below (nextN (Mem.start w4) 1)
 refine (own_any _ _ _ A (flat r c a) n cap (by rw [flat_len]; exact HN.out.symm) (by have := HN.out; have := HL.out; omega) ((HAA.out.1.below hb4).up hb4.size)).mono ?_
 rintro e w5 ⟨XA, ca, rfl, ho, hb⟩
 rw [flat_len]
 have H5 := Lib.hid (And.intro (show Mem.Own w5 w4.heap.size 5 XA ca ((flat r c a).map u8v) from ho) (And.intro (H4.out.1.keep (next (nextN (Mem.start w4) 1) hb)) (And.intro (H4.out.2.1.keep (next (nextN (Mem.start w4) 1) hb)) (H4.out.2.2.1.keep (next (nextN (Mem.start w4) 1) hb)))))
 clear ho hb4
 try dsimp only
 refine hK.out _ _ (fun _ => ⟨hHeld.1.keep hb, hHeld.2.keep hb⟩) fun hHeld => ?_
 clear hK K
 try simp only [pU, pU0, pA, pB, pC]
 have hHeld := hHeld (by kernel_rfl)
 refine on 4 rfl fun K hK => ?_
 clear hb
 go_simp
 have hap := solve_apart (X := X) (XA := XA) HP.out.lt (show w.heap.size ≤ wB.heap.size from H2.out.below.size) (fun k h => ⟨(own_bk H3.out.2 h).1, by have := (own_bk H3.out.2 h).2; have := HGX.out; omega⟩) (fun k h => by have := (own_bk H5.out.1 h).1; have := H4.out.2.2.2; omega) HSX.out
 refine (reduce_any w5 p (HP.out.keep H5.out.2.1.below) r c d (by have := HRD.out; omega) XA X (r * c) (r * d) ca cx rfl rfl a b (Own.down H5.out.1 (Nat.zero_le _)) (Own.down H5.out.2.2.1 (Nat.zero_le _)) ⟨hap.1, hap.2.1⟩).mono ?_
 rintro e w6 ⟨rfl, _, hx6, hF6, hf6⟩
 have H6 := Lib.hid (And.intro hx6 (And.intro hF6 hf6))
 have HAP := Lib.hid hap.2.2
 clear hap hx6 hF6
 try dsimp only
 refine hK.out _ _ ?_ (fun hHeld => ?_)
 ·intro _
  try dsimp only
  have hn := H2.out.nums
  have hpl := HP.out.lt
  have hxl := HGX.out
  have hsx := H3.out.1.nums
  have hszx : wB.heap.size ≤ gx := HSX.out
  exact ⟨hHeld.1.fr hf6 (fun hs => by have := HAP.out _ hs; omega), hHeld.2.fr hf6 (fun hs => by have := HAP.out _ hs; omega)⟩
 clear hK K
 try simp only [pU, pU0, pA, pB, pC]
 have hHeld := hHeld (by kernel_rfl)
 refine pu 7 ?_
 refine wpAnyG_done (by kernel_rfl) ?_ _
 refine NoPanic.normal ?_
 --END solve_no2r
 have hf7 : Fr (fun k => k = p) w w6 := (Fr.quiet (S := fun k => k = p) H5.out.2.1.below).trans H6.out.2.2 fun k hk hs => by
  have h1 := HAP.out k hs
  have h2 := H2.out.below.size
  omega
 have hn := H2.out.nums
 have hpl := HP.out.lt
 have hgr := HG.out
 have hsx := HSX.out
 have hne : ∀ k, k ≠ p → (k < wB.heap.size ∨ k = gx) → ¬ RS' XA X p k := fun k h1 h2 hs => by have := HAP.out k hs; omega
 have H7 := Lib.hid (show Blk w6 ga 27 (mcells r c A n cap) ∧ Blk w6 (ga + 1) 27 (mcells r d A' n' cap') ∧ Blk w6 (ga + 1 + 1) 27 zmx ∧ Blk w6 gx 27 (mcells r d X (r * d) cx) ∧ Fr (fun k => k = p) w w6 from
  ⟨H5.out.2.1.a.fr H6.out.2.2 (hne _ (by omega) (by omega)), H5.out.2.1.b.fr H6.out.2.2 (hne _ (by omega) (by omega)), H5.out.2.1.res.fr H6.out.2.2 (hne _ (by omega) (by omega)), H5.out.2.2.2.fr H6.out.2.2 (hne _ (by omega) (by omega)), hf7⟩)
 clear hf7 hn hpl hgr hsx hne hf6
 obtain ⟨L, hL⟩ : ∃ L, r * d = L := ⟨_, rfl⟩
 obtain ⟨q, hq⟩ : ∃ q, c * d = q := ⟨_, rfl⟩
 have hqi : (c : Int) * (d : Int) = (q : Int) := by rw [← hq]; simp
 have hqL : q ≤ L := by
  have h1 := redTo_at (A := a) (B := b) (r := r) c
  rw [HK.out] at h1
  rw [← hq, ← hL]
  exact Nat.mul_le_mul_right d h1.1
 have hLc : L ≤ cx := by rw [← hL]; exact H6.out.1.le
 have hL9 : L ≤ 10000 := by rw [← hL]; exact HL.out.2.1
 have hh7 := H7.out
 rw [hL] at hh7 ⊢
 have H7L := Lib.hid hh7
 have H6L := Lib.hid (show Bytes w6 w6.heap.size X (flat r d (redTo r a b c).B) ∧ (flat r d (redTo r a b c).B).length = L ∧ (flat c d (redTo r a b c).B) = (flat r d (redTo r a b c).B).take q from
  ⟨Own.bytes H6.out.1, by rw [flat_len, hL], by rw [← hq]; exact flat_take (by have h1 := redTo_at (A := a) (B := b) (r := r) c; rw [HK.out] at h1; exact h1.1)⟩)
 have hq0 : (0 : Int) ≤ (q : Int) := by omega
 have hqLi : (q : Int) ≤ (L : Int) := by omega
 have hLci : (L : Int) ≤ (cx : Int) := by omega
 have hqc : (q : Int) ≤ (cx : Int) := by omega
 have hq9 : (q : Int) ≤ 10000 := by omega
 have hw1 : wrap64 (q : Int) = (q : Int) := by unfold wrap64; omega
 have HQ := Lib.hid (And.intro hq (And.intro hqL (And.intro hLc hL9)))
 have hkk : ¬ (redTo r a b c).at_ < c := by rw [HK.out]; exact Nat.lt_irrefl _
 obtain ⟨⟨a0, a1, a2⟩, _⟩ := cells3 H7L.out.1
 obtain ⟨⟨b0, b1, b2⟩, _⟩ := cells3 H7L.out.2.1
 obtain ⟨⟨x0, x1, x2⟩, _⟩ := cells3 H7L.out.2.2.2.1
 clear hL hq hqL hLc hL9 hh7 H7
 have hcx : q < cx := by
  rcases Nat.lt_or_ge q cx with h | h
  ·exact h
  ·have h1 := HZ.out
   rw [HQ.out.1, List.drop_of_length_le (by rw [H6L.out.2.1]; have := HQ.out; omega)] at h1
   cases h1
 have HCX := Lib.hid hcx
 have hcn : ¬ cx = q := by omega
 clear hcx
 go_wp2_with fail
 refine (contains_any w6 _ ((flat r d (redTo r a b c).B).drop q) (L - q) (cx - q) (by rw [List.length_drop, H6L.out.2.1]) (by have := HQ.out; omega) (rest_bytes H6.out.1 HCX.out)).mono ?_
 rintro e w' ⟨rfl, rfl⟩
 rw [show anyNz ((flat r d (redTo r a b c).B).drop q) = true from by rw [← HQ.out.1]; exact HZ.out]
 have hres := H7L.out.2.2.1
 obtain ⟨⟨d0, d1, d2⟩, f0, f1, f2⟩ := cells3 hres
 go_wp2_with fail
 have h3 := set3 hres (.int .i64 0) (.int .i64 0) (.slice none 0 0)
 obtain ⟨w30, hw30⟩ : ∃ x : World, ((w6.setCell ⟨ga + 1 + 1, 0, none⟩ (.int .i64 0)).setCell ⟨ga + 1 + 1, 1, none⟩ (.int .i64 0)).setCell ⟨ga + 1 + 1, 2, none⟩ (.slice none 0 0) = x := ⟨_, rfl⟩
 rw [hw30] at h3 ⊢
 obtain ⟨⟨e0, e1, e2⟩, _⟩ := cells3 h3.1
 refine bodyPost_ret (v := .tuple #[.agg #[.int .i64 0, .int .i64 0, .slice none 0 0], .int .i64 51]) (by simp [results, Try.results21, go_sem, e0, e1, e2]) rfl ?_
 exact ⟨rfl, H6.out.2.1.fr h3.2 (by have := HG.out; have := HP.out.lt; omega), H7L.out.2.2.2.2.trans h3.2 fun k hk e => by have := HG.out; omega⟩
set_option maxRecDepth 100000 in
set_option maxHeartbeats 8000000 in
theorem solve_yes (w : World) (p : Nat) (hp : Fld w p) (r c d : Nat) (A A' : Option Addr) (n cap n' cap' : Nat) (a b : M) (hrt : rightB r c n = true) (hrt2 : rightB r d n' = true) (hrd : r ≤ 100 ∧ c ≤ 100 ∧ d ≤ 100) (hA : In w p A (flat r c a)) (hB : In w p A' (flat r d b)) (hk : (redTo r a b c).at_ = c) (hz : anyNz ((flat r d (redTo r a b c).B).drop (c * d)) = false) :
    Calls Try.prog 21 #[fptr (some p), .agg #[.int .i64 (r : Int), .int .i64 (c : Int), .slice A n cap], .agg #[.int .i64 (r : Int), .int .i64 (d : Int), .slice A' n' cap']] w (NewF w p c d (redTo r a b c).B) := by
 have hn : n = r * c := by obtain ⟨r', c', e1, e2, _, _, e⟩ := right_nat hrt; rw [e, Int.ofNat.inj e1, Int.ofNat.inj e2]
 have hn' : n' = r * d := by obtain ⟨r', c', e1, e2, _, _, e⟩ := right_nat hrt2; rw [e, Int.ofNat.inj e1, Int.ofNat.inj e2]
 have hl : r * c ≤ 10000 ∧ r * d ≤ 10000 ∧ c * d ≤ 10000 := ⟨Nat.mul_le_mul hrd.1 hrd.2.1, Nat.mul_le_mul hrd.1 hrd.2.2, Nat.mul_le_mul hrd.2.1 hrd.2.2⟩
 obtain ⟨w1, h1, hw1⟩ := solP_start w #[.int .i64 (r : Int), .int .i64 (c : Int), .slice A n cap] #[.int .i64 (r : Int), .int .i64 (d : Int), .slice A' n' cap']
 obtain ⟨ga, hga⟩ : ∃ x, w.heap.size = x := ⟨_, rfl⟩
 rw [hga] at h1
 have HW1 := Lib.hid (show ((w.alloc (.cells #[.int .i64 (r : Int), .int .i64 (c : Int), .slice A n cap] 27)).alloc (.cells #[.int .i64 (r : Int), .int .i64 (d : Int), .slice A' n' cap'] 27)).alloc (.cells #[.int .i64 0, .int .i64 0, .slice none 0 0] 27) = w1 from hw1)
 have H1 := Lib.hid h1
 have HG := Lib.hid hga
 have HP := Lib.hid hp
 have HRT := Lib.hid hrt
 have HRT2 := Lib.hid hrt2
 have HRD := Lib.hid hrd
 have HAA := Lib.hid hA
 have HBB := Lib.hid hB
 have HN := Lib.hid hn
 have HN2 := Lib.hid hn'
 have HL := Lib.hid hl
 have HK := Lib.hid hk
 have HZ := Lib.hid hz
 clear h1 hw1 hga hp hrt hrt2 hrd hA hB hn hn' hl hk hz
 go_enter Try.func21, Try.ntmps21
 go_wp2_with fail
 rw [HW1.out, HG.out]
 refine (right_any w1 _ _ A n cap).mono ?_
 rintro e wA ⟨rfl, hb⟩
 rw [HRT.out]
 have HA := Lib.hid hb
 have hpa := H1.out.keep hb
 obtain ⟨⟨a0, a1, a2⟩, _⟩ := cells3 hpa.a
 obtain ⟨⟨b0, b1, b2⟩, _⟩ := cells3 hpa.b
 clear hb hpa
 go_wp2_with fail
 refine (right_any wA _ _ A' n' cap').mono ?_
 rintro e wB ⟨rfl, hb⟩
 rw [HRT2.out]
 have HB := Lib.hid (next HA.out hb)
 have hpa := H1.out.keep HB.out
 clear a0 a1 a2 b0 b1 b2
 obtain ⟨⟨a0, a1, a2⟩, _⟩ := cells3 hpa.a
 obtain ⟨⟨b0, b1, b2⟩, _⟩ := cells3 hpa.b
 clear hb hpa
 have H2 := Lib.hid (H1.out.keep HB.out)
 go_wp2_with fail
 refine (own_any wB _ _ A' (flat r d b) n' cap' (by rw [flat_len]; exact HN2.out.symm) (by have := HN2.out; have := HL.out; omega) ((HBB.out.1.below H2.out.below).up H2.out.below.size)).mono ?_
 rintro e w3 ⟨X, cx, rfl, ho, hb⟩
 rw [flat_len]
 have H3 := Lib.hid (And.intro (H2.out.keep hb) (show Mem.Own w3 wB.heap.size 5 X cx ((flat r d b).map u8v) from ho))
 obtain ⟨w4, gx, h4, hw4, hgx⟩ := boxed w3 (mcells r d X (r * d) cx)
 have HW4 := Lib.hid (show w3.alloc (.cells #[.int .i64 (r : Int), .int .i64 (d : Int), .slice X (r * d) cx] 27) = w4 from hw4)
 have H4 := Lib.hid (And.intro (H3.out.1.keep h4.1) (And.intro (H3.out.2.keep h4.1) h4.2))
 have HSX := Lib.hid (show wB.heap.size ≤ gx from by rw [← hgx]; exact hb.size)
 have HGX := Lib.hid hgx
 clear ho hb h4 hw4 hgx a0 a1 a2 b0 b1 b2
 go_wp2_with fail
 rw [HW4.out, HGX.out]
 --HELD solve_yesr
 refine wp_region_noPanic ?_
 refine wp_heldG (fun w' => Blk w' ga 27 (mcells r c A n cap) ∧ Blk w' gx 27 (mcells r d X (r * d) cx)) [] (by kernel_rfl) ?hs0 ?rg0
 case hs0 =>
  exact ⟨H4.out.1.a, H4.out.2.2.1⟩
 case rg0 =>
 intro hHeld
 refine pu 0 ?_
 refine tk 1 rfl (by intro w hSw; (try dsimp only at hSw); obtain ⟨⟨c0, c1, c2⟩, _⟩ := cells3 hSw.1; go_simp; try with_reducible rfl) ?_
 refine tk 3 rfl (by intro w hSw; (try dsimp only at hSw); obtain ⟨⟨c0, c1, c2⟩, _⟩ := cells3 hSw.2; go_simp; try with_reducible rfl) ?_
 refine pu 5 ?_
 refine tk 6 rfl (by intro w hSw; (try dsimp only at hSw); obtain ⟨⟨c0, c1, c2⟩, _⟩ := cells3 hSw.1; go_simp; try with_reducible rfl) ?_
 refine on 2 rfl fun K hK => ?_
 go_simp
 have hb4 := next H4.out.1.below (nextN (Mem.start w4) 1)
 refine (own_any _ _ _ A (flat r c a) n cap (by rw [flat_len]; exact HN.out.symm) (by have := HN.out; have := HL.out; omega) ((HAA.out.1.below hb4).up hb4.size)).mono ?_
 rintro e w5 ⟨XA, ca, rfl, ho, hb⟩
 rw [flat_len]
 have H5 := Lib.hid (And.intro (show Mem.Own w5 w4.heap.size 5 XA ca ((flat r c a).map u8v) from ho) (And.intro (H4.out.1.keep (next (nextN (Mem.start w4) 1) hb)) (And.intro (H4.out.2.1.keep (next (nextN (Mem.start w4) 1) hb)) (H4.out.2.2.1.keep (next (nextN (Mem.start w4) 1) hb)))))
 clear ho hb4
 try dsimp only
 refine hK.out _ _ (fun _ => ⟨hHeld.1.keep hb, hHeld.2.keep hb⟩) fun hHeld => ?_
 clear hK K
 try simp only [pU, pU0, pA, pB, pC]
 have hHeld := hHeld (by kernel_rfl)
 refine on 4 rfl fun K hK => ?_
 clear hb
 go_simp
 have hap := solve_apart (X := X) (XA := XA) HP.out.lt (show w.heap.size ≤ wB.heap.size from H2.out.below.size) (fun k h => ⟨(own_bk H3.out.2 h).1, by have := (own_bk H3.out.2 h).2; have := HGX.out; omega⟩) (fun k h => by have := (own_bk H5.out.1 h).1; have := H4.out.2.2.2; omega) HSX.out
 refine (reduce_any w5 p (HP.out.keep H5.out.2.1.below) r c d (by have := HRD.out; omega) XA X (r * c) (r * d) ca cx rfl rfl a b (Own.down H5.out.1 (Nat.zero_le _)) (Own.down H5.out.2.2.1 (Nat.zero_le _)) ⟨hap.1, hap.2.1⟩).mono ?_
 rintro e w6 ⟨rfl, _, hx6, hF6, hf6⟩
 have H6 := Lib.hid (And.intro hx6 (And.intro hF6 hf6))
 have HAP := Lib.hid hap.2.2
 clear hap hx6 hF6
 try dsimp only
 refine hK.out _ _ ?_ (fun hHeld => ?_)
 ·intro _
  try dsimp only
  have hn := H2.out.nums
  have hpl := HP.out.lt
  have hxl := HGX.out
  have hsx := H3.out.1.nums
  have hszx : wB.heap.size ≤ gx := HSX.out
  exact ⟨hHeld.1.fr hf6 (fun hs => by have := HAP.out _ hs; omega), hHeld.2.fr hf6 (fun hs => by have := HAP.out _ hs; omega)⟩
 clear hK K
 try simp only [pU, pU0, pA, pB, pC]
 have hHeld := hHeld (by kernel_rfl)
 refine pu 7 ?_
 refine wpAnyG_done (by kernel_rfl) ?_ _
 refine NoPanic.normal ?_
 --END solve_yesr
 have hf7 : Fr (fun k => k = p) w w6 := (Fr.quiet (S := fun k => k = p) H5.out.2.1.below).trans H6.out.2.2 fun k hk hs => by
  have h1 := HAP.out k hs
  have h2 := H2.out.below.size
  omega
 have hn := H2.out.nums
 have hpl := HP.out.lt
 have hgr := HG.out
 have hsx := HSX.out
 have hne : ∀ k, k ≠ p → (k < wB.heap.size ∨ k = gx) → ¬ RS' XA X p k := fun k h1 h2 hs => by have := HAP.out k hs; omega
 have H7 := Lib.hid (show Blk w6 ga 27 (mcells r c A n cap) ∧ Blk w6 (ga + 1) 27 (mcells r d A' n' cap') ∧ Blk w6 (ga + 1 + 1) 27 zmx ∧ Blk w6 gx 27 (mcells r d X (r * d) cx) ∧ Fr (fun k => k = p) w w6 from
  ⟨H5.out.2.1.a.fr H6.out.2.2 (hne _ (by omega) (by omega)), H5.out.2.1.b.fr H6.out.2.2 (hne _ (by omega) (by omega)), H5.out.2.1.res.fr H6.out.2.2 (hne _ (by omega) (by omega)), H5.out.2.2.2.fr H6.out.2.2 (hne _ (by omega) (by omega)), hf7⟩)
 clear hf7 hn hpl hgr hsx hne hf6
 obtain ⟨L, hL⟩ : ∃ L, r * d = L := ⟨_, rfl⟩
 obtain ⟨q, hq⟩ : ∃ q, c * d = q := ⟨_, rfl⟩
 have hqi : (c : Int) * (d : Int) = (q : Int) := by rw [← hq]; simp
 have hqL : q ≤ L := by
  have h1 := redTo_at (A := a) (B := b) (r := r) c
  rw [HK.out] at h1
  rw [← hq, ← hL]
  exact Nat.mul_le_mul_right d h1.1
 have hLc : L ≤ cx := by rw [← hL]; exact H6.out.1.le
 have hL9 : L ≤ 10000 := by rw [← hL]; exact HL.out.2.1
 have hh7 := H7.out
 rw [hL] at hh7 ⊢
 have H7L := Lib.hid hh7
 have H6L := Lib.hid (show Bytes w6 w6.heap.size X (flat r d (redTo r a b c).B) ∧ (flat r d (redTo r a b c).B).length = L ∧ (flat c d (redTo r a b c).B) = (flat r d (redTo r a b c).B).take q from
  ⟨Own.bytes H6.out.1, by rw [flat_len, hL], by rw [← hq]; exact flat_take (by have h1 := redTo_at (A := a) (B := b) (r := r) c; rw [HK.out] at h1; exact h1.1)⟩)
 have hq0 : (0 : Int) ≤ (q : Int) := by omega
 have hqLi : (q : Int) ≤ (L : Int) := by omega
 have hLci : (L : Int) ≤ (cx : Int) := by omega
 have hqc : (q : Int) ≤ (cx : Int) := by omega
 have hq9 : (q : Int) ≤ 10000 := by omega
 have hw1 : wrap64 (q : Int) = (q : Int) := by unfold wrap64; omega
 have HQ := Lib.hid (And.intro hq (And.intro hqL (And.intro hLc hL9)))
 have hkk : ¬ (redTo r a b c).at_ < c := by rw [HK.out]; exact Nat.lt_irrefl _
 obtain ⟨⟨a0, a1, a2⟩, _⟩ := cells3 H7L.out.1
 obtain ⟨⟨b0, b1, b2⟩, _⟩ := cells3 H7L.out.2.1
 obtain ⟨⟨x0, x1, x2⟩, _⟩ := cells3 H7L.out.2.2.2.1
 clear hL hq hqL hLc hL9 hh7 H7
 by_cases hcx : q < cx
 ·have HCX := Lib.hid hcx
  have hcn : ¬ cx = q := by omega
  clear hcx
  go_wp2_with fail
  refine (contains_any w6 _ ((flat r d (redTo r a b c).B).drop q) (L - q) (cx - q) (by rw [List.length_drop, H6L.out.2.1]) (by have := HQ.out; omega) (rest_bytes H6.out.1 HCX.out)).mono ?_
  rintro e w' ⟨rfl, rfl⟩
  rw [show anyNz ((flat r d (redTo r a b c).B).drop q) = false from by rw [← HQ.out.1]; exact HZ.out]
  go_wp2_with fail
  --HELD solve_yes19
  refine wp_region_noPanic ?_
  refine wp_heldG (fun w' => Blk w' ga 27 (mcells r c A n cap) ∧ Blk w' (ga + 1) 27 (mcells r d A' n' cap') ∧ Blk w' gx 27 (mcells r d X L cx)) [10] (by kernel_rfl) ?hs0 ?rg0
  case hs0 =>
   exact ⟨H7L.out.1, H7L.out.2.1, H7L.out.2.2.2.1⟩
  case rg0 =>
  intro hHeld
  refine pu 0 ?_
  refine tk 1 rfl (by intro w hSw; (try dsimp only at hSw); obtain ⟨⟨c0, c1, c2⟩, _⟩ := cells3 hSw.1; go_simp; try with_reducible rfl) ?_
  refine pu 2 ?_
  refine tk 3 rfl (by intro w hSw; (try dsimp only at hSw); obtain ⟨⟨c0, c1, c2⟩, _⟩ := cells3 hSw.2.1; go_simp; try with_reducible rfl) ?_
  refine pu 4 ?_
  refine tk 5 rfl (by intro w hSw; (try dsimp only at hSw); obtain ⟨⟨c0, c1, c2⟩, _⟩ := cells3 hSw.2.2; go_simp; try with_reducible rfl) ?_
  refine pu 6 ?_
  refine pu 7 ?_
  refine pu 8 ?_
  refine pu 9 ?_
  refine on 10 rfl fun K hK => ?_
  obtain ⟨⟨d0, d1, d2⟩, f0, f1, f2⟩ := cells3 H7L.out.2.2.1
  go_simp
  try dsimp only
  refine hK.out _ _ ?_ (fun hHeld => ?_)
  ·exact fun h => (st_no (by kernel_rfl) h).elim
  clear hK K
  try simp only [pU, pU0, pA, pB, pC]
  clear hHeld
  refine puG 11 ⟨_, _, _, _, _, _⟩ (v := ?_) ?_ (fun h => (st_no (by kernel_rfl) h).elim) ?_
  rotate_left
  ·intro w hSw
   try dsimp only at hSw
   go_simp
   try with_reducible rfl
  try simp only [pU, pU0, pA, pB, pC]
  refine wpAnyG_done (by kernel_rfl) ?_ _
  refine NoPanic.normal ?_
  --END solve_yes19
  have h3 := set3 H7L.out.2.2.1 (.int .i64 (c : Int)) (.int .i64 (d : Int)) (.slice X q q)
  obtain ⟨w29, hw29⟩ : ∃ x : World, ((w6.setCell ⟨ga + 1 + 1, 0, none⟩ (.int .i64 (c : Int))).setCell ⟨ga + 1 + 1, 1, none⟩ (.int .i64 (d : Int))).setCell ⟨ga + 1 + 1, 2, none⟩ (.slice X q q) = x := ⟨_, rfl⟩
  rw [hw29] at h3 ⊢
  obtain ⟨⟨e0, e1, e2⟩, _⟩ := cells3 h3.1
  have H3R := Lib.hid h3
  clear h3 hw29
  go_wp2_with fail
  refine bodyPost_ret (v := .tuple #[.agg #[.int .i64 (c : Int), .int .i64 (d : Int), .slice X q q], .int .i64 0]) (by simp [results, Try.results21, go_sem, e0, e1, e2]) rfl ?_
  have hxo := fun k (h : Bk X k) => (own_bk H3.out.2 h).1
  have hn := H2.out.nums
  have hsz := H2.out.below.size
  have hbd := nextN (Mem.start w29) 1
  have hwo := (H6.out.1.fr H3R.out.2 (fun g e1 e2 => by have := hxo g e1; omega)).keep hbd
  refine ⟨X, q, by rw [HQ.out.1], by rw [HQ.out.1]; exact Nat.le_refl _, ⟨?_, fun b o e hl => ?_⟩, (H6.out.2.1.fr H3R.out.2 (by have := HG.out; have := HP.out.lt; omega)).keep hbd, (H7L.out.2.2.2.2.trans H3R.out.2 fun k hk e => by have := HG.out; omega).trans (Fr.quiet (S := fun _ => False) hbd) fun _ _ h => h.elim⟩
  ·rw [H6L.out.2.2]; exact head_bytes hwo q
  ·rcases Own.form H3.out.2 with ⟨e3, _⟩ | ⟨g', e3, hb, _⟩
   ·rw [e] at e3; cases e3
   ·rw [e] at e3; injection e3 with e3; have := congrArg Addr.block e3; dsimp only at this; omega
 ·replace hcx : q = cx := by omega
  subst hcx
  have hLq : L = q := by have := HQ.out; omega
  subst hLq
  clear hqLi hLci hqc hw1
  go_wp2_with fail
  refine (contains_any w6 _ [] 0 0 rfl (by decide) Bytes.nil).mono ?_
  rintro e w' ⟨rfl, rfl⟩
  rw [show anyNz [] = false from rfl]
  go_wp2_with fail
  --HELD solve_yes09
  refine wp_region_noPanic ?_
  refine wp_heldG (fun w' => Blk w' ga 27 (mcells r c A n cap) ∧ Blk w' (ga + 1) 27 (mcells r d A' n' cap') ∧ Blk w' gx 27 (mcells r d X L L)) [10] (by kernel_rfl) ?hs0 ?rg0
  case hs0 =>
   exact ⟨H7L.out.1, H7L.out.2.1, H7L.out.2.2.2.1⟩
  case rg0 =>
  intro hHeld
  refine pu 0 ?_
  refine tk 1 rfl (by intro w hSw; (try dsimp only at hSw); obtain ⟨⟨c0, c1, c2⟩, _⟩ := cells3 hSw.1; go_simp; try with_reducible rfl) ?_
  refine pu 2 ?_
  refine tk 3 rfl (by intro w hSw; (try dsimp only at hSw); obtain ⟨⟨c0, c1, c2⟩, _⟩ := cells3 hSw.2.1; go_simp; try with_reducible rfl) ?_
  refine pu 4 ?_
  refine tk 5 rfl (by intro w hSw; (try dsimp only at hSw); obtain ⟨⟨c0, c1, c2⟩, _⟩ := cells3 hSw.2.2; go_simp; try with_reducible rfl) ?_
  refine pu 6 ?_
  refine pu 7 ?_
  refine pu 8 ?_
  refine pu 9 ?_
  refine on 10 rfl fun K hK => ?_
  obtain ⟨⟨d0, d1, d2⟩, f0, f1, f2⟩ := cells3 H7L.out.2.2.1
  go_simp
  try dsimp only
  refine hK.out _ _ ?_ (fun hHeld => ?_)
  ·exact fun h => (st_no (by kernel_rfl) h).elim
  clear hK K
  try simp only [pU, pU0, pA, pB, pC]
  clear hHeld
  refine puG 11 ⟨_, _, _, _, _, _⟩ (v := ?_) ?_ (fun h => (st_no (by kernel_rfl) h).elim) ?_
  rotate_left
  ·intro w hSw
   try dsimp only at hSw
   go_simp
   try with_reducible rfl
  try simp only [pU, pU0, pA, pB, pC]
  refine wpAnyG_done (by kernel_rfl) ?_ _
  refine NoPanic.normal ?_
  --END solve_yes09
  have h3 := set3 H7L.out.2.2.1 (.int .i64 (c : Int)) (.int .i64 (d : Int)) (.slice X L L)
  obtain ⟨w29, hw29⟩ : ∃ x : World, ((w6.setCell ⟨ga + 1 + 1, 0, none⟩ (.int .i64 (c : Int))).setCell ⟨ga + 1 + 1, 1, none⟩ (.int .i64 (d : Int))).setCell ⟨ga + 1 + 1, 2, none⟩ (.slice X L L) = x := ⟨_, rfl⟩
  rw [hw29] at h3 ⊢
  obtain ⟨⟨e0, e1, e2⟩, _⟩ := cells3 h3.1
  have H3R := Lib.hid h3
  clear h3 hw29
  go_wp2_with fail
  refine bodyPost_ret (v := .tuple #[.agg #[.int .i64 (c : Int), .int .i64 (d : Int), .slice X L L], .int .i64 0]) (by simp [results, Try.results21, go_sem, e0, e1, e2]) rfl ?_
  have hxo := fun k (h : Bk X k) => (own_bk H3.out.2 h).1
  have hn := H2.out.nums
  have hsz := H2.out.below.size
  have hbd := nextN (Mem.start w29) 1
  have hwo := (H6.out.1.fr H3R.out.2 (fun g e1 e2 => by have := hxo g e1; omega)).keep hbd
  refine ⟨X, L, by rw [HQ.out.1], by rw [HQ.out.1]; exact Nat.le_refl _, ⟨?_, fun b o e hl => ?_⟩, (H6.out.2.1.fr H3R.out.2 (by have := HG.out; have := HP.out.lt; omega)).keep hbd, (H7L.out.2.2.2.2.trans H3R.out.2 fun k hk e => by have := HG.out; omega).trans (Fr.quiet (S := fun _ => False) hbd) fun _ _ h => h.elim⟩
  ·rw [H6L.out.2.2]; exact head_bytes hwo L
  ·rcases Own.form H3.out.2 with ⟨e3, _⟩ | ⟨g', e3, hb, _⟩
   ·rw [e] at e3; cases e3
   ·rw [e] at e3; injection e3 with e3; have := congrArg Addr.block e3; dsimp only at this; omega
/-- Does Solve refuse for its sizes? -/
def solB (R C : Int) (n : Nat) (R' C' : Int) (n' : Nat) : Bool := rightB R C n && rightB R' C' n' && R == R'
theorem solve_bad (w : World) (F : Value) (R C R' C' : Int) (A A' : Option Addr) (n cap n' cap' : Nat) (h : solB R C n R' C' n' = false) :
    Calls Try.prog 21 #[F, .agg #[.int .i64 R, .int .i64 C, .slice A n cap], .agg #[.int .i64 R', .int .i64 C', .slice A' n' cap']] w (ErrM w 50) := by
 cases h1 : rightB R C n with
 | false => exact solve_bad1 w F R C R' C' A A' n cap n' cap' h1
 | true =>
  cases h2 : rightB R' C' n' with
  | false => exact solve_bad2 w F R C R' C' A A' n cap n' cap' h1 h2
  | true =>
   refine solve_bad3 w F R C R' C' A A' n cap n' cap' h1 h2 ?_
   unfold solB at h
   rw [h1, h2] at h
   simpa using h
/-- Is there a solution? -/
def solves (r c d : Nat) (a b : M) : Bool := decide ((redTo r a b c).at_ = c) && !anyNz ((flat r d (redTo r a b c).B).drop (c * d))
theorem solve_no (w : World) (p : Nat) (hp : Fld w p) (r c d : Nat) (A A' : Option Addr) (n cap n' cap' : Nat) (a b : M) (hrt : rightB r c n = true) (hrt2 : rightB r d n' = true) (hrd : r ≤ 100 ∧ c ≤ 100 ∧ d ≤ 100) (hA : In w p A (flat r c a)) (hB : In w p A' (flat r d b)) (h : solves r c d a b = false) :
    Calls Try.prog 21 #[fptr (some p), .agg #[.int .i64 (r : Int), .int .i64 (c : Int), .slice A n cap], .agg #[.int .i64 (r : Int), .int .i64 (d : Int), .slice A' n' cap']] w (ErrF w p 51) := by
 have hat := redTo_at (A := a) (B := b) (r := r) c
 by_cases hk : (redTo r a b c).at_ = c
 ·refine solve_no2 w p hp r c d A A' n cap n' cap' a b hrt hrt2 hrd hA hB hk ?_
  unfold solves at h
  rw [decide_eq_true hk] at h
  simpa using h
 ·exact solve_no1 w p hp r c d A A' n cap n' cap' a b hrt hrt2 hrd hA hB (by omega)
theorem solve_ok (w : World) (p : Nat) (hp : Fld w p) (r c d : Nat) (A A' : Option Addr) (n cap n' cap' : Nat) (a b : M) (hrt : rightB r c n = true) (hrt2 : rightB r d n' = true) (hrd : r ≤ 100 ∧ c ≤ 100 ∧ d ≤ 100) (hA : In w p A (flat r c a)) (hB : In w p A' (flat r d b)) (h : solves r c d a b = true) :
    Calls Try.prog 21 #[fptr (some p), .agg #[.int .i64 (r : Int), .int .i64 (c : Int), .slice A n cap], .agg #[.int .i64 (r : Int), .int .i64 (d : Int), .slice A' n' cap']] w (NewF w p c d (redTo r a b c).B) := by
 unfold solves at h
 rw [Bool.and_eq_true, decide_eq_true_iff, Bool.not_eq_true'] at h
 exact solve_yes w p hp r c d A A' n cap n' cap' a b hrt hrt2 hrd hA hB h.1 h.2
end Go.Proofs.Ythdapoipfnnaeaa.MxW
/- Inverse. -/
namespace Go.Proofs.Ythdapoipfnnaeaa.MxW
open Go.RowKit Go.Shelf Mem Gf FdW Mx Rng
open PlW (In)
set_option linter.unusedVariables false

set_option maxRecDepth 100000 in
set_option maxHeartbeats 1000000 in
theorem inv_bad (w : World) (F : Value) (R C : Int) (A : Option Addr) (n cap : Nat) (h : (rightB R C n && R == C) = false) : Calls Try.prog 15 #[F, .agg #[.int .i64 R, .int .i64 C, .slice A n cap]] w (ErrM w 50) := by
 obtain ⟨wa, ga, ha, hwa, hga⟩ := boxed w #[.int .i64 R, .int .i64 C, .slice A n cap]
 obtain ⟨w1, g0, h1, hw1, hg0⟩ := boxed wa zmx
 have HWA := Lib.hid hwa
 have HW1 := Lib.hid (show wa.alloc (.cells #[.int .i64 0, .int .i64 0, .slice none 0 0] 27) = w1 from hw1)
 have hg1 : g0 = ga + 1 := by have := ha.2.2; omega
 have H1 := Lib.hid (show Below w.heap.size w w1 ∧ Blk w1 ga 27 #[.int .i64 R, .int .i64 C, .slice A n cap] ∧ Blk w1 g0 27 zmx ∧ w.heap.size ≤ g0 from ⟨next ha.1 h1.1, ha.2.1.keep h1.1, h1.2.1, by omega⟩)
 have HG := Lib.hid (And.intro hga hg1.symm)
 have fin : ∀ (W : World), Below w.heap.size w W → Blk W g0 27 zmx → w.heap.size ≤ g0 → Blk (((W.setCell ⟨g0, 0, none⟩ (.int .i64 0)).setCell ⟨g0, 1, none⟩ (.int .i64 0)).setCell ⟨g0, 2, none⟩ (.slice none 0 0)) g0 27 zmx ∧ Below w.heap.size w (((W.setCell ⟨g0, 0, none⟩ (.int .i64 0)).setCell ⟨g0, 1, none⟩ (.int .i64 0)).setCell ⟨g0, 2, none⟩ (.slice none 0 0)) := fun W hb hB hl => by
  have h3 := set3 hB (.int .i64 0) (.int .i64 0) (.slice none 0 0)
  exact ⟨h3.1, hb.trans (h3.2.below hb.size fun k e => by rw [e]; exact hl)⟩
 have FIN := Lib.hid fin
 clear ha hwa hga h1 hw1 hg0 hg1 fin
 cases hrt : rightB R C n with
 | false =>
  have HRT := Lib.hid hrt
  clear h hrt
  go_enter Try.func15, Try.ntmps15
  go_wp2_with fail
  rw [HWA.out, HW1.out, HG.out.1, HG.out.2]
  refine (right_any w1 _ _ A n cap).mono ?_
  rintro e w2 ⟨rfl, hb⟩
  rw [HRT.out]
  have H2 := Lib.hid (And.intro (next H1.out.1 hb) (H1.out.2.2.1.keep hb))
  obtain ⟨⟨d0, d1, d2⟩, f0, f1, f2⟩ := cells3 H2.out.2
  clear hb
  go_wp2_with fail
  have h3 := FIN.out w2 H2.out.1 H2.out.2 H1.out.2.2.2
  obtain ⟨w3, hw3⟩ : ∃ x : World, ((w2.setCell ⟨g0, 0, none⟩ (.int .i64 0)).setCell ⟨g0, 1, none⟩ (.int .i64 0)).setCell ⟨g0, 2, none⟩ (.slice none 0 0) = x := ⟨_, rfl⟩
  rw [hw3] at h3 ⊢
  obtain ⟨⟨e0, e1, e2⟩, _⟩ := cells3 h3.1
  exact bodyPost_ret (v := .tuple #[.agg #[.int .i64 0, .int .i64 0, .slice none 0 0], .int .i64 50]) (by simp [results, Try.results15, go_sem, e0, e1, e2]) rfl ⟨rfl, h3.2⟩
 | true =>
  have HRT := Lib.hid hrt
  have hne : (R != C) = true := by rw [hrt] at h; simpa using h
  clear h hrt
  go_enter Try.func15, Try.ntmps15
  go_wp2_with fail
  rw [HWA.out, HW1.out, HG.out.1, HG.out.2]
  refine (right_any w1 _ _ A n cap).mono ?_
  rintro e w2 ⟨rfl, hb⟩
  rw [HRT.out]
  have H2 := Lib.hid (And.intro (next H1.out.1 hb) (H1.out.2.2.1.keep hb))
  obtain ⟨⟨d0, d1, d2⟩, f0, f1, f2⟩ := cells3 H2.out.2
  obtain ⟨⟨a0, a1, a2⟩, _⟩ := cells3 (H1.out.2.1.keep hb)
  clear hb
  go_wp2_with fail
  have h3 := FIN.out w2 H2.out.1 H2.out.2 H1.out.2.2.2
  obtain ⟨w3, hw3⟩ : ∃ x : World, ((w2.setCell ⟨g0, 0, none⟩ (.int .i64 0)).setCell ⟨g0, 1, none⟩ (.int .i64 0)).setCell ⟨g0, 2, none⟩ (.slice none 0 0) = x := ⟨_, rfl⟩
  rw [hw3] at h3 ⊢
  obtain ⟨⟨e0, e1, e2⟩, _⟩ := cells3 h3.1
  exact bodyPost_ret (v := .tuple #[.agg #[.int .i64 0, .int .i64 0, .slice none 0 0], .int .i64 50]) (by simp [results, Try.results15, go_sem, e0, e1, e2]) rfl ⟨rfl, h3.2⟩
/-- Square ones. -/
theorem in_nw {B p : Nat} {w : World} {A : Option Addr} {l : List UInt8} (h : Nw B w A l) (hp : p < B) : In w p A l := ⟨h.1, fun b o e hl => by have := h.2 b o e hl; omega⟩
theorem right_sq {r : Nat} (h : r ≤ 100) : rightB r r (r * r) = true := by
 unfold rightB
 rw [decide_eq_true_iff]
 exact ⟨by omega, by omega, by omega, by omega, by simp⟩
theorem nw_fr {B g : Nat} {w w' : World} {A : Option Addr} {l : List UInt8} (h : Nw B w A l) (hf : Fr (fun k => k = g) w w') (hg : g < B) : Nw B w' A l := ⟨fun hl => by
 obtain ⟨b, off, e, hb, hc⟩ := h.1 hl
 have h1 := h.2 b off e (by rwa [List.length_map] at hl)
 exact ⟨b, off, e, Nat.lt_of_lt_of_le hb hf.size, fun j v hv => (World.cell?_of_block (hf.block b hb (by omega))).trans (hc j v hv)⟩, h.2⟩
set_option maxRecDepth 100000 in
set_option maxHeartbeats 2000000 in
theorem inv_ok (w : World) (p : Nat) (hp : Fld w p) (r : Nat) (A : Option Addr) (n cap : Nat) (a : M) (hrt : rightB r r n = true) (hr : r ≤ 100) (hA : In w p A (flat r r a)) (hz : solves r r r a idm = true) :
    Calls Try.prog 15 #[fptr (some p), .agg #[.int .i64 (r : Int), .int .i64 (r : Int), .slice A n cap]] w (NewF w p r r (redTo r a idm r).B) := by
 obtain ⟨wa, ga, ha, hwa, hga⟩ := boxed w (mcells r r A n cap)
 obtain ⟨w1, g0, h1, hw1, hg0⟩ := boxed wa zmx
 have HWA := Lib.hid (show w.alloc (.cells #[.int .i64 (r : Int), .int .i64 (r : Int), .slice A n cap] 27) = wa from hwa)
 have HW1 := Lib.hid (show wa.alloc (.cells #[.int .i64 0, .int .i64 0, .slice none 0 0] 27) = w1 from hw1)
 have hg1 : g0 = ga + 1 := by have := ha.2.2; omega
 have H1 := Lib.hid (show Below w.heap.size w w1 ∧ Blk w1 ga 27 (mcells r r A n cap) ∧ Blk w1 g0 27 zmx ∧ w.heap.size = ga ∧ g0 = ga + 1 from ⟨next ha.1 h1.1, ha.2.1.keep h1.1, h1.2.1, hga, hg1⟩)
 have HG := Lib.hid (And.intro hga hg1.symm)
 have HRT := Lib.hid hrt
 have HP := Lib.hid hp
 have HR := Lib.hid hr
 have HI := Lib.hid hA
 have HZ := Lib.hid hz
 have hr4 : ¬ (4096 : Int) < (r : Int) := by omega
 clear ha hwa hga h1 hw1 hg0 hg1 hrt hp hr hA hz
 go_enter Try.func15, Try.ntmps15
 go_wp2_with fail
 rw [HWA.out, HW1.out, HG.out.1, HG.out.2]
 refine (right_any w1 _ _ A n cap).mono ?_
 rintro e w2 ⟨rfl, hb⟩
 rw [HRT.out]
 have H2 := Lib.hid (And.intro (next H1.out.1 hb) (And.intro (H1.out.2.1.keep hb) (H1.out.2.2.1.keep hb)))
 obtain ⟨⟨a0, a1, a2⟩, _⟩ := cells3 H2.out.2.1
 clear hb
 go_wp2_with fail
 clear a0 a1 a2
 --HELD inv_ok3
 refine wp_region_noPanic ?_
 refine wp_heldG (fun w' => Blk w' ga 27 (mcells r r A n cap)) [8] (by kernel_rfl) ?hs0 ?rg0
 case hs0 =>
  exact H2.out.2.1
 case rg0 =>
 intro hHeld
 refine pu 0 ?_
 refine tk 1 rfl (by intro w hSw; (try dsimp only at hSw); obtain ⟨⟨c0, c1, c2⟩, _⟩ := cells3 hSw; go_simp; try with_reducible rfl) ?_
 refine pu 2 ?_
 refine tk 3 rfl (by intro w hSw; (try dsimp only at hSw); obtain ⟨⟨c0, c1, c2⟩, _⟩ := cells3 hSw; go_simp; try with_reducible rfl) ?_
 refine on 4 rfl fun K hK => ?_
 go_simp
 refine (one_in _ r (by have := HR.out; omega)).mono ?_
 rintro e w3 ⟨X, cx, rfl, hle, hnw, hb⟩
 have hb3 := next H2.out.1 (next (nextN (Mem.start w2) 1) hb)
 have H3 := Lib.hid (And.intro hb3 hnw)
 have H3S := Lib.hid (show w.heap.size + 2 ≤ w3.heap.size from by have h1 := hb.size; have h2 := H2.out.2.2.lt; have h3 := H1.out.2.2.2; have h4 : w2.heap.size ≤ w3.heap.size := h1; omega)
 have H3G := Lib.hid (H2.out.2.2.keep (next (nextN (Mem.start w2) 1) hb))
 have HLE := Lib.hid (show w2.heap.size ≤ w3.heap.size from hb.size)
 clear hnw hle hb3
 try dsimp only
 refine hK.out _ _ (fun _ => hHeld.keep hb) fun hHeld => ?_
 clear hK K
 try simp only [pU, pU0, pA, pB, pC]
 have hHeld := hHeld (by kernel_rfl)
 refine on 5 rfl fun K hK => ?_
 clear hb
 go_simp
 have hin := in_nw (p := p) H3.out.2 (show p < w2.heap.size from by have := HP.out.lt; have := H2.out.1.size; omega)
 refine (solve_ok w3 p (HP.out.keep H3.out.1) r r r A X n cap (r * r) cx a idm HRT.out (right_sq HR.out) ⟨HR.out, HR.out, HR.out⟩ (HI.out.keep H3.out.1) hin HZ.out).mono ?_
 rintro e w4 ⟨Y, cy, rfl, hle, hnw, hF, hf⟩
 have H4L := Lib.hid (And.intro hle hnw)
 clear hle hnw
 have H4 := Lib.hid (And.intro hF (And.intro ((Fr.quiet (S := fun k => k = p) H3.out.1).trans hf fun _ _ h => h) (H3G.out.fr hf (by have := HP.out.lt; have := H1.out.2.2.2; omega))))
 clear hin hF
 try dsimp only
 refine hK.out _ _ (fun _ => hHeld.fr hf (by have := HP.out.lt; have := H1.out.2.2.2; omega)) fun hHeld => ?_
 clear hK K
 try simp only [pU, pU0, pA, pB, pC]
 have hHeld := hHeld (by kernel_rfl)
 refine pu 6 ?_
 refine pu 7 ?_
 refine on 8 rfl fun K hK => ?_
 obtain ⟨⟨d0, d1, d2⟩, f0, f1, f2⟩ := cells3 H4.out.2.2
 go_simp
 try dsimp only
 refine hK.out _ _ ?_ (fun hHeld => ?_)
 ·exact fun h => (st_no (by kernel_rfl) h).elim
 clear hK K
 try simp only [pU, pU0, pA, pB, pC]
 clear hHeld
 refine puG 9 ⟨_, _, _, _, _, _⟩ (v := ?_) ?_ (fun h => (st_no (by kernel_rfl) h).elim) ?_
 rotate_left
 ·intro w hSw
  try dsimp only at hSw
  go_simp
  try with_reducible rfl
 try simp only [pU, pU0, pA, pB, pC]
 refine wpAnyG_done (by kernel_rfl) ?_ _
 refine NoPanic.normal ?_
 --END inv_ok3
 have h5 := set3 H4.out.2.2 (.int .i64 (r : Int)) (.int .i64 (r : Int)) (.slice Y (r * r) cy)
 obtain ⟨w5, hw5⟩ : ∃ x : World, ((w4.setCell ⟨g0, 0, none⟩ (.int .i64 (r : Int))).setCell ⟨g0, 1, none⟩ (.int .i64 (r : Int))).setCell ⟨g0, 2, none⟩ (.slice Y (r * r) cy) = x := ⟨_, rfl⟩
 rw [hw5] at h5 ⊢
 obtain ⟨⟨e0, e1, e2⟩, _⟩ := cells3 h5.1
 have H5 := Lib.hid h5.2
 clear h5 hw5
 go_wp2_with fail
 refine bodyPost_ret (v := .tuple #[.agg #[.int .i64 (r : Int), .int .i64 (r : Int), .slice Y (r * r) cy], .int .i64 0]) (by simp [results, Try.results15, go_sem, e0, e1, e2]) rfl ?_
 have hg := H1.out.2.2.2
 have hpl := HP.out.lt
 refine ⟨Y, cy, rfl, H4L.out.1, ⟨?_, fun b o e hl => ?_⟩, H4.out.1.fr H5.out (by omega), H4.out.2.1.trans H5.out fun k hk e => by omega⟩
 ·exact (nw_fr H4L.out.2 H5.out (by have := H2.out.1.size; have := H3S.out; omega)).1
 ·have h1 := H4L.out.2.2 b o e hl
  have h2 := H3S.out
  omega
set_option maxRecDepth 100000 in
set_option maxHeartbeats 2000000 in
theorem inv_no (w : World) (p : Nat) (hp : Fld w p) (r : Nat) (A : Option Addr) (n cap : Nat) (a : M) (hrt : rightB r r n = true) (hr : r ≤ 100) (hA : In w p A (flat r r a)) (hz : solves r r r a idm = false) :
    Calls Try.prog 15 #[fptr (some p), .agg #[.int .i64 (r : Int), .int .i64 (r : Int), .slice A n cap]] w (ErrF w p 51) := by
 obtain ⟨wa, ga, ha, hwa, hga⟩ := boxed w (mcells r r A n cap)
 obtain ⟨w1, g0, h1, hw1, hg0⟩ := boxed wa zmx
 have HWA := Lib.hid (show w.alloc (.cells #[.int .i64 (r : Int), .int .i64 (r : Int), .slice A n cap] 27) = wa from hwa)
 have HW1 := Lib.hid (show wa.alloc (.cells #[.int .i64 0, .int .i64 0, .slice none 0 0] 27) = w1 from hw1)
 have hg1 : g0 = ga + 1 := by have := ha.2.2; omega
 have H1 := Lib.hid (show Below w.heap.size w w1 ∧ Blk w1 ga 27 (mcells r r A n cap) ∧ Blk w1 g0 27 zmx ∧ w.heap.size = ga ∧ g0 = ga + 1 from ⟨next ha.1 h1.1, ha.2.1.keep h1.1, h1.2.1, hga, hg1⟩)
 have HG := Lib.hid (And.intro hga hg1.symm)
 have HRT := Lib.hid hrt
 have HP := Lib.hid hp
 have HR := Lib.hid hr
 have HI := Lib.hid hA
 have HZ := Lib.hid hz
 have hr4 : ¬ (4096 : Int) < (r : Int) := by omega
 clear ha hwa hga h1 hw1 hg0 hg1 hrt hp hr hA hz
 go_enter Try.func15, Try.ntmps15
 go_wp2_with fail
 rw [HWA.out, HW1.out, HG.out.1, HG.out.2]
 refine (right_any w1 _ _ A n cap).mono ?_
 rintro e w2 ⟨rfl, hb⟩
 rw [HRT.out]
 have H2 := Lib.hid (And.intro (next H1.out.1 hb) (And.intro (H1.out.2.1.keep hb) (H1.out.2.2.1.keep hb)))
 obtain ⟨⟨a0, a1, a2⟩, _⟩ := cells3 H2.out.2.1
 clear hb
 go_wp2_with fail
 clear a0 a1 a2
 --HELD inv_no3
 refine wp_region_noPanic ?_
 refine wp_heldG (fun w' => Blk w' ga 27 (mcells r r A n cap)) [8] (by kernel_rfl) ?hs0 ?rg0
 case hs0 =>
  exact H2.out.2.1
 case rg0 =>
 intro hHeld
 refine pu 0 ?_
 refine tk 1 rfl (by intro w hSw; (try dsimp only at hSw); obtain ⟨⟨c0, c1, c2⟩, _⟩ := cells3 hSw; go_simp; try with_reducible rfl) ?_
 refine pu 2 ?_
 refine tk 3 rfl (by intro w hSw; (try dsimp only at hSw); obtain ⟨⟨c0, c1, c2⟩, _⟩ := cells3 hSw; go_simp; try with_reducible rfl) ?_
 refine on 4 rfl fun K hK => ?_
 go_simp
 refine (one_in _ r (by have := HR.out; omega)).mono ?_
 rintro e w3 ⟨X, cx, rfl, hle, hnw, hb⟩
 have hb3 := next H2.out.1 (next (nextN (Mem.start w2) 1) hb)
 have H3 := Lib.hid (And.intro hb3 hnw)
 have H3S := Lib.hid (show w.heap.size + 2 ≤ w3.heap.size from by have h1 := hb.size; have h2 := H2.out.2.2.lt; have h3 := H1.out.2.2.2; have h4 : w2.heap.size ≤ w3.heap.size := h1; omega)
 have H3G := Lib.hid (H2.out.2.2.keep (next (nextN (Mem.start w2) 1) hb))
 have HLE := Lib.hid (show w2.heap.size ≤ w3.heap.size from hb.size)
 clear hnw hle hb3
 try dsimp only
 refine hK.out _ _ (fun _ => hHeld.keep hb) fun hHeld => ?_
 clear hK K
 try simp only [pU, pU0, pA, pB, pC]
 have hHeld := hHeld (by kernel_rfl)
 refine on 5 rfl fun K hK => ?_
 clear hb
 go_simp
 have hin := in_nw (p := p) H3.out.2 (show p < w2.heap.size from by have := HP.out.lt; have := H2.out.1.size; omega)
 refine (solve_no w3 p (HP.out.keep H3.out.1) r r r A X n cap (r * r) cx a idm HRT.out (right_sq HR.out) ⟨HR.out, HR.out, HR.out⟩ (HI.out.keep H3.out.1) hin HZ.out).mono ?_
 rintro e w4 ⟨rfl, hF, hf⟩
 have H4 := Lib.hid (And.intro hF (And.intro ((Fr.quiet (S := fun k => k = p) H3.out.1).trans hf fun _ _ h => h) (H3G.out.fr hf (by have := HP.out.lt; have := H1.out.2.2.2; omega))))
 clear hin hF
 try dsimp only
 refine hK.out _ _ (fun _ => hHeld.fr hf (by have := HP.out.lt; have := H1.out.2.2.2; omega)) fun hHeld => ?_
 clear hK K
 try simp only [pU, pU0, pA, pB, pC]
 have hHeld := hHeld (by kernel_rfl)
 refine pu 6 ?_
 refine pu 7 ?_
 refine on 8 rfl fun K hK => ?_
 obtain ⟨⟨d0, d1, d2⟩, f0, f1, f2⟩ := cells3 H4.out.2.2
 go_simp
 try dsimp only
 refine hK.out _ _ ?_ (fun hHeld => ?_)
 ·exact fun h => (st_no (by kernel_rfl) h).elim
 clear hK K
 try simp only [pU, pU0, pA, pB, pC]
 clear hHeld
 refine puG 9 ⟨_, _, _, _, _, _⟩ (v := ?_) ?_ (fun h => (st_no (by kernel_rfl) h).elim) ?_
 rotate_left
 ·intro w hSw
  try dsimp only at hSw
  go_simp
  try with_reducible rfl
 try simp only [pU, pU0, pA, pB, pC]
 refine wpAnyG_done (by kernel_rfl) ?_ _
 refine NoPanic.normal ?_
 --END inv_no3
 have h5 := set3 H4.out.2.2 (.int .i64 0) (.int .i64 0) (.slice none 0 0)
 obtain ⟨w5, hw5⟩ : ∃ x : World, ((w4.setCell ⟨g0, 0, none⟩ (.int .i64 0)).setCell ⟨g0, 1, none⟩ (.int .i64 0)).setCell ⟨g0, 2, none⟩ (.slice none 0 0) = x := ⟨_, rfl⟩
 rw [hw5] at h5 ⊢
 obtain ⟨⟨e0, e1, e2⟩, _⟩ := cells3 h5.1
 have H5 := Lib.hid h5.2
 clear h5 hw5
 go_wp2_with fail
 refine bodyPost_ret (v := .tuple #[.agg #[.int .i64 0, .int .i64 0, .slice none 0 0], .int .i64 51]) (by simp [results, Try.results15, go_sem, e0, e1, e2]) rfl ?_
 have hg := H1.out.2.2.2
 have hpl := HP.out.lt
 exact ⟨rfl, H4.out.1.fr H5.out (by omega), H4.out.2.1.trans H5.out fun k hk e => by omega⟩
end Go.Proofs.Ythdapoipfnnaeaa.MxW
/- Powers. -/
namespace Go.Proofs.Ythdapoipfnnaeaa.MxW
open Go.RowKit Go.Shelf Mem Gf FdW Mx Rng
open PlW (In)
set_option linter.unusedVariables false
attribute [local go_sem] Oper.semAt_some wide_fn

def powM (xs : List UInt8) : M := fun i k => pow (xs.getD i 0) (k : Int)
def powUp (xs : List UInt8) (i j : Nat) : M := fun x k => if x < i ∨ (x = i ∧ k < j) then powM xs x k else 0
/-- A new matrix; the field may have been made. -/
def NewMF (w : World) (p r c : Nat) (m : M) (e : Ending) (w' : World) : Prop := ∃ A cap, e = .returned (.agg #[.int .i64 (r : Int), .int .i64 (c : Int), .slice A (r * c) cap]) ∧ r * c ≤ cap ∧ Nw w.heap.size w' A (flat r c m) ∧ Fld w' p ∧ Fr (fun k => k = p) w w'
/-- While Powers goes on: its field gf, its places gb, its result g0. -/
structure PowI (w : World) (p gf gb g0 : Nat) (X : Option Addr) (n cap : Nat) (W : World) : Prop where
 fr : Fr (fun k => k = p) w W
 fld : Fld W p
 ff : Blk W gf 24 (fcellv p)
 bx : Blk W gb 22 #[.slice X n cap]
 res : Blk W g0 27 zmx
structure PowR (w : World) (p gf gb g0 g7 B g r c : Nat) (X : Option Addr) (n cap : Nat) (xs : List UInt8) (i j : Nat) (W : World) : Prop where
 st : PowI w p gf gb g0 X n cap W
 var : Blk W g7 27 (mcells r c (some ⟨g, 0, none⟩) (r * c) (r * c))
 row : Wm W B g (r * c) r c (powUp xs i j)
section
variable {w W W' : World} {p gf gb g0 g7 B g r c : Nat} {X : Option Addr} {n cap : Nat} {xs : List UInt8} {i j : Nat}
theorem PowI.keep (h : PowI w p gf gb g0 X n cap W) (hb : Below W.heap.size W W') : PowI w p gf gb g0 X n cap W' :=
 ⟨h.fr.trans (Fr.quiet (S := fun _ => False) hb) fun _ _ h => h.elim, h.fld.keep hb, h.ff.keep hb, h.bx.keep hb, h.res.keep hb⟩
theorem PowR.keep (h : PowR w p gf gb g0 g7 B g r c X n cap xs i j W) (hb : Below W.heap.size W W') : PowR w p gf gb g0 g7 B g r c X n cap xs i j W' := ⟨h.st.keep hb, h.var.keep hb, h.row.keep hb⟩
theorem PowR.fr_ {S : Nat → Prop} (h : PowR w p gf gb g0 g7 B g r c X n cap xs i j W) (hf : Fr S W W') (hS : ∀ k, S k → w.heap.size ≤ k) (hp : p < w.heap.size) (hg : ¬ S gf ∧ ¬ S gb ∧ ¬ S g0 ∧ ¬ S g7 ∧ ¬ S g) : PowR w p gf gb g0 g7 B g r c X n cap xs i j W' :=
 ⟨⟨h.st.fr.trans hf fun k hk hs => absurd (hS k hs) (by omega), h.st.fld.fr hf fun hs => absurd (hS p hs) (by omega), h.st.ff.fr hf hg.1, h.st.bx.fr hf hg.2.1, h.st.res.fr hf hg.2.2.1⟩, h.var.fr hf hg.2.2.2.1, h.row.fr hf hg.2.2.2.2⟩
theorem PowR.field (h : PowR w p gf gb g0 g7 B g r c X n cap xs i j W) (hf : Fr (fun k => k = p) W W') (hF : Fld W' p) (hg : gf ≠ p ∧ gb ≠ p ∧ g0 ≠ p ∧ g7 ≠ p ∧ g ≠ p) : PowR w p gf gb g0 g7 B g r c X n cap xs i j W' :=
 ⟨⟨h.st.fr.trans hf fun k _ hs => hs, hF, h.st.ff.fr hf hg.1, h.st.bx.fr hf hg.2.1, h.st.res.fr hf hg.2.2.1⟩, h.var.fr hf hg.2.2.2.1, h.row.fr hf hg.2.2.2.2⟩
theorem PowR.congr {i' j' : Nat} (h : PowR w p gf gb g0 g7 B g r c X n cap xs i j W) (e : ∀ x, x < r → ∀ k, k < c → powUp xs i j x k = powUp xs i' j' x k) : PowR w p gf gb g0 g7 B g r c X n cap xs i' j' W := ⟨h.st, h.var, h.row.congr e⟩
/-- One entry more. -/
theorem PowR.set (h : PowR w p gf gb g0 g7 B g r c X n cap xs i j W) (hi : i < r) (hj : j < c) (hg : w.heap.size ≤ g) (hp : p < w.heap.size) (hne : gf ≠ g ∧ gb ≠ g ∧ g0 ≠ g ∧ g7 ≠ g) : PowR w p gf gb g0 g7 B g r c X n cap xs i (j + 1) (W.setCell ⟨g, i * c + j, none⟩ (.int .u8 ((powM xs i j).toNat : Int))) := by
 have hf := setF (p := g) W ⟨g, i * c + j, none⟩ rfl (.int .u8 ((powM xs i j).toNat : Int))
 refine ⟨⟨h.st.fr.trans hf fun k hk hs => absurd hs (by omega), h.st.fld.fr hf (by omega), h.st.ff.fr hf (by omega), h.st.bx.fr hf (by omega), h.st.res.fr hf (by omega)⟩, h.var.fr hf (by omega), (h.row.set hi hj (powM xs i j)).congr fun x _ k _ => ?_⟩
 unfold upd powUp
 by_cases e : x = i ∧ k = j
 ·obtain ⟨rfl, rfl⟩ := e
  rw [if_pos ⟨rfl, rfl⟩, if_pos (.inr ⟨rfl, by omega⟩)]
 ·rw [if_neg e]
  by_cases e2 : x < i ∨ x = i ∧ k < j
  ·rw [if_pos e2, if_pos (by omega)]
  ·rw [if_neg e2, if_neg (by omega)]
end
theorem powI_start (w : World) (p : Nat) (hp : Fld w p) (X : Option Addr) (n cap : Nat) : ∃ w1, PowI w p w.heap.size (w.heap.size + 1) (w.heap.size + 1 + 1) X n cap w1 ∧ Below w.heap.size w w1 ∧ w1.heap.size = w.heap.size + 3 ∧
    ((w.alloc (.cells #[fptr (some p)] 24)).alloc (.cells #[.slice X n cap] 22)).alloc (.cells #[.int .i64 0, .int .i64 0, .slice none 0 0] 27) = w1 := by
 obtain ⟨x1, g1, h1, e1, n1⟩ := boxedT w #[fptr (some p)] 24
 obtain ⟨x2, g2, h2, e2, n2⟩ := boxedT x1 #[.slice X n cap] 22
 obtain ⟨x3, g3, h3, e3, n3⟩ := boxed x2 #[.int .i64 0, .int .i64 0, .slice none 0 0]
 have k1 := h1.2.2; have k2 := h2.2.2; have k3 := h3.2.2
 rw [n1]
 obtain rfl : g2 = g1 + 1 := by omega
 obtain rfl : g3 = g1 + 1 + 1 := by omega
 have b := next (next h1.1 h2.1) h3.1
 exact ⟨x3, ⟨Fr.quiet b, hp.keep b, (h1.2.1.keep h2.1).keep h3.1, h2.2.1.keep h3.1, h3.2.1⟩, by rw [← n1]; exact b, by omega, by rw [e1, e2, e3]⟩
/-- What Powers makes of its places and columns. -/
def PowE (A0 : Option Addr) (r0 cap0 : Nat) (A : Option Addr) (r cap : Nat) : Prop :=
 (decide ((65536 : Int) < (r0 : Int)) = false ∧ A0 = A ∧ r0 = r ∧ cap0 = cap) ∨ (decide ((65536 : Int) < (r0 : Int)) = true ∧ A = none ∧ r = 0 ∧ cap = 0)
/-- Are the columns left out? -/
def PowB (r : Nat) (cols : Int) : Prop := decide (cols < 0) = true ∨ decide ((65536 : Int) < cols) = true ∨ (0 < r ∧ decide ((16777216 : Int) / (r : Int) < cols) = true)
instance (r : Nat) (cols : Int) : Decidable (PowB r cols) := by unfold PowB; infer_instance
set_option maxRecDepth 100000 in
set_option maxHeartbeats 8000000 in
theorem pow_core (w : World) (p : Nat) (hp : Fld w p) (A0 : Option Addr) (r0 cap0 : Nat) (cols : Int) (A : Option Addr) (xs : List UInt8) (r cap : Nat) (hn : xs.length = r) (c : Nat) (hA : In w p A xs) (hr : r ≤ 1000 ∧ c ≤ 1000) (hE : PowE A0 r0 cap0 A r cap) (hC : PowB r cols ∧ c = 0 ∨ ¬ PowB r cols ∧ cols = (c : Int)) :
    Calls Try.prog 13 #[fptr (some p), .slice A0 r0 cap0, .int .i64 cols] w (NewMF w p r c (powM xs)) := by
 have hl : ((r * c : Nat) : Int) ≤ 1000000000 := by
  have k1 : r * c ≤ 1000 * 1000 := Nat.mul_le_mul (by omega) (by omega)
  omega
 refine of_wide ?_
 refine callsIn_of_wp_marks Try.func13 rfl trivial ?_ rfl
 refine wpIn_wide.2 ?_
 simp only [Try.ntmps13, List.size_toArray, List.length_cons, List.length_nil, Nat.reduceAdd, Nat.reduceSub, Array.replicate_succ, Array.replicate_zero, List.push_toArray, List.append_toArray, List.nil_append, List.cons_append]
 obtain ⟨w0, h1, hb1, hs1, hw1⟩ := powI_start w p hp A0 r0 cap0
 obtain ⟨gf, hgf⟩ : ∃ x, w.heap.size = x := ⟨_, rfl⟩
 rw [hgf] at h1
 have HW1 := Lib.hid hw1
 have H0 := Lib.hid (And.intro h1 (And.intro hb1 hs1))
 have HG := Lib.hid hgf
 have HA := Lib.hid hA
 have HP := Lib.hid hp
 have HRC := Lib.hid (show r ≤ 1000 ∧ c ≤ 1000 from by omega)
 have HN := Lib.hid (And.intro hn hl)
 have HE := Lib.hid hE
 have HC := Lib.hid hC
 clear hb1 hs1 hw1 hgf hA hp hn hl h1 hE hC hr
 go_upto_if 13 with fail
 show Code.wp _ _ _ _ (((w.alloc (.cells #[fptr (some p)] 24)).alloc (.cells #[.slice A0 r0 cap0] 22)).alloc (.cells #[.int .i64 0, .int .i64 0, .slice none 0 0] 27))
 rw [HW1.out, HG.out]
 go_cut [] from 11 to 56 (fun wx => PowI w p gf (gf + 1) (gf + 1 + 1) A r cap wx ∧ Below w.heap.size w wx ∧ wx.heap.size = w.heap.size + 3)
 case first =>
  have z0 := H0.out.1.bx.cell 0
  have z1 := H0.out.1.bx.frozen 0
  rcases HE.out with ⟨e, rfl, rfl, rfl⟩ | ⟨e, rfl, rfl, rfl⟩
  ·rw [e]
   go_wp2_with fail
   go_meet
   exact H0.out
  ·rw [e]
   go_wp2_with fail
   go_meet
   have hf := setF (p := gf + 1) w0 ⟨gf + 1, 0, none⟩ rfl (.slice none 0 0)
   have hap : w.heap.size = gf ∧ p < gf := ⟨HG.out, by have := HP.out.lt; have := HG.out; omega⟩
   refine ⟨⟨H0.out.1.fr.trans hf fun k hk e => absurd e (by omega), H0.out.1.fld.fr hf (by omega), H0.out.1.ff.fr hf (by omega), ?_, H0.out.1.res.fr hf (by omega)⟩, H0.out.2.1.trans (hf.below (by have := H0.out.2.2; omega) fun k e => by omega), by rw [World.size_setCell]; exact H0.out.2.2⟩
   exact H0.out.1.bx.set_ 0 (.slice none 0 0)
 case rest =>
 obtain ⟨h1, hb1, hs1⟩ := hcut
 obtain ⟨w1, hw1⟩ : ∃ x, wc = x := ⟨_, rfl⟩
 rw [hw1] at h1 hb1 hs1 ⊢
 have H1 := Lib.hid (And.intro h1 (And.intro hb1 hs1))
 clear hw1 h1 hb1 hs1 H0
 have z0 := H1.out.1.bx.cell 0
 go_upto_region 3 with fail
 obtain ⟨bb, hbb⟩ : ∃ b : Bool, (PowB r cols ↔ b = true) := ⟨decide (PowB r cols), by simp⟩
 have HB := Lib.hid hbb
 clear hbb
 go_cut [31] from 14 to 56 (fun s wx => s = .bool bb ∧ wx = w1)
 case first =>
  by_cases h1 : decide (cols < 0) = true
  ·have k : bb = true := HB.out.1 (.inl h1)
   go_wp2_with fail
   go_meet
   exact ⟨congrArg Value.bool k.symm, rfl⟩
  ·have h1 : decide (cols < 0) = false := by simpa using h1
   by_cases h2 : decide ((65536 : Int) < cols) = true
   ·have k : bb = true := HB.out.1 (.inr (.inl h2))
    go_wp2_with fail
    go_meet
    exact ⟨congrArg Value.bool k.symm, rfl⟩
   ·have h2 : decide ((65536 : Int) < cols) = false := by simpa using h2
    by_cases h3 : 0 < r
    ·have h4 : decide ((0 : Int) < (r : Int)) = true := decide_eq_true (by omega)
     have h5 : ¬ r = 0 := by omega
     have h6 : (0 : Int) < (r : Int) := by omega
     obtain ⟨qq, hqq⟩ : ∃ q, (16777216 : Int) / (r : Int) = q := ⟨_, rfl⟩
     cases h7 : decide (qq < cols) with
     | true =>
      have k : bb = true := HB.out.1 (.inr (.inr ⟨h3, by rw [hqq]; exact h7⟩))
      clear h3
      go_wp2_with fail
      go_meet
      exact ⟨congrArg Value.bool k.symm, rfl⟩
     | false =>
      have k : bb = false := by
       cases hb : bb with
       | false => rfl
       | true =>
        rcases HB.out.2 hb with e | e | e
        ·rw [h1] at e; cases e
        ·rw [h2] at e; cases e
        ·rw [hqq, h7] at e; cases e.2
      clear h3
      go_wp2_with fail
      go_meet
      exact ⟨congrArg Value.bool k.symm, rfl⟩
    ·have h4 : decide ((0 : Int) < (r : Int)) = false := decide_eq_false (by omega)
     have h5 : decide (0 < r) = false := decide_eq_false h3
     have k : bb = false := by
      cases hb : bb with
      | false => rfl
      | true =>
       rcases HB.out.2 hb with e | e | e
       ·rw [h1] at e; cases e
       ·rw [h2] at e; cases e
       ·exact absurd e.1 h3
     clear h3
     go_wp2_with fail
     go_meet
     exact ⟨congrArg Value.bool k.symm, rfl⟩
 case rest =>
 obtain ⟨hu, hw⟩ := hcut
 rw [hu, hw]
 clear hu hw
 go_upto_if 31 with fail
 go_cut [2] from 14 to 56 (fun s wx => s = .int .i64 (c : Int) ∧ wx = w1)
 case first =>
  rcases HC.out with ⟨k, rfl⟩ | ⟨k, rfl⟩
  ·rw [HB.out.1 k]
   go_wp2_with fail
   go_meet
   exact ⟨rfl, rfl⟩
  ·have e : bb = false := by
    cases hb : bb with
    | false => rfl
    | true => exact absurd (HB.out.2 hb) k
   rw [e]
   go_wp2_with fail
   go_meet
   exact ⟨rfl, rfl⟩
 case rest =>
 obtain ⟨hu, hw⟩ := hcut
 rw [hu, hw]
 clear hu hw
 go_wp2_with fail
 refine (none_any w1 r c HN.out.2).mono ?_
 rintro e w2 ⟨g, rfl, ho, hb⟩
 have H2 := Lib.hid (And.intro (H1.out.1.keep hb) (And.intro (show Wm w2 w1.heap.size g (r * c) r c (fun _ _ => 0) from ho) (show w1.heap.size ≤ w2.heap.size from hb.size)))
 clear ho hb
 go_wp2_with fail
 obtain ⟨w3, g7, h3, hw3, hg7⟩ := boxed w2 (mcells r c (some ⟨g, 0, none⟩) (r * c) (r * c))
 have HW3 := Lib.hid (show w2.alloc (.cells #[.int .i64 (r : Int), .int .i64 (c : Int), .slice (some ⟨g, 0, none⟩) (r * c) (r * c)] 27) = w3 from hw3)
 rw [HW3.out, hg7]
 have H3 := Lib.hid h3
 have HG7 := Lib.hid hg7
 clear hw3 h3 hg7
 refine (rows_any w3 _ _ _).mono ?_
 rintro e w4' ⟨rfl, rfl⟩
 obtain ⟨w4, bm, h4, hw4, hbm⟩ := boxed w3 (mcells r c (some ⟨g, 0, none⟩) (r * c) (r * c))
 have HW4 := Lib.hid (show w3.alloc (.cells #[.int .i64 (r : Int), .int .i64 (c : Int), .slice (some ⟨g, 0, none⟩) (r * c) (r * c)] 27) = w4 from hw4)
 rw [HW4.out, hbm]
 have hap : w.heap.size = gf ∧ w1.heap.size = gf + 3 ∧ w1.heap.size ≤ g ∧ g < g7 ∧ bm = g7 + 1 ∧ w4.heap.size = bm + 1 ∧ p < gf := by
  have k1 := H1.out.2.2; have k2 := H2.out.2.1.form; have k3 := HG7.out; have k4 := H3.out.2.2; have k5 := h4.2.2; have k6 := HP.out.lt; have k7 := HG.out
  omega
 have HAP := Lib.hid hap
 have HI0 := Lib.hid (show PowR w p gf (gf + 1) (gf + 1 + 1) g7 w1.heap.size g r c A r cap xs 0 0 w4 from ⟨(H2.out.1.keep H3.out.1).keep h4.1, H3.out.2.1.keep h4.1, ((H2.out.2.1.keep H3.out.1).keep h4.1).congr fun x _ k _ => by unfold powUp; rw [if_neg (by omega)]⟩)
 have H4 := Lib.hid h4
 clear hw4 hbm h4 hap
 go_wp2_with fail
 refine (wpIn_wide (n := 5)).1 ?_
 refine wpIn_rows bm r c (some ⟨g, 0, none⟩) (r * c) (r * c) rfl H4.out.2.1 (by have := HRC.out; omega) rfl HN.out.2 (Nat.le_refl _) (fun k => k = g ∨ k = p) (by have := HAP.out; omega)
  (fun i W => PowR w p gf (gf + 1) (gf + 1 + 1) g7 w1.heap.size g r c A r cap xs i 0 W) ?hI HI0.out ?hround ?hdone
 case hI =>
  intro i W W' h hf
  have hap := HAP.out
  exact h.fr_ hf (fun k e => by omega) HP.out.lt ⟨by omega, by omega, by omega, by omega, by omega⟩
 case hround =>
  intro l i W hi hlt
  have HLT := Lib.hid hlt
  obtain ⟨Y, hY⟩ : ∃ Y, rowA (some ⟨g, 0, none⟩) c i = Y := ⟨_, rfl⟩
  rw [hY]
  have HY := Lib.hid hY
  clear hlt hi hY
  gi_wp2
  refine ⟨trivial, fun W2 hi2 => ?_⟩
  have H := Lib.hid hi2
  clear hi2
  gi_wp2
  gi_loopw [42] (fun x wr => ∃ j : Nat, x = .int .i64 (j : Int) ∧ j ≤ c ∧ PowR w p gf (gf + 1) (gf + 1 + 1) g7 w1.heap.size g r c A r cap xs i j wr ∧ Fr (fun k => k = g ∨ k = p) W2 wr) (fun x _ => c - (intOf x).toNat)
  case atStart => exact ⟨0, rfl, Nat.zero_le _, H.out, Fr.refl _ _⟩
  case round =>
   obtain ⟨j, rfl, hj, h1, h2⟩ := hrel
   by_cases hjc : j < c
   ·obtain ⟨q, hq⟩ : ∃ q, i * c = q := ⟨_, rfl⟩
    have hy := HY.out
    rw [rowA_some (by omega), Nat.zero_add, hq] at hy
    subst hy
    have HQ := Lib.hid hq
    have hji : (j : Int) < (c : Int) := by omega
    have hj0 : (0 : Int) ≤ (j : Int) := by omega
    have hj9 : (j : Int) ≤ 1000 := by have := HRC.out; omega
    have hir : (i : Int) < (r : Int) := by have := HLT.out; omega
    have hi0 : (0 : Int) ≤ (i : Int) := by omega
    obtain ⟨ab, off, hAe, hne, hx1⟩ : ∃ ab off, A = some ⟨ab, off, none⟩ ∧ ab ≠ p ∧ wr.cell? ⟨ab, off + i, none⟩ = some (.int .u8 ((xs.getD i 0).toNat : Int)) := by
     have hlt : i < xs.length := by rw [HN.out.1]; exact HLT.out
     obtain ⟨ab, off, e, _, hc⟩ := (HA.out.field h1.st.fr).1.at_ (k := i) hlt
     rw [List.getD_eq_getElem?_getD, List.getElem?_eq_getElem hlt]
     exact ⟨ab, off, e, HA.out.2 ab off e (by omega), hc⟩
    have HJ := Lib.hid (And.intro h1 (And.intro h2 (And.intro hjc (And.intro hAe hne))))
    obtain ⟨x, hx⟩ : ∃ x, xs.getD i 0 = x := ⟨_, rfl⟩
    rw [hx] at hx1
    have HX := Lib.hid hx
    clear h1 h2 hj hjc hq hx hAe hne
    gi_wp2
    --HELD pow_ok1r
    refine wpIn_only ?_
    refine wpIn_heldG (fun w' => Blk w' gf 24 (fcellv p) ∧ Blk w' (gf + 1) 22 #[.slice A r cap] ∧ w'.cell? ⟨ab, off + i, none⟩ = some (.int .u8 (x.toNat : Int))) [10] (by kernel_rfl) (by kernel_rfl) (fun ⟨_, _, h⟩ => h) ?hs0 ?rg0
    case hs0 =>
     exact ⟨HJ.out.1.st.ff, HJ.out.1.st.bx, hx1⟩
    case rg0 =>
    intro hHeld
    refine pu 0 ?_
    refine pu 1 ?_
    refine tk 2 rfl (by intro w hSw; (try dsimp only at hSw); have c0 := hSw.1.cell 0; simp only [fcellv, List.getElem?_toArray, List.getElem?_cons_zero] at c0; go_simp; try with_reducible rfl) ?_
    refine tk 3 rfl (by intro w hSw; (try dsimp only at hSw); have c0 : w.cell? ⟨gf + 1, 0, none⟩ = some (.slice A r cap) := hSw.2.1.cell 0; go_simp; try with_reducible rfl) ?_
    refine pu 4 ?_
    refine pu 5 (hv := by intro w _; have hAe := HJ.out.2.2.2.1; go_simp; try with_reducible rfl) ?_
    refine tk 6 rfl (by intro w hSw; (try dsimp only at hSw); have c0 := hSw.2.2; go_simp; try with_reducible rfl) ?_
    refine pu 7 ?_
    refine on 8 rfl fun K hK => ?_
    go_simp
    refine (pow_any _ (some p) (FldR.some (HJ.out.1.st.fld.keep (nextN (Mem.start wr) 1))) _ x rfl (j : Int)).mono ?_
    rintro e w6 ⟨rfl, hF, hf⟩
    have hap := HAP.out
    have hf2 : Fr (fun k => k = p) wr w6 := (Fr.quiet (nextN (Mem.start wr) 1)).trans hf (fun _ _ h => by injection h with h; exact h.symm)
    have H6 := Lib.hid (And.intro (HJ.out.1.field hf2 (hF p rfl) (by omega)) hf2)
    clear hF hf hf2 hap
    try dsimp only
    refine hK.out _ _ (fun _ => ⟨H6.out.1.st.ff, H6.out.1.st.bx, cellFr H6.out.2 hx1 HJ.out.2.2.2.2⟩) fun hHeld => ?_
    clear hK K
    try simp only [pU, pU0, pA, pB, pC]
    have hHeld := hHeld (by kernel_rfl)
    refine pu 9 ?_
    refine on 10 rfl fun K hK => ?_
    obtain ⟨k1, k2⟩ := H6.out.1.row.at_ HLT.out HJ.out.2.2.1
    rw [HQ.out] at k1 k2
    go_simp
    try dsimp only
    refine hK.out _ _ ?_ (fun hHeld => ?_)
    ·exact fun h => (st_no (by kernel_rfl) h).elim
    clear hK K
    try simp only [pU, pU0, pA, pB, pC]
    clear hHeld
    refine wpAnyG_done (by kernel_rfl) ?_ _
    refine onlyN_end ?_
    --END pow_ok1r
    gi_wp2
    go_roundw
    case rel =>
     have hs := H6.out.1.set HLT.out HJ.out.2.2.1 (by have := HAP.out; omega) HP.out.lt (by have := HAP.out; omega)
     rw [HQ.out, show powM xs i j = pow x (j : Int) from by rw [← HX.out]; rfl] at hs
     have hfr := (HJ.out.2.1.trans (H6.out.2.mono (S' := fun k => k = g ∨ k = p) fun k _ e => .inr e) fun _ _ h => h).trans ((setF (p := g) w6 ⟨g, q + j, none⟩ rfl (.int .u8 ((pow x (j : Int)).toNat : Int))).mono (S' := fun k => k = g ∨ k = p) fun k _ e => .inl e) fun _ _ h => h
     exact ⟨j + 1, by simp, HJ.out.2.2.1, hs, hfr⟩
    case measure => simp [intOf]; omega
   ·obtain rfl : c = j := by omega
    have HJ := Lib.hid (And.intro h1 h2)
    clear h1 h2 hj
    gi_wp2
    exact ⟨HJ.out.2, HJ.out.1.congr fun x _ k hk => by
     unfold powUp
     by_cases e : x < i ∨ x = i ∧ k < c
     ·rw [if_pos e, if_pos (by omega)]
     ·rw [if_neg e, if_neg (by omega)]⟩
 case hdone =>
  intro D W hD hi hK
  have H := Lib.hid hi
  have HK := Lib.hid (And.intro hD hK)
  obtain ⟨⟨c0, c1, c2⟩, _⟩ := cells3 hi.var
  obtain ⟨⟨d0, d1, d2⟩, f0, f1, f2⟩ := cells3 hi.st.res
  obtain ⟨W3, hW3⟩ : ∃ x : World, ((W.setCell ⟨gf + 1 + 1, 0, none⟩ (.int .i64 (r : Int))).setCell ⟨gf + 1 + 1, 1, none⟩ (.int .i64 (c : Int))).setCell ⟨gf + 1 + 1, 2, none⟩ (.slice (some ⟨g, 0, none⟩) (r * c) (r * c)) = x := ⟨_, rfl⟩
  have h3 := set3 hi.st.res (.int .i64 (r : Int)) (.int .i64 (c : Int)) (.slice (some ⟨g, 0, none⟩) (r * c) (r * c))
  rw [hW3] at h3
  have HW3 := Lib.hid hW3
  have HR := Lib.hid h3
  clear hi hK hD h3 hW3
  go_wp2_with fail
  rw [HW3.out]
  have hap := HAP.out
  have hd := HK.out.1
  have hKD : W3.heap[D]? = some (.deferred (some [])) := by
   have h1 := (Array.getElem?_eq_some_iff.1 HK.out.2).1
   rw [HR.out.2.block D h1 (by omega)]; exact HK.out.2
  have hst := shut_still (B := 0) (.deferred none) hKD rfl (Nat.zero_le _)
  obtain ⟨⟨e0, e1, e2⟩, _⟩ := cells3 (hst.blk HR.out.1)
  refine ⟨by simp, .inl ⟨_, _, rfl, run_takeDeferred hKD, ?_⟩⟩
  refine ⟨.agg #[.int .i64 (r : Int), .int .i64 (c : Int), .slice (some ⟨g, 0, none⟩) (r * c) (r * c)], ?_, ?_⟩
  ·simp [results, Try.results13, go_sem, e0, e1, e2]
  ·have hw := (H.out.row.fr HR.out.2 (by omega)).congr (m' := powM xs) fun x hx k _ => by unfold powUp; rw [if_pos (.inl hx)]
   refine ⟨some ⟨g, 0, none⟩, r * c, rfl, Nat.le_refl _, ?_, ?_, ?_⟩
   ·exact Nw.of_own (Own.down (Own.fr hw (put_fr (k := D) _) (fun g' e1 e2 => by injection e1 with e1; have := congrArg Addr.block e1; dsimp only at this; omega)) (by omega))
   ·exact (H.out.st.fld.fr HR.out.2 (by omega)).fr (put_fr (k := D) _) (by omega)
   ·exact (H.out.st.fr.trans HR.out.2 fun k hk e => absurd hk (by omega)).trans (put_fr (k := D) _) fun k hk e => absurd hk (by omega)
theorem pow_ok (w : World) (p : Nat) (hp : Fld w p) (A : Option Addr) (xs : List UInt8) (r cap : Nat) (hn : xs.length = r) (c : Nat) (hA : In w p A xs) (hr : r ≤ 1000 ∧ c ≤ 1000) :
    Calls Try.prog 13 #[fptr (some p), .slice A r cap, .int .i64 (c : Int)] w (NewMF w p r c (powM xs)) :=
 pow_core w p hp A r cap c A xs r cap hn c hA hr (.inl ⟨decide_eq_false (by omega), rfl, rfl, rfl⟩) (.inr ⟨by
  rintro (h | h | ⟨h0, h⟩)
  ·have := of_decide_eq_true h; omega
  ·have := of_decide_eq_true h; omega
  ·have h1 : (16777216 : Int) / (r : Int) ≥ 1000 := Int.le_ediv_of_mul_le (by omega) (by omega)
   have := of_decide_eq_true h; omega, rfl⟩)
theorem pow_ok3 (w : World) (p : Nat) (hp : Fld w p) (A : Option Addr) (xs : List UInt8) (r cap : Nat) (hn : xs.length = r) (cols : Int) (hA : In w p A xs) (hr : r ≤ 1000) (hc : cols < 0) :
    Calls Try.prog 13 #[fptr (some p), .slice A r cap, .int .i64 cols] w (NewMF w p r 0 (powM xs)) :=
 pow_core w p hp A r cap cols A xs r cap hn 0 hA ⟨hr, by omega⟩ (.inl ⟨decide_eq_false (by omega), rfl, rfl, rfl⟩) (.inl ⟨.inl (decide_eq_true hc), rfl⟩)
/-- Too many places: none. -/
theorem pow_far (w : World) (p : Nat) (hp : Fld w p) (A : Option Addr) (r cap : Nat) (c : Nat) (hr : 65536 < r) (hc : c ≤ 1000) :
    Calls Try.prog 13 #[fptr (some p), .slice A r cap, .int .i64 (c : Int)] w (NewMF w p 0 c (powM [])) :=
 pow_core w p hp A r cap c none [] 0 0 rfl c In.nil ⟨by omega, hc⟩ (.inr ⟨decide_eq_true (by omega), rfl, rfl, rfl⟩) (.inr ⟨by
  rintro (h | h | ⟨h0, h⟩)
  ·have := of_decide_eq_true h; omega
  ·have := of_decide_eq_true h; omega
  ·omega, rfl⟩)
/-- Too many columns for so many places: none. -/
theorem pow_wide (w : World) (p : Nat) (hp : Fld w p) (A : Option Addr) (xs : List UInt8) (r cap : Nat) (hn : xs.length = r) (cols : Int) (hA : In w p A xs) (hr : r ≤ 1000) (h0 : 0 < r) (hc : decide ((16777216 : Int) / (r : Int) < cols) = true) :
    Calls Try.prog 13 #[fptr (some p), .slice A r cap, .int .i64 cols] w (NewMF w p r 0 (powM xs)) :=
 pow_core w p hp A r cap cols A xs r cap hn 0 hA ⟨hr, by omega⟩ (.inl ⟨decide_eq_false (by omega), rfl, rfl, rfl⟩) (.inl ⟨.inr (.inr ⟨h0, hc⟩), rfl⟩)
end Go.Proofs.Ythdapoipfnnaeaa.MxW
/- Symmetric. -/
namespace Go.Proofs.Ythdapoipfnnaeaa.MxW
open Go.RowKit Go.Shelf Mem Gf FdW Mx Rng
open PlW (In)
set_option linter.unusedVariables false
attribute [local go_sem] Oper.semAt_some wide_fn

/-- Where row i of a packed one begins. -/
def offS (n : Nat) : Nat → Nat
 | 0 => 0
 | i + 1 => offS n i + (n - i)
def symM (n : Nat) (b : List UInt8) : M := fun x y => if x ≤ y then b.getD (offS n x + (y - x)) 0 else b.getD (offS n y + (x - y)) 0
/-- Rows ahead of i whole, row i up to column j. -/
def symUp (n : Nat) (b : List UInt8) (i j : Nat) : M := fun x y => if min x y < i ∨ (min x y = i ∧ max x y < j) then symM n b x y else 0
theorem offS_two (n : Nat) : ∀ i, i ≤ n → 2 * offS n i + i * i = i * (2 * n + 1)
 | 0, _ => by simp [offS]
 | i + 1, h => by
  have ih := offS_two n i (by omega)
  unfold offS
  obtain ⟨d, rfl⟩ : ∃ d, n = i + 1 + d := ⟨n - (i + 1), by omega⟩
  rw [show i + 1 + d - i = d + 1 by omega]
  simp only [Nat.add_mul, Nat.mul_add, Nat.one_mul, Nat.mul_one] at ih ⊢
  omega
theorem offS_len (n : Nat) : 2 * offS n n = n * (n + 1) := by
 have h := offS_two n n (Nat.le_refl _)
 simp only [Nat.mul_add, Nat.mul_one] at h ⊢
 have e : n * (2 * n) = 2 * (n * n) := by rw [← Nat.mul_assoc, Nat.mul_comm n 2, Nat.mul_assoc]
 omega
theorem offS_mono {n i k : Nat} (h : i ≤ k) : offS n i ≤ offS n k := by
 induction k with
 | zero => obtain rfl : i = 0 := by omega
           exact Nat.le_refl _
 | succ k ih =>
  by_cases e : i = k + 1
  ·rw [e]; exact Nat.le_refl _
  ·have := ih (by omega)
   show offS n i ≤ offS n k + (n - k)
   omega
theorem offS_lt {n i j : Nat} (hi : i < n) (hj : i ≤ j) (hjn : j < n) : offS n i + (j - i) < offS n n := by
 have h1 : offS n (i + 1) ≤ offS n n := offS_mono (by omega)
 have h2 : offS n (i + 1) = offS n i + (n - i) := rfl
 omega
theorem sym_step (n : Nat) (b : List UInt8) {i j : Nat} (hij : i ≤ j) (x y : Nat) : upd (upd (symUp n b i j) i j (b.getD (offS n i + (j - i)) 0)) j i (b.getD (offS n i + (j - i)) 0) x y = symUp n b i (j + 1) x y := by
 have hs : ∀ x y, (x = j ∧ y = i) ∨ (x = i ∧ y = j) → symM n b x y = b.getD (offS n i + (j - i)) 0 := fun x y h => by
  unfold symM
  rcases h with ⟨rfl, rfl⟩ | ⟨rfl, rfl⟩
  ·by_cases e : x ≤ y
   ·obtain rfl : x = y := by omega
    rw [if_pos (Nat.le_refl _)]
   ·rw [if_neg e]
  ·rw [if_pos hij]
 unfold upd symUp
 by_cases h1 : x = j ∧ y = i
 ·rw [if_pos h1, if_pos (by omega), hs x y (.inl h1)]
 ·rw [if_neg h1]
  by_cases h2 : x = i ∧ y = j
  ·rw [if_pos h2, if_pos (by omega), hs x y (.inr h2)]
  ·rw [if_neg h2]
   by_cases h3 : min x y < i ∨ min x y = i ∧ max x y < j
   ·rw [if_pos h3, if_pos (by omega)]
   ·rw [if_neg h3, if_neg (by omega)]
theorem sym_next (n : Nat) (b : List UInt8) (i x y : Nat) (hx : x < n) (hy : y < n) : symUp n b i n x y = symUp n b (i + 1) (i + 1) x y := by
 unfold symUp
 by_cases h : min x y < i ∨ min x y = i ∧ max x y < n
 ·rw [if_pos h, if_pos (by omega)]
 ·rw [if_neg h, if_neg (by omega)]
/-- While Symmetric goes on. -/
structure SymI (w : World) (g2 g3 g4 g6 B g n : Nat) (b : List UInt8) (i j : Nat) (W : World) : Prop where
 below : Below w.heap.size w W
 bn : Blk W g2 3 #[.int .i64 (n : Int)]
 b3 : ∃ Y l c, Blk W g3 22 #[.slice Y l c] ∧ l = b.length - (offS n i + (j - i)) ∧ l ≤ c ∧ c ≤ maxLen ∧ Bytes W w.heap.size Y (b.drop (offS n i + (j - i)))
 res : Blk W g4 27 zmx
 var : Blk W g6 27 (mcells n n (some ⟨g, 0, none⟩) (n * n) (n * n))
 row : Wm W B g (n * n) n n (symUp n b i j)
section
variable {w W W' : World} {g2 g3 g4 g6 B g n : Nat} {b : List UInt8} {i j : Nat}
theorem SymI.fr_ {S : Nat → Prop} (h : SymI w g2 g3 g4 g6 B g n b i j W) (hf : Fr S W W') (hS : ∀ k, S k → w.heap.size ≤ k) (hg : ¬ S g2 ∧ ¬ S g3 ∧ ¬ S g4 ∧ ¬ S g6 ∧ ¬ S g) : SymI w g2 g3 g4 g6 B g n b i j W' := by
 obtain ⟨Y, l, c, h1, h2, h3, h4, h5⟩ := h.b3
 exact ⟨h.below.trans (hf.below h.below.size hS), h.bn.fr hf hg.1, ⟨Y, l, c, h1.fr hf hg.2.1, h2, h3, h4, h5.below (hf.below h.below.size hS)⟩, h.res.fr hf hg.2.2.1, h.var.fr hf hg.2.2.2.1, h.row.fr hf hg.2.2.2.2⟩
theorem SymI.keep (h : SymI w g2 g3 g4 g6 B g n b i j W) (hb : Below W.heap.size W W') : SymI w g2 g3 g4 g6 B g n b i j W' :=
 h.fr_ (Fr.quiet (S := fun _ => False) hb) (fun _ h => h.elim) ⟨fun h => h, fun h => h, fun h => h, fun h => h, fun h => h⟩
theorem SymI.congr {i' j' : Nat} (h : SymI w g2 g3 g4 g6 B g n b i j W) (ho : offS n i + (j - i) = offS n i' + (j' - i')) (e : ∀ x, x < n → ∀ y, y < n → symUp n b i j x y = symUp n b i' j' x y) : SymI w g2 g3 g4 g6 B g n b i' j' W := by
 refine ⟨h.below, h.bn, ?_, h.res, h.var, h.row.congr e⟩
 have := h.b3
 rwa [ho] at this
end
set_option maxRecDepth 100000 in
set_option maxHeartbeats 40000000 in
theorem sym_bad (w : World) (n : Int) (A : Option Addr) (l cap : Nat) (hn : -9223372036854775808 ≤ n ∧ n ≤ 9223372036854775807) (h : n < 0 ∨ 65536 < n ∨ (0 ≤ n ∧ n ≤ 65536 ∧ (l : Int) ≠ n * (n + 1) / 2)) :
    Calls Try.prog 30 #[.int .i64 n, .slice A l cap] w (ErrM w 50) := by
 obtain ⟨x1, g1, h1, e1, n1⟩ := boxedT w #[.int .i64 n] 3
 obtain ⟨x2, g2, h2, e2, n2⟩ := boxedT x1 #[.slice A l cap] 22
 obtain ⟨w1, g0, h3, e3, n3⟩ := boxed x2 zmx
 have k1 := h1.2.2; have k2 := h2.2.2
 obtain rfl : g2 = g1 + 1 := by omega
 obtain rfl : g0 = g1 + 1 + 1 := by omega
 have H1 := Lib.hid (show Below w.heap.size w w1 ∧ Blk w1 g1 3 #[.int .i64 n] ∧ Blk w1 (g1 + 1) 22 #[.slice A l cap] ∧ Blk w1 (g1 + 1 + 1) 27 zmx from ⟨next (next h1.1 h2.1) h3.1, (h1.2.1.keep h2.1).keep h3.1, h2.2.1.keep h3.1, h3.2.1⟩)
 have HW1 := Lib.hid (show ((w.alloc (.cells #[.int .i64 n] 3)).alloc (.cells #[.slice A l cap] 22)).alloc (.cells #[.int .i64 0, .int .i64 0, .slice none 0 0] 27) = w1 from by rw [e1, e2]; exact e3)
 have HG := Lib.hid n1
 obtain ⟨⟨d0, d1, d2⟩, f0, f1, f2⟩ := cells3 H1.out.2.2.2
 have c1 : w1.cell? ⟨g1, 0, none⟩ = some (.int .i64 n) := H1.out.2.1.cell 0
 have c2 : w1.cell? ⟨g1 + 1, 0, none⟩ = some (.slice A l cap) := H1.out.2.2.1.cell 0
 obtain ⟨⟨e0, e1', e2'⟩, _⟩ := cells3 H1.out.2.2.2
 rw [← HG.out] at d0 d1 d2 f0 f1 f2 c1 c2
 rw [← HW1.out] at d0 d1 d2 f0 f1 f2 c1 c2
 have fin : ErrM w 50 (.returned (.tuple #[.agg #[.int .i64 0, .int .i64 0, .slice none 0 0], .int .i64 50])) w1 := ⟨rfl, H1.out.1⟩
 have FIN := Lib.hid fin
 clear h1 h2 h3 e1 e2 e3 n1 n2 n3 k1 k2 fin
 rcases h with h | h | ⟨h0, h6, hl⟩
 ·have z1 : decide (n < 0) = true := decide_eq_true h
  clear h hn
  go_enter Try.func30, Try.ntmps30
  go_wp2_with fail
  rw [HW1.out, HG.out]
  exact bodyPost_ret (v := .tuple #[.agg #[.int .i64 0, .int .i64 0, .slice none 0 0], .int .i64 50]) (by simp [results, Try.results30, go_sem, e0, e1', e2']) rfl FIN.out
 ·have z1 : decide (n < 0) = false := decide_eq_false (by omega)
  have z2 : decide (65536 < n) = true := decide_eq_true h
  clear h hn
  go_enter Try.func30, Try.ntmps30
  go_wp2_with fail
  rw [HW1.out, HG.out]
  exact bodyPost_ret (v := .tuple #[.agg #[.int .i64 0, .int .i64 0, .slice none 0 0], .int .i64 50]) (by simp [results, Try.results30, go_sem, e0, e1', e2']) rfl FIN.out
 ·have z1 : decide (n < 0) = false := decide_eq_false (by omega)
  have z2 : decide (65536 < n) = false := decide_eq_false (by omega)
  have q1 : wrap64 (n + 1) = n + 1 := by unfold wrap64; omega
  obtain ⟨P, hP⟩ : ∃ P, n * (n + 1) = P := ⟨_, rfl⟩
  have hP2 : 0 ≤ P ∧ P ≤ 65536 * 65537 := by
   obtain ⟨k, rfl⟩ : ∃ k : Nat, n = (k : Int) := ⟨n.toNat, by omega⟩
   have h1 : k * (k + 1) ≤ 65536 * 65537 := Nat.mul_le_mul (by omega) (by omega)
   have h2 : P = ((k * (k + 1) : Nat) : Int) := by rw [← hP, Int.natCast_mul]; rfl
   omega
  have q2 : wrap64 P = P := by unfold wrap64; omega
  have q3 : P.tdiv 2 = P / 2 := Int.tdiv_eq_ediv_of_nonneg hP2.1
  have q4 : wrap64 (P / 2) = P / 2 := by unfold wrap64; omega
  obtain ⟨Q, hQ⟩ : ∃ Q, P / 2 = Q := ⟨_, rfl⟩
  rw [hP, hQ] at hl
  rw [hQ] at q3 q4
  have hne : ((l : Int) != Q) = true := by simpa using hl
  clear h0 h6 hl hP2 hQ hn
  go_enter Try.func30, Try.ntmps30
  go_wp2_with fail
  rw [HW1.out, HG.out]
  exact bodyPost_ret (v := .tuple #[.agg #[.int .i64 0, .int .i64 0, .slice none 0 0], .int .i64 50]) (by simp [results, Try.results30, go_sem, e0, e1', e2']) rfl FIN.out
theorem SymI.step {w W : World} {g2 g3 g4 g6 B g n : Nat} {b : List UInt8} {i j : Nat} {Y Y' : Option Addr} {l c : Nat} (h : SymI w g2 g3 g4 g6 B g n b i j W) (hi : i < n) (hj : j < n) (hij : i ≤ j) (x : UInt8) (hx : b.getD (offS n i + (j - i)) 0 = x) (hg : w.heap.size ≤ g ∧ w.heap.size ≤ g3) (hne : g2 ≠ g ∧ g4 ≠ g ∧ g6 ≠ g ∧ g ≠ g3 ∧ g2 ≠ g3 ∧ g4 ≠ g3 ∧ g6 ≠ g3)
    (hY : Blk W g3 22 #[.slice Y l c]) (hl : l = b.length - (offS n i + (j - i))) (hl0 : 0 < l) (hlc : l ≤ c) (hc : c ≤ maxLen) (hY' : Bytes W w.heap.size Y' (b.drop (offS n i + (j - i) + 1))) :
    SymI w g2 g3 g4 g6 B g n b i (j + 1) (((W.setCell ⟨g, i * n + j, none⟩ (.int .u8 (x.toNat : Int))).setCell ⟨g, j * n + i, none⟩ (.int .u8 (x.toNat : Int))).setCell ⟨g3, 0, none⟩ (.slice Y' (l - 1) (c - 1))) := by
 have hf1 := setF (p := g) W ⟨g, i * n + j, none⟩ rfl (.int .u8 (x.toNat : Int))
 have hw1 := h.row.set hi hj x
 obtain ⟨W1, hW1⟩ : ∃ X : World, W.setCell ⟨g, i * n + j, none⟩ (.int .u8 (x.toNat : Int)) = X := ⟨_, rfl⟩
 rw [hW1] at hf1 hw1 ⊢
 have hf2 := setF (p := g) W1 ⟨g, j * n + i, none⟩ rfl (.int .u8 (x.toNat : Int))
 have hw2 := hw1.set hj hi x
 obtain ⟨W2, hW2⟩ : ∃ X : World, W1.setCell ⟨g, j * n + i, none⟩ (.int .u8 (x.toNat : Int)) = X := ⟨_, rfl⟩
 rw [hW2] at hf2 hw2 ⊢
 have hf := hf1.trans hf2 fun _ _ h => h
 have hf3 := setF (p := g3) W2 ⟨g3, 0, none⟩ rfl (.slice Y' (l - 1) (c - 1))
 have hb1 : Below w.heap.size w W2 := h.below.trans (hf.below h.below.size fun k e => by omega)
 have hbb : Below w.heap.size W (W2.setCell ⟨g3, 0, none⟩ (.slice Y' (l - 1) (c - 1))) := (hf.below h.below.size fun k e => by omega).trans (hf3.below (Nat.le_trans h.below.size hf.size) fun k e => by omega)
 refine ⟨h.below.trans hbb, (h.bn.fr hf (by omega)).fr hf3 (by omega), ⟨Y', l - 1, c - 1, (hY.fr hf (by omega)).set_ 0 _, ?_, by omega, by omega, ?_⟩, (h.res.fr hf (by omega)).fr hf3 (by omega), (h.var.fr hf (by omega)).fr hf3 (by omega), (hw2.fr hf3 (by omega)).congr fun u _ v _ => ?_⟩
 ·rw [hl]; omega
 ·rw [show offS n i + (j + 1 - i) = offS n i + (j - i) + 1 by omega]; exact hY'.below hbb
 ·rw [← hx]; exact sym_step n b hij u v
set_option maxRecDepth 100000 in
set_option maxHeartbeats 40000000 in
theorem sym_ok (w : World) (n : Nat) (hn : n ≤ 100) (A : Option Addr) (b : List UInt8) (l cap : Nat) (hl : b.length = l) (h2l : 2 * l = n * (n + 1)) (hcap : l ≤ cap) (hcm : cap ≤ maxLen) (hA : Bytes w w.heap.size A b) :
    Calls Try.prog 30 #[.int .i64 (n : Int), .slice A l cap] w (NewT w n n (symM n b)) := by
 have hq : ((n * n : Nat) : Int) ≤ 1000000000 := by
  have h1 : n * n ≤ 100 * 100 := Nat.mul_le_mul hn hn
  omega
 refine of_wide ?_
 refine callsIn_of_wp_marks Try.func30 rfl trivial ?_ rfl
 refine wpIn_wide.2 ?_
 simp only [Try.ntmps30, List.size_toArray, List.length_cons, List.length_nil, Nat.reduceAdd, Nat.reduceSub, Array.replicate_succ, Array.replicate_zero, List.push_toArray, List.append_toArray, List.nil_append, List.cons_append]
 obtain ⟨x1, g1, h1, e1, n1⟩ := boxedT w #[.int .i64 (n : Int)] 3
 obtain ⟨x2, g2, h2, e2, n2⟩ := boxedT x1 #[.slice A l cap] 22
 obtain ⟨w1, g0, h3, e3, n3⟩ := boxed x2 zmx
 have k1 := h1.2.2; have k2 := h2.2.2; have k3 := h3.2.2
 obtain rfl : g2 = g1 + 1 := by omega
 obtain rfl : g0 = g1 + 1 + 1 := by omega
 have H1 := Lib.hid (show Below w.heap.size w w1 ∧ Blk w1 g1 3 #[.int .i64 (n : Int)] ∧ Blk w1 (g1 + 1) 22 #[.slice A l cap] ∧ Blk w1 (g1 + 1 + 1) 27 zmx ∧ w1.heap.size = g1 + 3 from ⟨next (next h1.1 h2.1) h3.1, (h1.2.1.keep h2.1).keep h3.1, h2.2.1.keep h3.1, h3.2.1, by omega⟩)
 have HW1 := Lib.hid (show ((w.alloc (.cells #[.int .i64 (n : Int)] 3)).alloc (.cells #[.slice A l cap] 22)).alloc (.cells #[.int .i64 0, .int .i64 0, .slice none 0 0] 27) = w1 from by rw [e1, e2]; exact e3)
 have HG := Lib.hid n1
 have c1 : w1.cell? ⟨g1, 0, none⟩ = some (.int .i64 (n : Int)) := H1.out.2.1.cell 0
 have c2 : w1.cell? ⟨g1 + 1, 0, none⟩ = some (.slice A l cap) := H1.out.2.2.1.cell 0
 rw [← HG.out] at c1 c2
 rw [← HW1.out] at c1 c2
 have hl9 : l ≤ 10100 := by
  have h1 : n * (n + 1) ≤ 100 * 101 := Nat.mul_le_mul hn (by omega)
  omega
 have HL := Lib.hid (And.intro hn (And.intro hl (And.intro hcap (And.intro hcm hq))))
 have HOF := Lib.hid (show b.length = offS n n from by have h := offS_len n; rw [← h2l] at h; omega)
 have hP : (n : Int) * ((n : Int) + 1) = ((2 * l : Nat) : Int) := by rw [h2l, Int.natCast_mul]; rfl
 obtain ⟨P, hPP⟩ : ∃ P : Int, ((2 * l : Nat) : Int) = P := ⟨_, rfl⟩
 rw [hPP] at hP
 have hPl : P = 2 * (l : Int) := by omega
 have z1 : decide ((n : Int) < 0) = false := decide_eq_false (by omega)
 have z2 : decide ((65536 : Int) < (n : Int)) = false := decide_eq_false (by omega)
 have q3 : P.tdiv 2 = (l : Int) := by rw [Int.tdiv_eq_ediv_of_nonneg (by omega)]; omega
 have q5 : P / 2 = (l : Int) := by omega
 have q1 : wrap64 ((n : Int) + 1) = (n : Int) + 1 := by clear hP q3 q5; unfold wrap64; omega
 have q2 : wrap64 P = P := by clear q1 hP q3 q5; unfold wrap64; omega
 have q4 : wrap64 (l : Int) = (l : Int) := by clear q1 q2 hP q3 q5; unfold wrap64; omega
 clear hPl
 have HA := Lib.hid hA
 clear h1 h2 h3 e1 e2 e3 n1 n2 n3 k1 k2 k3 hn hl h2l hcap hcm hA hq hPP hl9
 go_wp2_with fail
 rw [HW1.out, HG.out]
 clear q1 q2 q3 q4 q5 hP c1 c2
 refine (none_any w1 n n HL.out.2.2.2.2).mono ?_
 rintro e w2 ⟨g, rfl, ho, hb⟩
 have H2 := Lib.hid (show Below w.heap.size w w2 ∧ Blk w2 g1 3 #[.int .i64 (n : Int)] ∧ Blk w2 (g1 + 1) 22 #[.slice A l cap] ∧ Blk w2 (g1 + 1 + 1) 27 zmx ∧ Wm w2 w1.heap.size g (n * n) n n (fun _ _ => 0) from ⟨next H1.out.1 hb, H1.out.2.1.keep hb, H1.out.2.2.1.keep hb, H1.out.2.2.2.1.keep hb, ho⟩)
 have HS2 := Lib.hid hb.size
 clear ho hb
 go_wp2_with fail
 obtain ⟨w3, g7, h3, hw3, hg7⟩ := boxed w2 (mcells n n (some ⟨g, 0, none⟩) (n * n) (n * n))
 have HW3 := Lib.hid (show w2.alloc (.cells #[.int .i64 (n : Int), .int .i64 (n : Int), .slice (some ⟨g, 0, none⟩) (n * n) (n * n)] 27) = w3 from hw3)
 rw [HW3.out, hg7]
 have H3 := Lib.hid h3
 have HG7 := Lib.hid hg7
 clear hw3 h3 hg7
 refine (rows_any w3 _ _ _).mono ?_
 rintro e w4' ⟨rfl, rfl⟩
 obtain ⟨w4, bm, h4, hw4, hbm⟩ := boxed w3 (mcells n n (some ⟨g, 0, none⟩) (n * n) (n * n))
 have HW4 := Lib.hid (show w3.alloc (.cells #[.int .i64 (n : Int), .int .i64 (n : Int), .slice (some ⟨g, 0, none⟩) (n * n) (n * n)] 27) = w4 from hw4)
 rw [HW4.out, hbm]
 have hap : w.heap.size = g1 ∧ w1.heap.size = g1 + 3 ∧ w1.heap.size ≤ g ∧ g < g7 ∧ bm = g7 + 1 ∧ w4.heap.size = bm + 1 := by
  have k1 := H1.out.2.2.2.2; have k2 := H2.out.2.2.2.2.form; have k3 := HG7.out; have k4 := H3.out.2.2; have k5 := h4.2.2; have k7 := HG.out
  omega
 have HAP := Lib.hid hap
 have HI0 := Lib.hid (show SymI w g1 (g1 + 1) (g1 + 1 + 1) g7 w1.heap.size g n b 0 0 w4 from
  ⟨next (next H2.out.1 H3.out.1) h4.1, (H2.out.2.1.keep H3.out.1).keep h4.1, ⟨A, l, cap, (H2.out.2.2.1.keep H3.out.1).keep h4.1, by show l = b.length - (0 + (0 - 0)); have := HL.out.2.1; omega, HL.out.2.2.1, HL.out.2.2.2.1, HA.out.below (next (next H2.out.1 H3.out.1) h4.1)⟩, (H2.out.2.2.2.1.keep H3.out.1).keep h4.1, H3.out.2.1.keep h4.1, ((H2.out.2.2.2.2.keep H3.out.1).keep h4.1).congr fun x _ k _ => by unfold symUp; rw [if_neg (by omega)]⟩)
 have H4 := Lib.hid h4
 clear hw4 hbm h4 hap
 go_wp2_with fail
 refine (wpIn_wide (n := 5)).1 ?_
 refine wpIn_rows bm n n (some ⟨g, 0, none⟩) (n * n) (n * n) rfl H4.out.2.1 (by have := HL.out; omega) rfl HL.out.2.2.2.2 (Nat.le_refl _) (fun k => k = g ∨ k = g1 + 1) (by have := HAP.out; omega)
  (fun i W => SymI w g1 (g1 + 1) (g1 + 1 + 1) g7 w1.heap.size g n b i i W) ?hI HI0.out ?hround ?hdone
 case hI =>
  intro i W W' h hf
  have hap := HAP.out
  exact h.fr_ hf (fun k e => by omega) ⟨by omega, by omega, by omega, by omega, by omega⟩
 case hround =>
  intro ln i W hi hlt
  have HLT := Lib.hid hlt
  obtain ⟨q1, hq1⟩ : ∃ q1, i * n = q1 := ⟨_, rfl⟩
  rw [show rowA (some ⟨g, 0, none⟩) n i = some ⟨g, q1, none⟩ from by rw [rowA_some (by omega), Nat.zero_add, hq1]]
  have HQ1 := Lib.hid hq1
  have hi9 : (i : Int) ≤ 1000 := by have := HL.out; omega
  have hi0 : (0 : Int) ≤ (i : Int) := by omega
  have hin : (i : Int) < (n : Int) := by omega
  clear hlt hi hq1
  gi_wp2
  refine ⟨trivial, fun W2 hi2 => ?_⟩
  have H := Lib.hid hi2
  clear hi2
  gi_wp2
  gi_loopw [9] (fun x wr => ∃ j : Nat, x = .int .i64 (j : Int) ∧ i ≤ j ∧ j ≤ n ∧ SymI w g1 (g1 + 1) (g1 + 1 + 1) g7 w1.heap.size g n b i j wr ∧ Fr (fun k => k = g ∨ k = g1 + 1) W2 wr) (fun x _ => n - (intOf x).toNat)
  case atStart => exact ⟨i, rfl, Nat.le_refl _, Nat.le_of_lt HLT.out, H.out, Fr.refl _ _⟩
  case round =>
   obtain ⟨j, rfl, hij, hj, h1, h2⟩ := hrel
   have cn : wr.cell? ⟨g1, 0, none⟩ = some (.int .i64 (n : Int)) := h1.bn.cell 0
   by_cases hjc : j < n
   ·obtain ⟨Y, l', c', hb3, hl', hlc, hcm, hby⟩ := h1.b3
    have hs := offS_lt HLT.out hij hjc
    rw [← HOF.out] at hs
    have hl0 : 0 < l' := by omega
    obtain ⟨ab, off, rfl, hab, hx1⟩ := hby.at_ (k := 0) (by rw [List.length_drop]; omega)
    rw [List.getElem_drop] at hx1
    obtain ⟨x, hx⟩ : ∃ x, b.getD (offS n i + (j - i)) 0 = x := ⟨_, rfl⟩
    rw [show b[offS n i + (j - i) + 0]'(by omega) = x from by rw [← hx, List.getD_eq_getElem?_getD, List.getElem?_eq_getElem hs]; rfl, Nat.add_zero] at hx1
    have hnext : Bytes wr w.heap.size (if c' = 1 then some ⟨ab, off, none⟩ else some ⟨ab, off + 1, none⟩) (b.drop (offS n i + (j - i) + 1)) := by
     by_cases e : c' = 1
     ·rw [if_pos e, List.drop_of_length_le (by omega)]; exact Bytes.nil
     ·rw [if_neg e]
      have := hby.drop 1
      rwa [List.drop_drop] at this
    obtain ⟨q2, hq2⟩ : ∃ q2, j * n = q2 := ⟨_, rfl⟩
    have HQ2 := Lib.hid hq2
    have hji : (j : Int) < (n : Int) := by omega
    have hj0 : (0 : Int) ≤ (j : Int) := by omega
    have hj9 : (j : Int) ≤ 1000 := by have := HL.out; omega
    have hl0i : (0 : Int) < (l' : Int) := by omega
    have HJ := Lib.hid (And.intro h1 (And.intro h2 (And.intro hjc hij)))
    have HY := Lib.hid (And.intro hb3 (And.intro hl' (And.intro hl0 (And.intro hlc (And.intro hcm hnext)))))
    have HX := Lib.hid (And.intro hx hab)
    clear h1 h2 hj hjc hij hb3 hl' hlc hcm hby hs hx hab hnext hq2
    gi_wp2
    --HELD sym_ok10
    refine wpIn_only ?_
    refine wpIn_heldG (fun w' => Blk w' g7 27 (mcells n n (some ⟨g, 0, none⟩) (n * n) (n * n)) ∧ Blk w' (g1 + 1) 22 #[.slice (some ⟨ab, off, none⟩) l' c'] ∧ w'.cell? ⟨ab, off, none⟩ = some (.int .u8 (x.toNat : Int))) [] (by kernel_rfl) (by kernel_rfl) (fun ⟨_, _, h⟩ => h) ?hs0 ?rg0
    case hs0 =>
     exact ⟨HJ.out.1.var, HY.out.1, hx1⟩
    case rg0 =>
    intro hHeld
    refine pu 0 ?_
    refine pu 1 ?_
    refine tk 2 rfl (by intro w hSw; (try dsimp only at hSw); obtain ⟨⟨c0, c1, c2⟩, _⟩ := cells3 hSw.1; go_simp; try with_reducible rfl) ?_
    refine pu 3 ?_
    refine pu 5 ?_
    refine tk 6 rfl (by intro w hSw; (try dsimp only at hSw); have c0 : w.cell? ⟨g1 + 1, 0, none⟩ = some (.slice (some ⟨ab, off, none⟩) l' c') := hSw.2.1.cell 0; go_simp; try with_reducible rfl) ?_
    refine pu 7 ?_
    refine tk 8 rfl (by intro w hSw; (try dsimp only at hSw); have c0 := hSw.2.2; go_simp; try with_reducible rfl) ?_
    refine tk 9 rfl (by intro w hSw; (try dsimp only at hSw); have c0 : w.cell? ⟨g1 + 1, 0, none⟩ = some (.slice (some ⟨ab, off, none⟩) l' c') := hSw.2.1.cell 0; go_simp; try with_reducible rfl) ?_
    refine pu 10 ?_
    refine tk 11 rfl (by intro w hSw; (try dsimp only at hSw); have c0 := hSw.2.2; go_simp; try with_reducible rfl) ?_
    refine on 4 rfl fun K hK => ?_
    go_simp
    refine (row_any _ n n j (some ⟨g, 0, none⟩) (n * n) (n * n) HJ.out.2.2.1 (by have := HL.out; omega) rfl HL.out.2.2.2.2 (Nat.le_refl _)).mono ?_
    rintro e w6 ⟨rfl, hb⟩
    rw [show rowA (some ⟨g, 0, none⟩) n j = some ⟨g, q2, none⟩ from by rw [rowA_some (by have := HJ.out.2.2.1; omega), Nat.zero_add, HQ2.out]]
    have H6 := Lib.hid (next (nextN (Mem.start wr) 1) hb)
    try dsimp only
    refine hK.out _ _ (fun _ => ⟨hHeld.1.keep hb, hHeld.2.1.keep hb, (hb.cell (p := ⟨ab, off, none⟩) (World.block_lt_of_cell? _ _ hHeld.2.2)).trans hHeld.2.2⟩) fun hHeld => ?_
    clear hK K
    try simp only [pU, pU0, pA, pB, pC]
    have hHeld := hHeld (by kernel_rfl)
    refine pu 12 ?_
    refine on 13 rfl fun K hK => ?_
    have h6 := HJ.out.1.keep H6.out
    obtain ⟨k1, k2⟩ := h6.row.at_ HLT.out HJ.out.2.2.1
    rw [HQ1.out] at k1 k2
    have hw1 := h6.row.set HLT.out HJ.out.2.2.1 x
    rw [HQ1.out] at hw1
    have HW1S := Lib.hid hw1
    clear h6 hw1
    go_simp
    try dsimp only
    refine hK.out _ _ (fun _ => have hap := HAP.out; have hxa := HX.out.2; ⟨hHeld.1.fr (setF (p := g) _ _ rfl _) (by omega), hHeld.2.1.fr (setF (p := g) _ _ rfl _) (by omega), cellFr (setF (p := g) _ _ rfl _) hHeld.2.2 (by omega)⟩) fun hHeld => ?_
    clear hK K
    try simp only [pU, pU0, pA, pB, pC]
    have hHeld := hHeld (by kernel_rfl)
    refine pu 14 ?_
    refine on 15 rfl fun K hK => ?_
    obtain ⟨k3, k4⟩ := HW1S.out.at_ HJ.out.2.2.1 HLT.out
    rw [HQ2.out] at k3 k4
    go_simp
    try dsimp only
    refine hK.out _ _ (fun _ => have hap := HAP.out; have hxa := HX.out.2; ⟨hHeld.1.fr (setF (p := g) _ _ rfl _) (by omega), hHeld.2.1.fr (setF (p := g) _ _ rfl _) (by omega), cellFr (setF (p := g) _ _ rfl _) hHeld.2.2 (by omega)⟩) fun hHeld => ?_
    clear hK K
    try simp only [pU, pU0, pA, pB, pC]
    have hHeld := hHeld (by kernel_rfl)
    refine wpAnyG_done (by kernel_rfl) ?_ _
    refine onlyN_end ?_
    --END sym_ok10
    have hap := HAP.out
    have hbx7 := hHeld.2.1.cell 0
    have hbf7 := hHeld.2.1.frozen 0
    clear hHeld
    have HS7 := Lib.hid (SymI.step (Y' := if c' = 1 then some ⟨ab, off, none⟩ else some ⟨ab, off + 1, none⟩) (HJ.out.1.keep H6.out) HLT.out HJ.out.2.2.1 HJ.out.2.2.2 x HX.out.1 ⟨by omega, by omega⟩ ⟨by omega, by omega, by omega, by omega, by omega, by omega, by omega⟩ (HY.out.1.keep H6.out) HY.out.2.1 HY.out.2.2.1 HY.out.2.2.2.1 HY.out.2.2.2.2.1 (HY.out.2.2.2.2.2.below (H6.out.mono HJ.out.1.below.size)))
    have hf1 := setF (p := g) w6 ⟨g, q1 + j, none⟩ rfl (.int .u8 (x.toNat : Int))
    obtain ⟨w7, hw7⟩ : ∃ X : World, w6.setCell ⟨g, q1 + j, none⟩ (.int .u8 (x.toNat : Int)) = X := ⟨_, rfl⟩
    rw [HQ1.out, HQ2.out, hw7] at HS7
    rw [hw7] at hbx7 hbf7 hf1 ⊢
    have hf2 := setF (p := g) w7 ⟨g, q2 + i, none⟩ rfl (.int .u8 (x.toNat : Int))
    obtain ⟨w8, hw8⟩ : ∃ X : World, w7.setCell ⟨g, q2 + i, none⟩ (.int .u8 (x.toNat : Int)) = X := ⟨_, rfl⟩
    rw [hw8] at HS7
    rw [hw8] at hbx7 hbf7 hf2 ⊢
    have HF8 := Lib.hid ((HJ.out.2.1.trans (Fr.quiet (S := fun k => k = g ∨ k = g1 + 1) H6.out) fun _ _ h => h).trans ((hf1.trans hf2 fun _ _ h => h).mono (S' := fun k => k = g ∨ k = g1 + 1) fun k _ e => .inl e) fun _ _ h => h)
    have hl1 : (1 : Int) ≤ (l' : Int) := by have := HY.out.2.2.1; omega
    have hlc : (l' : Int) ≤ (c' : Int) := by have := HY.out.2.2.2.1; omega
    have hl1n : 1 ≤ l' := HY.out.2.2.1
    have hlcn : l' ≤ c' := HY.out.2.2.2.1
    clear hw7 hw8 hf1 hf2 hap
    by_cases e1 : c' = 1
    ·rw [if_pos e1] at HS7
     subst e1
     obtain rfl : l' = 1 := by omega
     gi_wp2
     exact ⟨⟨j + 1, by simp, by have := HJ.out.2.2.2; omega, HJ.out.2.2.1, HS7.out, HF8.out.trans ((setF (p := g1 + 1) w8 _ rfl _).mono (S' := fun k => k = g ∨ k = g1 + 1) fun k _ e => .inr e) fun _ _ h => h⟩, by have := HJ.out.2.2.1; simp [intOf]; omega⟩
    ·rw [if_neg e1] at HS7
     gi_wp2
     exact ⟨⟨j + 1, by simp, by have := HJ.out.2.2.2; omega, HJ.out.2.2.1, HS7.out, HF8.out.trans ((setF (p := g1 + 1) w8 _ rfl _).mono (S' := fun k => k = g ∨ k = g1 + 1) fun k _ e => .inr e) fun _ _ h => h⟩, by have := HJ.out.2.2.1; simp [intOf]; omega⟩
   ·obtain rfl : n = j := by omega
    have HJ := Lib.hid (And.intro h1 h2)
    clear h1 h2 hj hjc hij
    gi_wp2
    exact ⟨HJ.out.2, HJ.out.1.congr (by show offS n i + (n - i) = offS n i + (n - i) + (i + 1 - (i + 1)); omega) fun x hx y hy => sym_next n b i x y hx hy⟩
 case hdone =>
  intro D W hD hi hK
  have H := Lib.hid hi
  have HK := Lib.hid (And.intro hD hK)
  obtain ⟨⟨c0, c1, c2⟩, _⟩ := cells3 hi.var
  obtain ⟨⟨d0, d1, d2⟩, f0, f1, f2⟩ := cells3 hi.res
  obtain ⟨W3, hW3⟩ : ∃ x : World, ((W.setCell ⟨g1 + 1 + 1, 0, none⟩ (.int .i64 (n : Int))).setCell ⟨g1 + 1 + 1, 1, none⟩ (.int .i64 (n : Int))).setCell ⟨g1 + 1 + 1, 2, none⟩ (.slice (some ⟨g, 0, none⟩) (n * n) (n * n)) = x := ⟨_, rfl⟩
  have h3 := set3 hi.res (.int .i64 (n : Int)) (.int .i64 (n : Int)) (.slice (some ⟨g, 0, none⟩) (n * n) (n * n))
  rw [hW3] at h3
  have HW3 := Lib.hid hW3
  have HR := Lib.hid h3
  clear hi hK hD h3 hW3
  go_wp2_with fail
  rw [HW3.out]
  have hap := HAP.out
  have hd := HK.out.1
  have hKD : W3.heap[D]? = some (.deferred (some [])) := by
   have h1 := (Array.getElem?_eq_some_iff.1 HK.out.2).1
   rw [HR.out.2.block D h1 (by omega)]; exact HK.out.2
  have hst := shut_still (B := 0) (.deferred none) hKD rfl (Nat.zero_le _)
  obtain ⟨⟨e0, e1, e2⟩, _⟩ := cells3 (hst.blk HR.out.1)
  refine ⟨by simp, .inl ⟨_, _, rfl, run_takeDeferred hKD, ?_⟩⟩
  refine ⟨.tuple #[.agg #[.int .i64 (n : Int), .int .i64 (n : Int), .slice (some ⟨g, 0, none⟩) (n * n) (n * n)], .int .i64 0], ?_, ?_⟩
  ·simp [results, Try.results30, go_sem, e0, e1, e2]
  ·have hb : Below w.heap.size w W3 := H.out.below.trans (HR.out.2.below H.out.below.size fun k e => by rw [e]; omega)
   have hw := (H.out.row.fr HR.out.2 (by omega)).congr (m' := symM n b) fun a ha b hb => by unfold symUp; rw [if_pos (.inl (by omega))]
   refine ⟨some ⟨g, 0, none⟩, n * n, rfl, Nat.le_refl _, ?_, ?_⟩
   ·exact Nw.of_own (Own.down (Own.fr hw (put_fr (k := D) _) (fun g' e1 e2 => by injection e1 with e1; have := congrArg Addr.block e1; dsimp only at this; omega)) (by omega))
   ·exact hb.trans ((put_fr (k := D) _).below hb.size fun k e => by rw [e]; omega)
end Go.Proofs.Ythdapoipfnnaeaa.MxW
/- Packed. -/
namespace Go.Proofs.Ythdapoipfnnaeaa.MxW
open Go.RowKit Go.Shelf Mem Gf FdW Mx Rng
open PlW (In)
set_option linter.unusedVariables false
attribute [local go_sem] Oper.semAt_some wide_fn

/-- A range over a matrix's rows, the rounds' blocks told apart from the loop's own. -/
theorem wpIn_rows2 {g : Operand} {p q : Tmp} {assign body : Code} {Q : Exit → Act → World → Prop} {a : Act} {w : World} (bm r c : Nat) (A : Option Addr) (n cap : Nat)
    (hg : a.eval g = .func (.func 57) #[] #[.pointer (some ⟨bm, 0, none⟩)]) (hbm : Blk w bm 27 #[.int .i64 (r : Int), .int .i64 (c : Int), .slice A n cap]) (hr : (r : Int) ≤ 1000000) (hn : n = r * c) (hn9 : (n : Int) ≤ 1000000000) (hc : n ≤ cap)
    (SB : Nat → Prop) (hSB : ¬ SB bm ∧ ¬ SB w.heap.size ∧ ¬ SB (w.heap.size + 1)) (I : Nat → World → Prop) (hI : ∀ i W W', I i W → Fr (fun k => k = w.heap.size + 1) W W' → I i W') (h0 : ∀ W, Below w.heap.size w W → W.heap.size = w.heap.size + 2 → I 0 W)
    (hround : ∀ (l i : Nat) (W : World), I i W → i < r → assign.wpIn (Fence.wide.inRound l) 3 Try.prog (Exit.then (fun a₁ W₁ => W₁ = W ∧ ∀ W2, I i W2 → body.wpIn (Fence.wide.inRound l) 3 Try.prog (postR SB I i W2) a₁ W2) (fun _ _ _ => False))
     { tmps := (a.tmps.setIfInBounds p (.int .i64 (i : Int))).setIfInBounds q (.slice (rowA A c i) c c), defers := [] } W)
    (hdone : ∀ (D : Nat) (W : World), D = w.heap.size → I r W → W.heap[D]? = some (.deferred (some [])) → Q .normal { a with defers := { target := .collected D, args := #[] } :: a.defers } W) :
    (Code.rangeFunc g #[p, q] assign body).wpIn Fence.wide 5 Try.prog Q a w := by
 refine wpIn_rangeT (gf := 57) (lb := #[.pointer (some ⟨bm, 0, none⟩)]) (encs := rowV A c) hg (enters_of Try.func57 (by kernel_rfl) rfl) (fun _ => rfl)
  (fun pre W => I pre.length W) (fun _ _ _ => False) (fun pre x _ => x = pre.length ∧ x < r) SB (S := fun xs => xs.length = r) (Sp := fun _ => False) ⟨hSB.2.1, hSB.2.2⟩
  (rows_callT w bm r c A n cap hbm hr hn hn9 hc SB hSB.1 _ (fun pre W W' h hb => hI _ _ _ h (Fr.quiet hb))) (fun pre W W' h hf => hI _ _ _ h hf) (fun _ _ _ _ h _ => h) (fun _ _ _ _ h _ => h)
  (fun W hb hs => h0 W hb hs) ?_ ?_ ?_
 ·rintro l pre x W hi ⟨rfl, hx⟩
  rw [show (#[p, q].zip (rowV A c pre.length)).foldl (fun t (p, v) => t.setIfInBounds p v) a.tmps = (a.tmps.setIfInBounds p (.int .i64 (pre.length : Int))).setIfInBounds q (.slice (rowA A c pre.length) c c) from by simp [rowV]]
  refine wpIn_mono (hround l pre.length W hi hx) ?_
  rintro e a1 W0 he
  cases e with
  | normal =>
   obtain ⟨h1, h2⟩ : W0 = W ∧ _ := he
   refine ⟨h1, fun W2 hi2 _ => wpIn_mono (h2 W2 hi2) ?_⟩
   rintro e3 a3 W3 h3
   cases e3 with
   | normal => exact ⟨h3.1, by show I (pre ++ [pre.length]).length W3; rw [List.length_append]; exact h3.2⟩
   | _ => exact h3.elim
  | _ => exact he.elim
 ·rintro D xs W hD hxs hi hK
  have hxs : xs.length = r := hxs
  rw [← hxs] at hdone
  exact hdone D W hD hi hK
 ·rintro D c pre W _ h _ _
  exact h.elim

def packR (n : Nat) (m : M) (i : Nat) : List UInt8 := (List.range (n - i)).map fun j => m i (i + j)
def packS (n : Nat) (m : M) (k : Nat) : List UInt8 := (List.range k).flatMap (packR n m)
theorem packR_len (n : Nat) (m : M) (i : Nat) : (packR n m i).length = n - i := by simp [packR]
theorem packS_succ (n : Nat) (m : M) (k : Nat) : packS n m (k + 1) = packS n m k ++ packR n m k := by
 unfold packS; rw [List.range_succ, List.flatMap_append, List.flatMap_singleton]
theorem packS_len (n : Nat) (m : M) : ∀ k, (packS n m k).length = offS n k
 | 0 => rfl
 | k + 1 => by rw [packS_succ, List.length_append, packS_len n m k, packR_len]; rfl
theorem offS_max {n k : Nat} (hn : n ≤ 65536) (hk : k ≤ n) : offS n k ≤ 65536 * 65536 := by
 have h1 : offS n k ≤ offS n n := offS_mono hk
 have h2 := offS_len n
 have h3 : n * (n + 1) ≤ 65536 * 65537 := Nat.mul_le_mul hn (by omega)
 omega
/-- While Packed goes on: b's box gb, its bytes. -/
structure PackI (w : World) (gb D n : Nat) (m : M) (i : Nat) (W : World) : Prop where
 below : Below w.heap.size w W
 lt : D + 2 ≤ W.heap.size
 bx : ∃ A c, Blk W gb 22 #[.slice A (offS n i) c] ∧ Mem.Own W (D + 2) 5 A c ((packS n m i).map u8v)
def PackOk (w : World) (n : Nat) (m : M) (e : Ending) (w' : World) : Prop := ∃ A c, e = .returned (.tuple #[.slice A (offS n n) c, .int .i64 0]) ∧ offS n n ≤ c ∧ Nw w.heap.size w' A (packS n m n) ∧ Below w.heap.size w w'
set_option maxRecDepth 100000 in
set_option maxHeartbeats 40000000 in
theorem packed_ok (w : World) (r : Nat) (A : Option Addr) (n cap : Nat) (m : M) (hn : n = r * r) (hrt : rightB r r n = true) (hcap : n ≤ cap) (hn9 : (n : Int) ≤ 1000000000) (hA : Bytes w w.heap.size A (flat r r m)) (hsm : flat r r (fun a b => m b a) = flat r r m) :
    Calls Try.prog 39 #[.agg #[.int .i64 (r : Int), .int .i64 (r : Int), .slice A n cap]] w (PackOk w r m) := by
 have hr : r ≤ 65536 := by have h := of_decide_eq_true hrt; omega
 obtain ⟨i0, hi0, hz0, hz1, hz2⟩ : ∃ i : TypeInfo, Try.prog.info? 5 = some i ∧ i.zero = some (.int .u8 0) ∧ i.size = 1 ∧ i.bytes = 1 := ⟨_, rfl, rfl, rfl, rfl⟩
 refine of_wide ?_
 refine callsIn_of_wp_marks Try.func39 rfl trivial ?_ rfl
 refine wpIn_wide.2 ?_
 simp only [Try.ntmps39, List.size_toArray, List.length_cons, List.length_nil, Nat.reduceAdd, Nat.reduceSub, Array.replicate_succ, Array.replicate_zero, List.push_toArray, List.append_toArray, List.nil_append, List.cons_append]
 obtain ⟨w1, ga, h1, hw1, hga⟩ := boxed w (mcells r r A n cap)
 have HW1 := Lib.hid (show w.alloc (.cells #[.int .i64 (r : Int), .int .i64 (r : Int), .slice A n cap] 27) = w1 from hw1)
 have HG := Lib.hid hga
 have H1 := Lib.hid h1
 have HL := Lib.hid (And.intro hn (And.intro hcap (And.intro hn9 hr)))
 have HA := Lib.hid hA
 have HSM := Lib.hid hsm
 have HRT := Lib.hid hrt
 obtain ⟨⟨c0, c1, c2⟩, _⟩ := cells3 h1.2.1
 rw [← HW1.out] at c0 c1 c2
 clear h1 hw1 hga hn hcap hn9 hr hA hsm hrt
 go_wp2_with fail
 rw [HW1.out, HG.out]
 refine (turned_ok w1 r r A n cap m HL.out.1 HRT.out HL.out.2.1 HL.out.2.2.1 ((HA.out.below H1.out.1).up H1.out.1.size)).mono ?_
 rintro e w2 ⟨A2, cq, rfl, hc2, hnw, hb⟩
 have H2 := Lib.hid (show Below w.heap.size w w2 ∧ Blk w2 ga 27 (mcells r r A n cap) ∧ r * r ≤ cq ∧ Nw w1.heap.size w2 A2 (flat r r fun a b => m b a) from ⟨next H1.out.1 hb, H1.out.2.1.keep hb, hc2, hnw⟩)
 obtain ⟨w3, gt, h3, hw3, hgt⟩ := boxed w2 (mcells r r A2 (r * r) cq)
 have H3 := Lib.hid (show Below w.heap.size w w3 ∧ Blk w3 ga 27 (mcells r r A n cap) ∧ Blk w3 gt 27 (mcells r r A2 (r * r) cq) ∧ Nw w1.heap.size w3 A2 (flat r r fun a b => m b a) from ⟨next H2.out.1 h3.1, H2.out.2.1.keep h3.1, h3.2.1, hnw.keep h3.1⟩)
 have HG3 := Lib.hid hgt
 have HW3 := Lib.hid (show w2.alloc (.cells #[.int .i64 (r : Int), .int .i64 (r : Int), .slice A2 (r * r) cq] 27) = w3 from hw3)
 have HS := Lib.hid (show w.heap.size ≤ w1.heap.size ∧ w1.heap.size ≤ w2.heap.size ∧ w3.heap.size = w2.heap.size + 1 ∧ w.heap.size = ga ∧ w1.heap.size = ga + 1 from ⟨H1.out.1.size, hb.size, by have := h3.2.2; omega, HG.out, H1.out.2.2⟩)
 obtain ⟨⟨b0, b1, b2⟩, _⟩ := cells3 H3.out.2.1
 rw [← HW3.out] at b0 b1 b2
 clear hb hc2 hnw c0 c1 c2 h3 hw3
 go_wp2_with fail
 rw [HW3.out]
 clear hgt b0 b1 b2
 refine (same_any w3 _ _ _ _ A2 A (flat r r fun a b => m b a) (flat r r m) (r * r) cq n cap w3.heap.size w.heap.size (by rw [flat_len]) (by rw [flat_len]; exact HL.out.1.symm) (Nat.le_refl _) H3.out.1.size H3.out.2.2.2.1 (HA.out.below H3.out.1)).mono ?_
 rintro e w4 ⟨rfl, hb⟩
 rw [show sameB (r : Int) r r r (flat r r fun a b => m b a) (flat r r m) = true from decide_eq_true ⟨rfl, rfl, HSM.out⟩]
 have H4 := Lib.hid (show Below w.heap.size w w4 ∧ Blk w4 ga 27 (mcells r r A n cap) ∧ w3.heap.size ≤ w4.heap.size from ⟨next H3.out.1 hb, H3.out.2.1.keep hb, hb.size⟩)
 obtain ⟨⟨b0, b1, b2⟩, _⟩ := cells3 H4.out.2.1
 obtain ⟨w5, gb, h5, hw5, hgb⟩ := boxedT w4 #[.slice none 0 0] 22
 have HW5 := Lib.hid (show w4.alloc (.cells #[.slice none 0 0] 22) = w5 from hw5)
 have HG5 := Lib.hid hgb
 have H5 := Lib.hid h5
 obtain ⟨⟨d0, d1, d2⟩, _⟩ := cells3 (H4.out.2.1.keep h5.1)
 rw [← HW5.out] at d0 d1 d2
 clear hb hw5 hgb h5 b0 b1 b2
 go_wp2_with fail
 rw [HW5.out, HG5.out]
 refine (rows_any w5 _ _ _).mono ?_
 rintro e w6' ⟨rfl, rfl⟩
 obtain ⟨w6, bm, h6, hw6, hbm⟩ := boxed w5 (mcells r r A n cap)
 have HW6 := Lib.hid (show w5.alloc (.cells #[.int .i64 (r : Int), .int .i64 (r : Int), .slice A n cap] 27) = w6 from hw6)
 rw [HW6.out, hbm]
 have hap : w.heap.size = ga ∧ ga < gb ∧ bm = gb + 1 ∧ w6.heap.size = bm + 1 := by
  have k1 := HS.out; have k2 := H4.out.2.2; have k3 := HG5.out; have k4 := H5.out.2.2; have k5 := h6.2.2
  omega
 have HAP := Lib.hid hap
 have H6 := Lib.hid (show Below w.heap.size w w6 ∧ Blk w6 gb 22 #[.slice none 0 0] ∧ Blk w6 bm 27 (mcells r r A n cap) from ⟨next (next H4.out.1 H5.out.1) h6.1, H5.out.2.1.keep h6.1, h6.2.1⟩)
 clear hw6 hbm h6 hap d0 d1 d2
 go_wp2_with fail
 refine (wpIn_wide (n := 5)).1 ?_
 refine wpIn_rows2 bm r r A n cap rfl H6.out.2.2 (by have := HL.out; omega) HL.out.1 HL.out.2.2.1 HL.out.2.1 (fun k => k = gb ∨ w6.heap.size + 2 ≤ k) (by have := HAP.out; omega)
  (fun i W => PackI w gb w6.heap.size r m i W) ?hI ?h0 ?hround ?hdone
 case hI =>
  intro i W W' h hf
  have hap := HAP.out
  obtain ⟨B, cb, h1, h2⟩ := h.bx
  exact ⟨h.below.trans (hf.below h.below.size fun k e => by omega), Nat.le_trans h.lt hf.size, B, cb, h1.fr hf (by omega), Own.fr h2 hf (fun g' e1 e2 => by
   rcases h2.form with ⟨e3, _⟩ | ⟨g2, e3, hb2, _⟩
   ·rw [e1] at e3; cases e3
   ·rw [e1] at e3; injection e3 with e3; have := congrArg Addr.block e3; dsimp only at this; omega)⟩
 case h0 =>
  intro W hb hs
  exact ⟨next H6.out.1 hb, by omega, none, 0, H6.out.2.1.keep hb, Own.nil⟩
 case hround =>
  intro ln i W hi hlt
  obtain ⟨ab, off, hX, hab, _, hcs⟩ := row_at (HA.out.below hi.below) hlt (show 0 < r by omega)
  rw [hX]
  have HX := Lib.hid hX
  have HLT := Lib.hid hlt
  have HAB := Lib.hid hab
  have hii0 : (0 : Int) ≤ (i : Int) := by omega
  have hin : (i : Int) ≤ (r : Int) := by omega
  have hir : ¬ r = i := by omega
  clear hlt hi hX hab hcs
  gi_wp2
  refine ⟨trivial, fun W2 hi2 => ?_⟩
  obtain ⟨B, cb, hb2, ho2⟩ := hi2.bx
  obtain ⟨ab', off', e3, _, _, hcs⟩ := row_at (HA.out.below hi2.below) HLT.out (show 0 < r by have := HLT.out; omega)
  have HI := Lib.hid hi2
  have HB2 := Lib.hid hb2
  have HO2 := Lib.hid ho2
  have hr2 : Bytes W2 w.heap.size (some ⟨ab, off + i, none⟩) (packR r m i) := fun _ => ⟨ab, off + i, rfl, HAB.out, fun j v hv => by
   have hX2 := HX.out.symm.trans e3
   injection hX2 with hX2
   have hx3 := congrArg Addr.off hX2
   have hx4 := congrArg Addr.block hX2
   dsimp only at hx3 hx4
   obtain ⟨hj, hv⟩ := List.getElem?_eq_some_iff.1 hv
   rw [List.length_map, packR_len] at hj
   subst hx3 hx4
   rw [List.getElem_map] at hv
   have := hcs (i + j) (by omega)
   rw [← hv, Nat.add_assoc, this]
   simp [packR, u8v]⟩
  have HR2 := Lib.hid hr2
  have HMX := Lib.hid (show offS r i + (r - i) ≤ maxLen ∧ (offS r i + (r - i)) * 1 ≤ 140737488355328 from by
   have h1 := offS_max HL.out.2.2.2 (show i + 1 ≤ r from HLT.out)
   have h2 : offS r (i + 1) = offS r i + (r - i) := rfl
   rw [← h2]
   generalize offS r (i + 1) = q at h1
   simp [maxLen]; omega)
  clear hi2 hb2 ho2 e3 hcs hr2
  gi_wp2
  --HELD pack8
  refine wpIn_only ?_
  refine wpIn_heldG (fun w' => Blk w' gb 22 #[.slice B (offS r i) cb]) [5] (by kernel_rfl) (by kernel_rfl) (fun ⟨_, _, h⟩ => h) ?hs0 ?rg0
  case hs0 =>
   exact HB2.out
  case rg0 =>
  intro hHeld
  refine tk 0 rfl (by intro w hSw; (try dsimp only at hSw); have c0 := hSw.cell 0; go_simp; try with_reducible rfl) ?_
  refine pu 1 ?_
  refine pu 2 ?_
  refine pu 3 ?_
  refine on 4 rfl fun K hK => ?_
  refine step_app _ rfl _ _ _ rfl (w6.heap.size + 2) 5 i0 _ 1 Try.underlying22 hi0 hz0 hz1 hz2 rfl B cb (offS r i) ((packS r m i).map u8v) rfl (by rw [List.length_map, packS_len]) (HO2.out.keep (nextN (Mem.start W2) 1)) w.heap.size (some ⟨ab, off + i, none⟩) (r - i) (r - i) ((packR r m i).map u8v) rfl (by rw [List.length_map, packR_len]) HR2.out u8v_one (by rw [List.length_map, List.length_map, packS_len, packR_len]; exact HMX.out.1) (by rw [List.length_map, List.length_map, packS_len, packR_len]; exact HMX.out.2) HI.out.lt (offS r (i + 1)) rfl ?_
  intro A1 cx w7 ho7 hb7 hg7 hA7
  have H7 := Lib.hid (And.intro (show Mem.Own w7 (w6.heap.size + 2) 5 A1 cx ((packS r m (i + 1)).map u8v) from by rw [packS_succ, List.map_append]; exact ho7) (And.intro hg7 (show Blk w7 gb 22 #[.slice B (offS r i) cb] from hHeld.app (HO2.out.keep (nextN (Mem.start W2) 1)) (by decide) hg7)))
  clear ho7 hb7 hg7 hA7
  try dsimp only
  refine hK.out _ _ (fun _ => H7.out.2.2) fun hHeld => ?_
  clear hK K
  try simp only [pU, pU0, pA, pB, pC]
  have hHeld := hHeld (by kernel_rfl)
  refine on 5 rfl fun K hK => ?_
  have k1 := hHeld.cell 0
  have k2 := hHeld.frozen 0
  go_simp
  try dsimp only
  refine hK.out _ _ ?_ (fun hHeld => ?_)
  ·exact fun h => (st_no (by kernel_rfl) h).elim
  clear hK K
  try simp only [pU, pU0, pA, pB, pC]
  clear hHeld
  refine wpAnyG_done (by kernel_rfl) ?_ _
  refine onlyN_end ?_
  --END pack8
  have hap := HAP.out
  have hf7 : Fr (fun k => k = gb ∨ w6.heap.size + 2 ≤ k) W2 w7 := (Fr.quiet (nextN (Mem.start W2) 1)).trans (Fr.grown H7.out.2.1 fun k e => by
   rcases HO2.out.form with ⟨e3, _⟩ | ⟨g2, e3, hb2, _⟩
   ·rw [e3] at e; cases e
   ·rw [e3] at e; injection e with e; exact .inr (by rw [← e]; exact hb2)) fun _ _ h => h
  have hf8 := setF (p := gb) w7 ⟨gb, 0, none⟩ rfl (.slice A1 (offS r (i + 1)) cx)
  have hff := hf7.trans (hf8.mono (S' := fun k => k = gb ∨ w6.heap.size + 2 ≤ k) fun k _ e => .inl e) fun _ _ h => h
  exact ⟨hff, HI.out.below.trans (hff.below HI.out.below.size fun k e => by omega), Nat.le_trans HI.out.lt hff.size, A1, cx, H7.out.2.2.set_ 0 _, Own.fr H7.out.1 hf8 fun g' e1 e2 => by
   rcases H7.out.1.form with ⟨e3, _⟩ | ⟨g2, e3, hb2, _⟩
   ·rw [e1] at e3; cases e3
   ·rw [e1] at e3; injection e3 with e3; have := congrArg Addr.block e3; dsimp only at this; omega⟩
 case hdone =>
  intro D W hD hi hK
  obtain ⟨B, cb, hb2, ho2⟩ := hi.bx
  have H := Lib.hid hi
  have HK := Lib.hid (And.intro hD hK)
  have HB := Lib.hid hb2
  have HO := Lib.hid ho2
  have c0 : W.cell? ⟨gb, 0, none⟩ = some (.slice B (offS r r) cb) := hb2.cell 0
  clear hi hK hD hb2 ho2
  go_wp2_with fail
  have hst := shut_still (B := 0) (.deferred none) HK.out.2 rfl (Nat.zero_le _)
  have hap := HAP.out
  have hD := HK.out.1
  refine ⟨by simp, .inl ⟨_, _, rfl, run_takeDeferred HK.out.2, ?_⟩⟩
  refine ⟨.tuple #[.slice B (offS r r) cb, .int .i64 0], ?_, ?_⟩
  ·simp [results, Try.results39, go_sem]
  ·have hw := Own.fr HO.out (put_fr (k := D) (.deferred none)) fun g' e1 e2 => by
    rcases HO.out.form with ⟨e3, _⟩ | ⟨g2, e3, hb2, _⟩
    ·rw [e1] at e3; cases e3
    ·rw [e1] at e3; injection e3 with e3; have := congrArg Addr.block e3; dsimp only at this; omega
   exact ⟨B, cb, rfl, by have := HO.out.le; rwa [List.length_map, packS_len] at this, (Nw.of_own hw).mono (by have := H.out.below.size; omega), H.out.below.trans ((put_fr (k := D) _).below H.out.below.size fun k e => by omega)⟩
def PackNo (w : World) (e : Ending) (w' : World) : Prop := e = .returned (.tuple #[.slice none 0 0, .int .i64 50]) ∧ Below w.heap.size w w'
set_option maxRecDepth 100000 in
set_option maxHeartbeats 40000000 in
theorem packed_bad (w : World) (R C : Int) (A : Option Addr) (n cap : Nat) (hrt : rightB R C n = false) :
    Calls Try.prog 39 #[.agg #[.int .i64 R, .int .i64 C, .slice A n cap]] w (PackNo w) := by
 obtain ⟨w1, ga, h1, hw1, hga⟩ := boxed w #[.int .i64 R, .int .i64 C, .slice A n cap]
 have HW1 := Lib.hid hw1
 have HG := Lib.hid hga
 have H1 := Lib.hid h1
 have HRT := Lib.hid hrt
 obtain ⟨⟨c0, c1, c2⟩, _⟩ := cells3 h1.2.1
 rw [← HW1.out] at c0 c1 c2
 clear h1 hw1 hga hrt
 go_enter Try.func39, Try.ntmps39
 go_wp2_with fail
 rw [HW1.out, HG.out]
 refine (turned_bad w1 R C A n cap HRT.out).mono ?_
 rintro e w2 ⟨rfl, hb⟩
 have H2 := Lib.hid (next H1.out.1 hb)
 clear hb c0 c1 c2
 go_wp2_with fail
 refine bodyPost_ret (v := .tuple #[.slice none 0 0, .int .i64 50]) (by simp [results, Try.results39, go_sem]) rfl ⟨rfl, ?_⟩
 exact next H2.out (nextA (Mem.start w2) _)
set_option maxRecDepth 100000 in
set_option maxHeartbeats 40000000 in
theorem packed_no (w : World) (r c : Nat) (A : Option Addr) (n cap : Nat) (m : M) (hn : n = r * c) (hrt : rightB r c n = true) (hcap : n ≤ cap) (hn9 : (n : Int) ≤ 1000000000) (hA : Bytes w w.heap.size A (flat r c m)) (hsm : sameB (c : Int) r r c (flat c r fun a b => m b a) (flat r c m) = false) :
    Calls Try.prog 39 #[.agg #[.int .i64 (r : Int), .int .i64 (c : Int), .slice A n cap]] w (PackNo w) := by
 obtain ⟨w1, ga, h1, hw1, hga⟩ := boxed w (mcells r c A n cap)
 have HW1 := Lib.hid (show w.alloc (.cells #[.int .i64 (r : Int), .int .i64 (c : Int), .slice A n cap] 27) = w1 from hw1)
 have HG := Lib.hid hga
 have H1 := Lib.hid h1
 have HL := Lib.hid (And.intro hn (And.intro hcap hn9))
 have HA := Lib.hid hA
 have HSM := Lib.hid hsm
 have HRT := Lib.hid hrt
 obtain ⟨⟨c0, c1, c2⟩, _⟩ := cells3 h1.2.1
 rw [← HW1.out] at c0 c1 c2
 clear h1 hw1 hga hn hcap hn9 hA hsm hrt
 go_enter Try.func39, Try.ntmps39
 go_wp2_with fail
 rw [HW1.out, HG.out]
 refine (turned_ok w1 r c A n cap m HL.out.1 HRT.out HL.out.2.1 HL.out.2.2 ((HA.out.below H1.out.1).up H1.out.1.size)).mono ?_
 rintro e w2 ⟨A2, cq, rfl, hc2, hnw, hb⟩
 have H2 := Lib.hid (show Below w.heap.size w w2 ∧ Blk w2 ga 27 (mcells r c A n cap) from ⟨next H1.out.1 hb, H1.out.2.1.keep hb⟩)
 obtain ⟨w3, gt, h3, hw3, hgt⟩ := boxed w2 (mcells c r A2 (c * r) cq)
 have H3 := Lib.hid (show Below w.heap.size w w3 ∧ Blk w3 ga 27 (mcells r c A n cap) ∧ Nw w1.heap.size w3 A2 (flat c r fun a b => m b a) from ⟨next H2.out.1 h3.1, H2.out.2.keep h3.1, hnw.keep h3.1⟩)
 have HW3 := Lib.hid (show w2.alloc (.cells #[.int .i64 (c : Int), .int .i64 (r : Int), .slice A2 (c * r) cq] 27) = w3 from hw3)
 obtain ⟨⟨b0, b1, b2⟩, _⟩ := cells3 H3.out.2.1
 rw [← HW3.out] at b0 b1 b2
 clear hb hc2 hnw c0 c1 c2 h3 hw3
 go_wp2_with fail
 rw [HW3.out]
 clear hgt b0 b1 b2
 refine (same_any w3 _ _ _ _ A2 A (flat c r fun a b => m b a) (flat r c m) (c * r) cq n cap w3.heap.size w.heap.size (by rw [flat_len]) (by rw [flat_len]; exact HL.out.1.symm) (Nat.le_refl _) H3.out.1.size H3.out.2.2.1 (HA.out.below H3.out.1)).mono ?_
 rintro e w4 ⟨rfl, hb⟩
 rw [HSM.out]
 have H4 := Lib.hid (next H3.out.1 hb)
 clear hb
 go_wp2_with fail
 exact bodyPost_ret (v := .tuple #[.slice none 0 0, .int .i64 50]) (by simp [results, Try.results39, go_sem]) rfl ⟨rfl, H4.out⟩
end Go.Proofs.Ythdapoipfnnaeaa.MxW
