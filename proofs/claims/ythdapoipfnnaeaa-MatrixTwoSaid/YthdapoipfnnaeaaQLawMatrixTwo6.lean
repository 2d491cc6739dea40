/- Texts of a claim, one behind another. -/
import Derived.Test.YthdapoipfnnaeaaSq
import Derived.Test.YthdapoipfnnaeaaQLawMatrixTwo5
import Derived.Test.YthdapoipfnnaeaaOpenMx
import Derived.Test.YthdapoipfnnaeaaOpen
/- The law MatrixTwo: its walk. -/
namespace Go.Proofs.Ythdapoipfnnaeaa.MxW
open Go.RowKit Go.Shelf Mem Gf FdW Mx Rng
open PlW (In)
open List renaming setIfInBounds_toArray → pA, set_cons_zero → pB, set_cons_succ → pC
set_option linter.unusedVariables false
set_option linter.unusedSectionVars false
attribute [local go_sem] Oper.semAt_some wide_fn
set_option maxRecDepth 100000 in
set_option maxHeartbeats 4000000 in
theorem two_in (w : World)  (Ra Ca : Int) (A : Option Addr) (la : List UInt8) (na ca : Nat) (hla : la.length = na) (hA : Bytes w w.heap.size A la) (hca : la.length ≤ ca) (Rb Cb : Int) (B : Option Addr) (lb : List UInt8) (nb cb : Nat) (hlb : lb.length = nb) (hB : Bytes w w.heap.size B lb) (hcb : lb.length ≤ cb) (hsa : smallB 12 Ra Ca na = true) (hsb : smallB 12 Rb Cb nb = true) (P1 P2 : Int) (pn : Nat) (lp : List UInt8) (pe : Int) (hmu : MulE Ra Ca na la Rb Cb nb lb P1 P2 pn lp pe) (S1 S2 : Int) (sn : Nat) (ls : List UInt8) (se : Int) (hso : SolE Ra Ca na la Rb Cb nb lb S1 S2 sn ls se) :
    Calls Try.prog 4 #[.agg #[.int .i64 Ra, .int .i64 Ca, .slice A na ca], .agg #[.int .i64 Rb, .int .i64 Cb, .slice B nb cb]] w fun e w' => e = .returned (.bool true) ∧ Below w.heap.size w w' := by
  have H0 := Lib.hid (((MS.start w).arg hA hca).arg hB hcb)
  have HLNa := Lib.hid hla
  have HLNb := Lib.hid hlb
  have HSa := Lib.hid hsa
  have HSb := Lib.hid hsb
  have HMU := Lib.hid hmu
  have HSO := Lib.hid hso
  clear hA hca hla hB hcb hlb hsa hsb hmu hso
  go_enter Try.func4, Try.ntmps4
  have L1 := Lib.hid (show MS _ _ _ ((w.heap.size, #[.int .i64 Ra, .int .i64 Ca, .slice A na ca]) :: _) (w.alloc (.cells #[.int .i64 Ra, .int .i64 Ca, .slice A na ca] 27)) from by have h := H0.out.put #[.int .i64 Ra, .int .i64 Ca, .slice A na ca]; (try simp only [World.size_alloc] at h); exact h)
  have L2 := Lib.hid (show MS _ _ _ ((w.heap.size + 1, #[.int .i64 Rb, .int .i64 Cb, .slice B nb cb]) :: _) ((w.alloc (.cells #[.int .i64 Ra, .int .i64 Ca, .slice A na ca] 27)).alloc (.cells #[.int .i64 Rb, .int .i64 Cb, .slice B nb cb] 27)) from by have h := L1.out.put #[.int .i64 Rb, .int .i64 Cb, .slice B nb cb]; (try simp only [World.size_alloc] at h); exact h)
  obtain ⟨a3, b3, d3⟩ := L2.out.cells (.tail _ (.head _))
  go_wp2_with fail
  clear a3 b3 d3
  have H1 := L2
  clear L1 L2
  generalize ((w.alloc (.cells #[.int .i64 Ra, .int .i64 Ca, .slice A na ca] 27)).alloc (.cells #[.int .i64 Rb, .int .i64 Cb, .slice B nb cb] 27)) = w1 at *
  refine (smallR H1.out 12 (by decide) (v := true) HSa.out).mono ?_
  rintro e w2 ⟨rfl, h⟩
  have H2 := Lib.hid h
  clear h
  obtain ⟨a4, b4, d4⟩ := H2.out.cells (.head _)
  go_wp2_with fail
  clear a4 b4 d4
  refine (smallR H2.out 12 (by decide) (v := true) HSb.out).mono ?_
  rintro e w3 ⟨rfl, h⟩
  have H3 := Lib.hid h
  clear h
  go_wp2_with fail
  refine (newR H3.out).mono ?_
  rintro e w4 ⟨rfl, h⟩
  have H4 := Lib.hid h
  clear h
  go_wp2_with fail
  obtain ⟨fq, hfq⟩ : ∃ x, w3.heap.size = x := ⟨_, rfl⟩
  rw [hfq] at H4 ⊢
  clear hfq
  apply via2_2 (H := fun (gjx : Nat) (gjy : Nat) (Ajx : Option Addr) (cjx : Nat) (Ajy : Option Addr) (cjy : Nat) W => MS w (some fq) [⟨Ajy, lb, cjy⟩, ⟨Ajx, la, cjx⟩, ⟨B, lb, cb⟩, ⟨A, la, ca⟩] [(gjy, #[.int .i64 Rb, .int .i64 Cb, .slice Ajy nb cjy]), (gjx, #[.int .i64 Ra, .int .i64 Ca, .slice Ajx na cjx]), (w.heap.size + 1, #[.int .i64 Rb, .int .i64 Cb, .slice B nb cb]), (w.heap.size, #[.int .i64 Ra, .int .i64 Ca, .slice A na ca])] W)
  case main =>
   intro REST
   refine wp_region_noPanic ?_
   refine wp_heldG (fun w' => (w'.cell? ⟨w.heap.size, 0, none⟩ = some (.int .i64 Ra) ∧ w'.cell? ⟨w.heap.size, 1, none⟩ = some (.int .i64 Ca) ∧ w'.cell? ⟨w.heap.size, 2, none⟩ = some (.slice A na ca)) ∧ (w'.cell? ⟨w.heap.size + 1, 0, none⟩ = some (.int .i64 Rb) ∧ w'.cell? ⟨w.heap.size + 1, 1, none⟩ = some (.int .i64 Cb) ∧ w'.cell? ⟨w.heap.size + 1, 2, none⟩ = some (.slice B nb cb))) [] (by kernel_rfl) ?hs0 ?rg0
   case hs0 =>
     have h := H4.out.keep (nextN (Mem.start w4) 1)
     exact ⟨h.cells (.tail _ (.head _)), h.cells (.head _)⟩
   case rg0 =>
   intro hHeld
   have HD4 := Lib.hid (show MS _ _ _ _ w4.drew from H4.out.keep (nextN (Mem.start w4) 1))
   generalize w4.drew = wd4 at *
   refine tkG 0 ⟨some 26, .load 27 (.tmp 2), 27, _, #[], none⟩ (v := ?_) ?_ (by assumption) ?_
   rotate_left
   · intro w hSw
     try dsimp only at hSw
     obtain ⟨⟨k0, k1, k2⟩, ⟨l0, l1, l2⟩⟩ := hSw
     go_simp
     try with_reducible rfl
   try simp only [Act.put, pA, pB, pC]
   refine tkG 2 ⟨some 28, .load 27 (.tmp 3), 27, _, #[], none⟩ (v := ?_) ?_ (by assumption) ?_
   rotate_left
   · intro w hSw
     try dsimp only at hSw
     obtain ⟨⟨k0, k1, k2⟩, ⟨l0, l1, l2⟩⟩ := hSw
     go_simp
     try with_reducible rfl
   try simp only [Act.put, pA, pB, pC]
   refine wpAnyG_three (i := 1) (j := 4) (k := 5) (o := ⟨some 27, .call { callee := Callee.value (Operand.func 17), args := #[.tmp 26], argTypes := #[27] }, 27, _, #[⟨0, .data⟩], none⟩) (u := ⟨some 6, .alloc 27, 0, _, #[], none⟩) (v := ⟨some 7, .alloc 27, 0, _, #[], none⟩) (by kernel_rfl) rfl rfl rfl (fun K hK => ?_) (fun K hK => ?_) (fun K hK => ?_)
   · skip
     go_simp
     refine (copiedR HD4.out (.tail _ (.head _)) HLNa.out).mono ?_
     rintro e w5 ⟨A5, c5, rfl, h⟩
     have H5 := Lib.hid h
     clear h
     try dsimp only
     refine hK.out _ _ ?_ (fun hHeld => ?_)
     · intro _
       try dsimp only
       have h := H5.out
       exact ⟨h.cells (.tail _ (.head _)), h.cells (.head _)⟩
     clear hK K
     try simp only [Act.put, pA, pB, pC]
     have hHeld := hHeld (by kernel_rfl)
     refine wpAnyG_three (i := 3) (j := 4) (k := 5) (o := ⟨some 29, .call { callee := Callee.value (Operand.func 17), args := #[.tmp 28], argTypes := #[27] }, 27, _, #[⟨2, .data⟩, ⟨1, .chain⟩], none⟩) (u := ⟨some 6, .alloc 27, 0, _, #[], none⟩) (v := ⟨some 7, .alloc 27, 0, _, #[], none⟩) (by kernel_rfl) rfl rfl rfl (fun K hK => ?_) (fun K hK => ?_) (fun K hK => ?_)
     · skip
       go_simp
       refine (copiedR H5.out (.tail _ (.head _)) HLNb.out).mono ?_
       rintro e w6 ⟨A6, c6, rfl, h⟩
       have H6 := Lib.hid h
       clear h
       try dsimp only
       refine hK.out _ _ ?_ (fun hHeld => ?_)
       · intro _
         try dsimp only
         have h := H6.out
         exact ⟨h.cells (.tail _ (.head _)), h.cells (.head _)⟩
       clear hK K
       try simp only [Act.put, pA, pB, pC]
       have hHeld := hHeld (by kernel_rfl)
       refine wpAnyG_two (i := 4) (j := 5) (o := ⟨some 6, .alloc 27, 0, _, #[], none⟩) (u := ⟨some 7, .alloc 27, 0, _, #[], none⟩) (by kernel_rfl) rfl rfl (fun K hK => ?_) (fun K hK => ?_)
       · skip
         refine step_new (P := Try.prog) _ ⟨rfl, rfl, rfl⟩ newMx ?_
         have H7 := Lib.hid (H6.out.putT #[.int .i64 0, .int .i64 0, .slice none 0 0] 27)
         have HB7 := Lib.hid (And.intro H6.out.below.size H6.out.far)
         obtain ⟨g7, hg7⟩ : ∃ x, w6.heap.size = x := ⟨_, rfl⟩
         rw [hg7] at H7 HB7 ⊢
         clear hg7
         generalize w6.alloc (.cells #[.int .i64 0, .int .i64 0, .slice none 0 0] 27) = w7 at *
         try dsimp only
         refine hK.out _ _ ?_ (fun hHeld => ?_)
         · intro _
           try dsimp only
           have h := H7.out
           exact ⟨h.cells (.tail _ (.tail _ (.head _))), h.cells (.tail _ (.head _))⟩
         clear hK K
         try simp only [Act.put, pA, pB, pC]
         have hHeld := hHeld (by kernel_rfl)
         refine onG 5 ⟨some 7, .alloc 27, 0, _, #[], none⟩ (fun K hK => ?_)
         refine step_new (P := Try.prog) _ ⟨rfl, rfl, rfl⟩ newMx ?_
         have H8 := Lib.hid (H7.out.putT #[.int .i64 0, .int .i64 0, .slice none 0 0] 27)
         have HB8 := Lib.hid (And.intro H7.out.below.size H7.out.far)
         obtain ⟨g8, hg8⟩ : ∃ x, w7.heap.size = x := ⟨_, rfl⟩
         rw [hg8] at H8 HB8 ⊢
         clear hg8
         generalize w7.alloc (.cells #[.int .i64 0, .int .i64 0, .slice none 0 0] 27) = w8 at *
         try dsimp only
         refine hK.out _ _ ?_ (fun hHeld => ?_)
         · intro _
           try dsimp only
           have h := H8.out
           exact ⟨h.cells (.tail _ (.tail _ (.tail _ (.head _)))), h.cells (.tail _ (.tail _ (.head _)))⟩
         clear hK K
         try simp only [Act.put, pA, pB, pC]
         have hHeld := hHeld (by kernel_rfl)
         refine onG 6 ⟨none, .store 27 (.tmp 6) (.tmp 27), 0, _, #[⟨4, .data⟩, ⟨1, .data⟩, ⟨3, .chain⟩, ⟨0, .phase⟩, ⟨1, .phase⟩, { on := 2, ground := Ground.textOnly Departure.lateStores }, { on := 3, ground := Ground.textOnly Departure.lateStoresUnsure }, ⟨4, .phase⟩, ⟨5, .phase⟩], none⟩ (fun K hK => ?_)
         have HP9 := Lib.hid (H8.out.sub (X' := [(g7, #[.int .i64 0, .int .i64 0, .slice none 0 0]), (g8, #[.int .i64 0, .int .i64 0, .slice none 0 0]), (w.heap.size + 1, #[.int .i64 Rb, .int .i64 Cb, .slice B nb cb]), (w.heap.size, #[.int .i64 Ra, .int .i64 Ca, .slice A na ca])]) (fun _ h => h) (List.forall_mem_cons.2 ⟨(.tail _ (.head _)), (List.forall_mem_cons.2 ⟨(.head _), (List.forall_mem_cons.2 ⟨(.tail _ (.tail _ (.head _))), (List.forall_mem_cons.2 ⟨(.tail _ (.tail _ (.tail _ (.head _)))), (fun _ h => (List.not_mem_nil h).elim)⟩)⟩)⟩)⟩))
         obtain ⟨⟨z0, z1, z2⟩, f0, f1, f2⟩ := HP9.out.blk (.head _)
         go_simp
         have H9 := Lib.hid (HP9.out.set HB7.out.1 (List.forall_mem_cons.2 ⟨(Ne.symm (HB8.out.2 (g7, #[.int .i64 0, .int .i64 0, .slice none 0 0]) (.head _))), (List.forall_mem_cons.2 ⟨(HB7.out.2 (w.heap.size + 1, #[.int .i64 Rb, .int .i64 Cb, .slice B nb cb]) (.head _)), (List.forall_mem_cons.2 ⟨(HB7.out.2 (w.heap.size, #[.int .i64 Ra, .int .i64 Ca, .slice A na ca]) (.tail _ (.head _))), (fun _ h => (List.not_mem_nil h).elim)⟩)⟩)⟩) (.int .i64 Ra) (.int .i64 Ca) (.slice A5 na c5))
         clear z0 z1 z2 f0 f1 f2 HP9
         generalize ((w8.setCell ⟨g7, 0, none⟩ (.int .i64 Ra)).setCell ⟨g7, 1, none⟩ (.int .i64 Ca)).setCell ⟨g7, 2, none⟩ (.slice A5 na c5) = w9 at *
         try dsimp only
         refine hK.out _ _ ?_ (fun hHeld => ?_)
         · intro _
           try dsimp only
           have h := H9.out
           exact ⟨h.cells (.tail _ (.tail _ (.tail _ (.head _)))), h.cells (.tail _ (.tail _ (.head _)))⟩
         clear hK K
         try simp only [Act.put, pA, pB, pC]
         have hHeld := hHeld (by kernel_rfl)
         refine onG 7 ⟨none, .store 27 (.tmp 7) (.tmp 29), 0, _, #[⟨5, .data⟩, ⟨3, .data⟩, ⟨6, .chain⟩, ⟨0, .phase⟩, ⟨1, .phase⟩, ⟨2, .phase⟩, ⟨3, .phase⟩, ⟨4, .phase⟩, ⟨5, .phase⟩, ⟨6, .phase⟩], none⟩ (fun K hK => ?_)
         have HP10 := Lib.hid (H9.out.sub (X' := [(g8, #[.int .i64 0, .int .i64 0, .slice none 0 0]), (g7, #[.int .i64 Ra, .int .i64 Ca, .slice A5 na c5]), (w.heap.size + 1, #[.int .i64 Rb, .int .i64 Cb, .slice B nb cb]), (w.heap.size, #[.int .i64 Ra, .int .i64 Ca, .slice A na ca])]) (fun _ h => h) (List.forall_mem_cons.2 ⟨(.tail _ (.head _)), (List.forall_mem_cons.2 ⟨(.head _), (List.forall_mem_cons.2 ⟨(.tail _ (.tail _ (.head _))), (List.forall_mem_cons.2 ⟨(.tail _ (.tail _ (.tail _ (.head _)))), (fun _ h => (List.not_mem_nil h).elim)⟩)⟩)⟩)⟩))
         obtain ⟨⟨z0, z1, z2⟩, f0, f1, f2⟩ := HP10.out.blk (.head _)
         go_simp
         have H10 := Lib.hid (HP10.out.set HB8.out.1 (List.forall_mem_cons.2 ⟨(HB8.out.2 (g7, #[.int .i64 0, .int .i64 0, .slice none 0 0]) (.head _)), (List.forall_mem_cons.2 ⟨(HB8.out.2 (w.heap.size + 1, #[.int .i64 Rb, .int .i64 Cb, .slice B nb cb]) (.tail _ (.head _))), (List.forall_mem_cons.2 ⟨(HB8.out.2 (w.heap.size, #[.int .i64 Ra, .int .i64 Ca, .slice A na ca]) (.tail _ (.tail _ (.head _)))), (fun _ h => (List.not_mem_nil h).elim)⟩)⟩)⟩) (.int .i64 Rb) (.int .i64 Cb) (.slice A6 nb c6))
         clear z0 z1 z2 f0 f1 f2 HP10
         generalize ((w9.setCell ⟨g8, 0, none⟩ (.int .i64 Rb)).setCell ⟨g8, 1, none⟩ (.int .i64 Cb)).setCell ⟨g8, 2, none⟩ (.slice A6 nb c6) = w10 at *
         try dsimp only
         refine hK.out _ _ ?_ (fun hHeld => ?_)
         · intro _
           try dsimp only
           have h := H10.out
           exact ⟨h.cells (.tail _ (.tail _ (.tail _ (.head _)))), h.cells (.tail _ (.tail _ (.head _)))⟩
         clear hK K
         try simp only [Act.put, pA, pB, pC]
         have hHeld := hHeld (by kernel_rfl)
         refine wpAnyG_done (by kernel_rfl) ?_ _
         refine NoPanic.normal ?_
         exact REST g7 g8 A5 c5 A6 c6 w10 (H10.out.sub (fun _ h => h) (List.forall_mem_cons.2 ⟨(.head _), (List.forall_mem_cons.2 ⟨(.tail _ (.head _)), (List.forall_mem_cons.2 ⟨(.tail _ (.tail _ (.head _))), (List.forall_mem_cons.2 ⟨(.tail _ (.tail _ (.tail _ (.head _)))), (fun _ h => (List.not_mem_nil h).elim)⟩)⟩)⟩)⟩))
       · skip
         refine step_new (P := Try.prog) _ ⟨rfl, rfl, rfl⟩ newMx ?_
         have H7 := Lib.hid (H6.out.putT #[.int .i64 0, .int .i64 0, .slice none 0 0] 27)
         have HB7 := Lib.hid (And.intro H6.out.below.size H6.out.far)
         obtain ⟨g7, hg7⟩ : ∃ x, w6.heap.size = x := ⟨_, rfl⟩
         rw [hg7] at H7 HB7 ⊢
         clear hg7
         generalize w6.alloc (.cells #[.int .i64 0, .int .i64 0, .slice none 0 0] 27) = w7 at *
         try dsimp only
         refine hK.out _ _ ?_ (fun hHeld => ?_)
         · intro _
           try dsimp only
           have h := H7.out
           exact ⟨h.cells (.tail _ (.tail _ (.head _))), h.cells (.tail _ (.head _))⟩
         clear hK K
         try simp only [Act.put, pA, pB, pC]
         have hHeld := hHeld (by kernel_rfl)
         refine onG 4 ⟨some 6, .alloc 27, 0, _, #[], none⟩ (fun K hK => ?_)
         refine step_new (P := Try.prog) _ ⟨rfl, rfl, rfl⟩ newMx ?_
         have H8 := Lib.hid (H7.out.putT #[.int .i64 0, .int .i64 0, .slice none 0 0] 27)
         have HB8 := Lib.hid (And.intro H7.out.below.size H7.out.far)
         obtain ⟨g8, hg8⟩ : ∃ x, w7.heap.size = x := ⟨_, rfl⟩
         rw [hg8] at H8 HB8 ⊢
         clear hg8
         generalize w7.alloc (.cells #[.int .i64 0, .int .i64 0, .slice none 0 0] 27) = w8 at *
         try dsimp only
         refine hK.out _ _ ?_ (fun hHeld => ?_)
         · intro _
           try dsimp only
           have h := H8.out
           exact ⟨h.cells (.tail _ (.tail _ (.tail _ (.head _)))), h.cells (.tail _ (.tail _ (.head _)))⟩
         clear hK K
         try simp only [Act.put, pA, pB, pC]
         have hHeld := hHeld (by kernel_rfl)
         refine onG 6 ⟨none, .store 27 (.tmp 6) (.tmp 27), 0, _, #[⟨4, .data⟩, ⟨1, .data⟩, ⟨3, .chain⟩, ⟨0, .phase⟩, ⟨1, .phase⟩, { on := 2, ground := Ground.textOnly Departure.lateStores }, { on := 3, ground := Ground.textOnly Departure.lateStoresUnsure }, ⟨4, .phase⟩, ⟨5, .phase⟩], none⟩ (fun K hK => ?_)
         have HP9 := Lib.hid (H8.out.sub (X' := [(g8, #[.int .i64 0, .int .i64 0, .slice none 0 0]), (g7, #[.int .i64 0, .int .i64 0, .slice none 0 0]), (w.heap.size + 1, #[.int .i64 Rb, .int .i64 Cb, .slice B nb cb]), (w.heap.size, #[.int .i64 Ra, .int .i64 Ca, .slice A na ca])]) (fun _ h => h) (List.forall_mem_cons.2 ⟨(.head _), (List.forall_mem_cons.2 ⟨(.tail _ (.head _)), (List.forall_mem_cons.2 ⟨(.tail _ (.tail _ (.head _))), (List.forall_mem_cons.2 ⟨(.tail _ (.tail _ (.tail _ (.head _)))), (fun _ h => (List.not_mem_nil h).elim)⟩)⟩)⟩)⟩))
         obtain ⟨⟨z0, z1, z2⟩, f0, f1, f2⟩ := HP9.out.blk (.head _)
         go_simp
         have H9 := Lib.hid (HP9.out.set HB8.out.1 (List.forall_mem_cons.2 ⟨(HB8.out.2 (g7, #[.int .i64 0, .int .i64 0, .slice none 0 0]) (.head _)), (List.forall_mem_cons.2 ⟨(HB8.out.2 (w.heap.size + 1, #[.int .i64 Rb, .int .i64 Cb, .slice B nb cb]) (.tail _ (.head _))), (List.forall_mem_cons.2 ⟨(HB8.out.2 (w.heap.size, #[.int .i64 Ra, .int .i64 Ca, .slice A na ca]) (.tail _ (.tail _ (.head _)))), (fun _ h => (List.not_mem_nil h).elim)⟩)⟩)⟩) (.int .i64 Ra) (.int .i64 Ca) (.slice A5 na c5))
         clear z0 z1 z2 f0 f1 f2 HP9
         generalize ((w8.setCell ⟨g8, 0, none⟩ (.int .i64 Ra)).setCell ⟨g8, 1, none⟩ (.int .i64 Ca)).setCell ⟨g8, 2, none⟩ (.slice A5 na c5) = w9 at *
         try dsimp only
         refine hK.out _ _ ?_ (fun hHeld => ?_)
         · intro _
           try dsimp only
           have h := H9.out
           exact ⟨h.cells (.tail _ (.tail _ (.tail _ (.head _)))), h.cells (.tail _ (.tail _ (.head _)))⟩
         clear hK K
         try simp only [Act.put, pA, pB, pC]
         have hHeld := hHeld (by kernel_rfl)
         refine onG 7 ⟨none, .store 27 (.tmp 7) (.tmp 29), 0, _, #[⟨5, .data⟩, ⟨3, .data⟩, ⟨6, .chain⟩, ⟨0, .phase⟩, ⟨1, .phase⟩, ⟨2, .phase⟩, ⟨3, .phase⟩, ⟨4, .phase⟩, ⟨5, .phase⟩, ⟨6, .phase⟩], none⟩ (fun K hK => ?_)
         have HP10 := Lib.hid (H9.out.sub (X' := [(g7, #[.int .i64 0, .int .i64 0, .slice none 0 0]), (g8, #[.int .i64 Ra, .int .i64 Ca, .slice A5 na c5]), (w.heap.size + 1, #[.int .i64 Rb, .int .i64 Cb, .slice B nb cb]), (w.heap.size, #[.int .i64 Ra, .int .i64 Ca, .slice A na ca])]) (fun _ h => h) (List.forall_mem_cons.2 ⟨(.tail _ (.head _)), (List.forall_mem_cons.2 ⟨(.head _), (List.forall_mem_cons.2 ⟨(.tail _ (.tail _ (.head _))), (List.forall_mem_cons.2 ⟨(.tail _ (.tail _ (.tail _ (.head _)))), (fun _ h => (List.not_mem_nil h).elim)⟩)⟩)⟩)⟩))
         obtain ⟨⟨z0, z1, z2⟩, f0, f1, f2⟩ := HP10.out.blk (.head _)
         go_simp
         have H10 := Lib.hid (HP10.out.set HB7.out.1 (List.forall_mem_cons.2 ⟨(Ne.symm (HB8.out.2 (g7, #[.int .i64 0, .int .i64 0, .slice none 0 0]) (.head _))), (List.forall_mem_cons.2 ⟨(HB7.out.2 (w.heap.size + 1, #[.int .i64 Rb, .int .i64 Cb, .slice B nb cb]) (.head _)), (List.forall_mem_cons.2 ⟨(HB7.out.2 (w.heap.size, #[.int .i64 Ra, .int .i64 Ca, .slice A na ca]) (.tail _ (.head _))), (fun _ h => (List.not_mem_nil h).elim)⟩)⟩)⟩) (.int .i64 Rb) (.int .i64 Cb) (.slice A6 nb c6))
         clear z0 z1 z2 f0 f1 f2 HP10
         generalize ((w9.setCell ⟨g7, 0, none⟩ (.int .i64 Rb)).setCell ⟨g7, 1, none⟩ (.int .i64 Cb)).setCell ⟨g7, 2, none⟩ (.slice A6 nb c6) = w10 at *
         try dsimp only
         refine hK.out _ _ ?_ (fun hHeld => ?_)
         · intro _
           try dsimp only
           have h := H10.out
           exact ⟨h.cells (.tail _ (.tail _ (.tail _ (.head _)))), h.cells (.tail _ (.tail _ (.head _)))⟩
         clear hK K
         try simp only [Act.put, pA, pB, pC]
         have hHeld := hHeld (by kernel_rfl)
         refine wpAnyG_done (by kernel_rfl) ?_ _
         refine NoPanic.normal ?_
         exact REST g8 g7 A5 c5 A6 c6 w10 (H10.out.sub (fun _ h => h) (List.forall_mem_cons.2 ⟨(.head _), (List.forall_mem_cons.2 ⟨(.tail _ (.head _)), (List.forall_mem_cons.2 ⟨(.tail _ (.tail _ (.head _))), (List.forall_mem_cons.2 ⟨(.tail _ (.tail _ (.tail _ (.head _)))), (fun _ h => (List.not_mem_nil h).elim)⟩)⟩)⟩)⟩))
     · skip
       refine step_new (P := Try.prog) _ ⟨rfl, rfl, rfl⟩ newMx ?_
       have H6 := Lib.hid (H5.out.putT #[.int .i64 0, .int .i64 0, .slice none 0 0] 27)
       have HB6 := Lib.hid (And.intro H5.out.below.size H5.out.far)
       obtain ⟨g6, hg6⟩ : ∃ x, w5.heap.size = x := ⟨_, rfl⟩
       rw [hg6] at H6 HB6 ⊢
       clear hg6
       generalize w5.alloc (.cells #[.int .i64 0, .int .i64 0, .slice none 0 0] 27) = w6 at *
       try dsimp only
       refine hK.out _ _ ?_ (fun hHeld => ?_)
       · intro _
         try dsimp only
         have h := H6.out
         exact ⟨h.cells (.tail _ (.tail _ (.head _))), h.cells (.tail _ (.head _))⟩
       clear hK K
       try simp only [Act.put, pA, pB, pC]
       have hHeld := hHeld (by kernel_rfl)
       refine wpAnyG_two (i := 3) (j := 5) (o := ⟨some 29, .call { callee := Callee.value (Operand.func 17), args := #[.tmp 28], argTypes := #[27] }, 27, _, #[⟨2, .data⟩, ⟨1, .chain⟩], none⟩) (u := ⟨some 7, .alloc 27, 0, _, #[], none⟩) (by kernel_rfl) rfl rfl (fun K hK => ?_) (fun K hK => ?_)
       · skip
         go_simp
         refine (copiedR H6.out (.tail _ (.head _)) HLNb.out).mono ?_
         rintro e w7 ⟨A7, c7, rfl, h⟩
         have H7 := Lib.hid h
         clear h
         try dsimp only
         refine hK.out _ _ ?_ (fun hHeld => ?_)
         · intro _
           try dsimp only
           have h := H7.out
           exact ⟨h.cells (.tail _ (.tail _ (.head _))), h.cells (.tail _ (.head _))⟩
         clear hK K
         try simp only [Act.put, pA, pB, pC]
         have hHeld := hHeld (by kernel_rfl)
         refine onG 5 ⟨some 7, .alloc 27, 0, _, #[], none⟩ (fun K hK => ?_)
         refine step_new (P := Try.prog) _ ⟨rfl, rfl, rfl⟩ newMx ?_
         have H8 := Lib.hid (H7.out.putT #[.int .i64 0, .int .i64 0, .slice none 0 0] 27)
         have HB8 := Lib.hid (And.intro H7.out.below.size H7.out.far)
         obtain ⟨g8, hg8⟩ : ∃ x, w7.heap.size = x := ⟨_, rfl⟩
         rw [hg8] at H8 HB8 ⊢
         clear hg8
         generalize w7.alloc (.cells #[.int .i64 0, .int .i64 0, .slice none 0 0] 27) = w8 at *
         try dsimp only
         refine hK.out _ _ ?_ (fun hHeld => ?_)
         · intro _
           try dsimp only
           have h := H8.out
           exact ⟨h.cells (.tail _ (.tail _ (.tail _ (.head _)))), h.cells (.tail _ (.tail _ (.head _)))⟩
         clear hK K
         try simp only [Act.put, pA, pB, pC]
         have hHeld := hHeld (by kernel_rfl)
         refine onG 6 ⟨none, .store 27 (.tmp 6) (.tmp 27), 0, _, #[⟨4, .data⟩, ⟨1, .data⟩, ⟨3, .chain⟩, ⟨0, .phase⟩, ⟨1, .phase⟩, { on := 2, ground := Ground.textOnly Departure.lateStores }, { on := 3, ground := Ground.textOnly Departure.lateStoresUnsure }, ⟨4, .phase⟩, ⟨5, .phase⟩], none⟩ (fun K hK => ?_)
         have HP9 := Lib.hid (H8.out.sub (X' := [(g6, #[.int .i64 0, .int .i64 0, .slice none 0 0]), (g8, #[.int .i64 0, .int .i64 0, .slice none 0 0]), (w.heap.size + 1, #[.int .i64 Rb, .int .i64 Cb, .slice B nb cb]), (w.heap.size, #[.int .i64 Ra, .int .i64 Ca, .slice A na ca])]) (fun _ h => h) (List.forall_mem_cons.2 ⟨(.tail _ (.head _)), (List.forall_mem_cons.2 ⟨(.head _), (List.forall_mem_cons.2 ⟨(.tail _ (.tail _ (.head _))), (List.forall_mem_cons.2 ⟨(.tail _ (.tail _ (.tail _ (.head _)))), (fun _ h => (List.not_mem_nil h).elim)⟩)⟩)⟩)⟩))
         obtain ⟨⟨z0, z1, z2⟩, f0, f1, f2⟩ := HP9.out.blk (.head _)
         go_simp
         have H9 := Lib.hid (HP9.out.set HB6.out.1 (List.forall_mem_cons.2 ⟨(Ne.symm (HB8.out.2 (g6, #[.int .i64 0, .int .i64 0, .slice none 0 0]) (.head _))), (List.forall_mem_cons.2 ⟨(HB6.out.2 (w.heap.size + 1, #[.int .i64 Rb, .int .i64 Cb, .slice B nb cb]) (.head _)), (List.forall_mem_cons.2 ⟨(HB6.out.2 (w.heap.size, #[.int .i64 Ra, .int .i64 Ca, .slice A na ca]) (.tail _ (.head _))), (fun _ h => (List.not_mem_nil h).elim)⟩)⟩)⟩) (.int .i64 Ra) (.int .i64 Ca) (.slice A5 na c5))
         clear z0 z1 z2 f0 f1 f2 HP9
         generalize ((w8.setCell ⟨g6, 0, none⟩ (.int .i64 Ra)).setCell ⟨g6, 1, none⟩ (.int .i64 Ca)).setCell ⟨g6, 2, none⟩ (.slice A5 na c5) = w9 at *
         try dsimp only
         refine hK.out _ _ ?_ (fun hHeld => ?_)
         · intro _
           try dsimp only
           have h := H9.out
           exact ⟨h.cells (.tail _ (.tail _ (.tail _ (.head _)))), h.cells (.tail _ (.tail _ (.head _)))⟩
         clear hK K
         try simp only [Act.put, pA, pB, pC]
         have hHeld := hHeld (by kernel_rfl)
         refine onG 7 ⟨none, .store 27 (.tmp 7) (.tmp 29), 0, _, #[⟨5, .data⟩, ⟨3, .data⟩, ⟨6, .chain⟩, ⟨0, .phase⟩, ⟨1, .phase⟩, ⟨2, .phase⟩, ⟨3, .phase⟩, ⟨4, .phase⟩, ⟨5, .phase⟩, ⟨6, .phase⟩], none⟩ (fun K hK => ?_)
         have HP10 := Lib.hid (H9.out.sub (X' := [(g8, #[.int .i64 0, .int .i64 0, .slice none 0 0]), (g6, #[.int .i64 Ra, .int .i64 Ca, .slice A5 na c5]), (w.heap.size + 1, #[.int .i64 Rb, .int .i64 Cb, .slice B nb cb]), (w.heap.size, #[.int .i64 Ra, .int .i64 Ca, .slice A na ca])]) (fun _ h => h) (List.forall_mem_cons.2 ⟨(.tail _ (.head _)), (List.forall_mem_cons.2 ⟨(.head _), (List.forall_mem_cons.2 ⟨(.tail _ (.tail _ (.head _))), (List.forall_mem_cons.2 ⟨(.tail _ (.tail _ (.tail _ (.head _)))), (fun _ h => (List.not_mem_nil h).elim)⟩)⟩)⟩)⟩))
         obtain ⟨⟨z0, z1, z2⟩, f0, f1, f2⟩ := HP10.out.blk (.head _)
         go_simp
         have H10 := Lib.hid (HP10.out.set HB8.out.1 (List.forall_mem_cons.2 ⟨(HB8.out.2 (g6, #[.int .i64 0, .int .i64 0, .slice none 0 0]) (.head _)), (List.forall_mem_cons.2 ⟨(HB8.out.2 (w.heap.size + 1, #[.int .i64 Rb, .int .i64 Cb, .slice B nb cb]) (.tail _ (.head _))), (List.forall_mem_cons.2 ⟨(HB8.out.2 (w.heap.size, #[.int .i64 Ra, .int .i64 Ca, .slice A na ca]) (.tail _ (.tail _ (.head _)))), (fun _ h => (List.not_mem_nil h).elim)⟩)⟩)⟩) (.int .i64 Rb) (.int .i64 Cb) (.slice A7 nb c7))
         clear z0 z1 z2 f0 f1 f2 HP10
         generalize ((w9.setCell ⟨g8, 0, none⟩ (.int .i64 Rb)).setCell ⟨g8, 1, none⟩ (.int .i64 Cb)).setCell ⟨g8, 2, none⟩ (.slice A7 nb c7) = w10 at *
         try dsimp only
         refine hK.out _ _ ?_ (fun hHeld => ?_)
         · intro _
           try dsimp only
           have h := H10.out
           exact ⟨h.cells (.tail _ (.tail _ (.tail _ (.head _)))), h.cells (.tail _ (.tail _ (.head _)))⟩
         clear hK K
         try simp only [Act.put, pA, pB, pC]
         have hHeld := hHeld (by kernel_rfl)
         refine wpAnyG_done (by kernel_rfl) ?_ _
         refine NoPanic.normal ?_
         exact REST g6 g8 A5 c5 A7 c7 w10 (H10.out.sub (fun _ h => h) (List.forall_mem_cons.2 ⟨(.head _), (List.forall_mem_cons.2 ⟨(.tail _ (.head _)), (List.forall_mem_cons.2 ⟨(.tail _ (.tail _ (.head _))), (List.forall_mem_cons.2 ⟨(.tail _ (.tail _ (.tail _ (.head _)))), (fun _ h => (List.not_mem_nil h).elim)⟩)⟩)⟩)⟩))
       · skip
         refine step_new (P := Try.prog) _ ⟨rfl, rfl, rfl⟩ newMx ?_
         have H7 := Lib.hid (H6.out.putT #[.int .i64 0, .int .i64 0, .slice none 0 0] 27)
         have HB7 := Lib.hid (And.intro H6.out.below.size H6.out.far)
         obtain ⟨g7, hg7⟩ : ∃ x, w6.heap.size = x := ⟨_, rfl⟩
         rw [hg7] at H7 HB7 ⊢
         clear hg7
         generalize w6.alloc (.cells #[.int .i64 0, .int .i64 0, .slice none 0 0] 27) = w7 at *
         try dsimp only
         refine hK.out _ _ ?_ (fun hHeld => ?_)
         · intro _
           try dsimp only
           have h := H7.out
           exact ⟨h.cells (.tail _ (.tail _ (.tail _ (.head _)))), h.cells (.tail _ (.tail _ (.head _)))⟩
         clear hK K
         try simp only [Act.put, pA, pB, pC]
         have hHeld := hHeld (by kernel_rfl)
         refine onG 3 ⟨some 29, .call { callee := Callee.value (Operand.func 17), args := #[.tmp 28], argTypes := #[27] }, 27, _, #[⟨2, .data⟩, ⟨1, .chain⟩], none⟩ (fun K hK => ?_)
         go_simp
         refine (copiedR H7.out (.tail _ (.head _)) HLNb.out).mono ?_
         rintro e w8 ⟨A8, c8, rfl, h⟩
         have H8 := Lib.hid h
         clear h
         try dsimp only
         refine hK.out _ _ ?_ (fun hHeld => ?_)
         · intro _
           try dsimp only
           have h := H8.out
           exact ⟨h.cells (.tail _ (.tail _ (.tail _ (.head _)))), h.cells (.tail _ (.tail _ (.head _)))⟩
         clear hK K
         try simp only [Act.put, pA, pB, pC]
         have hHeld := hHeld (by kernel_rfl)
         refine onG 6 ⟨none, .store 27 (.tmp 6) (.tmp 27), 0, _, #[⟨4, .data⟩, ⟨1, .data⟩, ⟨3, .chain⟩, ⟨0, .phase⟩, ⟨1, .phase⟩, { on := 2, ground := Ground.textOnly Departure.lateStores }, { on := 3, ground := Ground.textOnly Departure.lateStoresUnsure }, ⟨4, .phase⟩, ⟨5, .phase⟩], none⟩ (fun K hK => ?_)
         have HP9 := Lib.hid (H8.out.sub (X' := [(g6, #[.int .i64 0, .int .i64 0, .slice none 0 0]), (g7, #[.int .i64 0, .int .i64 0, .slice none 0 0]), (w.heap.size + 1, #[.int .i64 Rb, .int .i64 Cb, .slice B nb cb]), (w.heap.size, #[.int .i64 Ra, .int .i64 Ca, .slice A na ca])]) (fun _ h => h) (List.forall_mem_cons.2 ⟨(.tail _ (.head _)), (List.forall_mem_cons.2 ⟨(.head _), (List.forall_mem_cons.2 ⟨(.tail _ (.tail _ (.head _))), (List.forall_mem_cons.2 ⟨(.tail _ (.tail _ (.tail _ (.head _)))), (fun _ h => (List.not_mem_nil h).elim)⟩)⟩)⟩)⟩))
         obtain ⟨⟨z0, z1, z2⟩, f0, f1, f2⟩ := HP9.out.blk (.head _)
         go_simp
         have H9 := Lib.hid (HP9.out.set HB6.out.1 (List.forall_mem_cons.2 ⟨(Ne.symm (HB7.out.2 (g6, #[.int .i64 0, .int .i64 0, .slice none 0 0]) (.head _))), (List.forall_mem_cons.2 ⟨(HB6.out.2 (w.heap.size + 1, #[.int .i64 Rb, .int .i64 Cb, .slice B nb cb]) (.head _)), (List.forall_mem_cons.2 ⟨(HB6.out.2 (w.heap.size, #[.int .i64 Ra, .int .i64 Ca, .slice A na ca]) (.tail _ (.head _))), (fun _ h => (List.not_mem_nil h).elim)⟩)⟩)⟩) (.int .i64 Ra) (.int .i64 Ca) (.slice A5 na c5))
         clear z0 z1 z2 f0 f1 f2 HP9
         generalize ((w8.setCell ⟨g6, 0, none⟩ (.int .i64 Ra)).setCell ⟨g6, 1, none⟩ (.int .i64 Ca)).setCell ⟨g6, 2, none⟩ (.slice A5 na c5) = w9 at *
         try dsimp only
         refine hK.out _ _ ?_ (fun hHeld => ?_)
         · intro _
           try dsimp only
           have h := H9.out
           exact ⟨h.cells (.tail _ (.tail _ (.tail _ (.head _)))), h.cells (.tail _ (.tail _ (.head _)))⟩
         clear hK K
         try simp only [Act.put, pA, pB, pC]
         have hHeld := hHeld (by kernel_rfl)
         refine onG 7 ⟨none, .store 27 (.tmp 7) (.tmp 29), 0, _, #[⟨5, .data⟩, ⟨3, .data⟩, ⟨6, .chain⟩, ⟨0, .phase⟩, ⟨1, .phase⟩, ⟨2, .phase⟩, ⟨3, .phase⟩, ⟨4, .phase⟩, ⟨5, .phase⟩, ⟨6, .phase⟩], none⟩ (fun K hK => ?_)
         have HP10 := Lib.hid (H9.out.sub (X' := [(g7, #[.int .i64 0, .int .i64 0, .slice none 0 0]), (g6, #[.int .i64 Ra, .int .i64 Ca, .slice A5 na c5]), (w.heap.size + 1, #[.int .i64 Rb, .int .i64 Cb, .slice B nb cb]), (w.heap.size, #[.int .i64 Ra, .int .i64 Ca, .slice A na ca])]) (fun _ h => h) (List.forall_mem_cons.2 ⟨(.tail _ (.head _)), (List.forall_mem_cons.2 ⟨(.head _), (List.forall_mem_cons.2 ⟨(.tail _ (.tail _ (.head _))), (List.forall_mem_cons.2 ⟨(.tail _ (.tail _ (.tail _ (.head _)))), (fun _ h => (List.not_mem_nil h).elim)⟩)⟩)⟩)⟩))
         obtain ⟨⟨z0, z1, z2⟩, f0, f1, f2⟩ := HP10.out.blk (.head _)
         go_simp
         have H10 := Lib.hid (HP10.out.set HB7.out.1 (List.forall_mem_cons.2 ⟨(HB7.out.2 (g6, #[.int .i64 0, .int .i64 0, .slice none 0 0]) (.head _)), (List.forall_mem_cons.2 ⟨(HB7.out.2 (w.heap.size + 1, #[.int .i64 Rb, .int .i64 Cb, .slice B nb cb]) (.tail _ (.head _))), (List.forall_mem_cons.2 ⟨(HB7.out.2 (w.heap.size, #[.int .i64 Ra, .int .i64 Ca, .slice A na ca]) (.tail _ (.tail _ (.head _)))), (fun _ h => (List.not_mem_nil h).elim)⟩)⟩)⟩) (.int .i64 Rb) (.int .i64 Cb) (.slice A8 nb c8))
         clear z0 z1 z2 f0 f1 f2 HP10
         generalize ((w9.setCell ⟨g7, 0, none⟩ (.int .i64 Rb)).setCell ⟨g7, 1, none⟩ (.int .i64 Cb)).setCell ⟨g7, 2, none⟩ (.slice A8 nb c8) = w10 at *
         try dsimp only
         refine hK.out _ _ ?_ (fun hHeld => ?_)
         · intro _
           try dsimp only
           have h := H10.out
           exact ⟨h.cells (.tail _ (.tail _ (.tail _ (.head _)))), h.cells (.tail _ (.tail _ (.head _)))⟩
         clear hK K
         try simp only [Act.put, pA, pB, pC]
         have hHeld := hHeld (by kernel_rfl)
         refine wpAnyG_done (by kernel_rfl) ?_ _
         refine NoPanic.normal ?_
         exact REST g6 g7 A5 c5 A8 c8 w10 (H10.out.sub (fun _ h => h) (List.forall_mem_cons.2 ⟨(.head _), (List.forall_mem_cons.2 ⟨(.tail _ (.head _)), (List.forall_mem_cons.2 ⟨(.tail _ (.tail _ (.head _))), (List.forall_mem_cons.2 ⟨(.tail _ (.tail _ (.tail _ (.head _)))), (fun _ h => (List.not_mem_nil h).elim)⟩)⟩)⟩)⟩))
     · skip
       refine step_new (P := Try.prog) _ ⟨rfl, rfl, rfl⟩ newMx ?_
       have H6 := Lib.hid (H5.out.putT #[.int .i64 0, .int .i64 0, .slice none 0 0] 27)
       have HB6 := Lib.hid (And.intro H5.out.below.size H5.out.far)
       obtain ⟨g6, hg6⟩ : ∃ x, w5.heap.size = x := ⟨_, rfl⟩
       rw [hg6] at H6 HB6 ⊢
       clear hg6
       generalize w5.alloc (.cells #[.int .i64 0, .int .i64 0, .slice none 0 0] 27) = w6 at *
       try dsimp only
       refine hK.out _ _ ?_ (fun hHeld => ?_)
       · intro _
         try dsimp only
         have h := H6.out
         exact ⟨h.cells (.tail _ (.tail _ (.head _))), h.cells (.tail _ (.head _))⟩
       clear hK K
       try simp only [Act.put, pA, pB, pC]
       have hHeld := hHeld (by kernel_rfl)
       refine wpAnyG_two (i := 3) (j := 4) (o := ⟨some 29, .call { callee := Callee.value (Operand.func 17), args := #[.tmp 28], argTypes := #[27] }, 27, _, #[⟨2, .data⟩, ⟨1, .chain⟩], none⟩) (u := ⟨some 6, .alloc 27, 0, _, #[], none⟩) (by kernel_rfl) rfl rfl (fun K hK => ?_) (fun K hK => ?_)
       · skip
         go_simp
         refine (copiedR H6.out (.tail _ (.head _)) HLNb.out).mono ?_
         rintro e w7 ⟨A7, c7, rfl, h⟩
         have H7 := Lib.hid h
         clear h
         try dsimp only
         refine hK.out _ _ ?_ (fun hHeld => ?_)
         · intro _
           try dsimp only
           have h := H7.out
           exact ⟨h.cells (.tail _ (.tail _ (.head _))), h.cells (.tail _ (.head _))⟩
         clear hK K
         try simp only [Act.put, pA, pB, pC]
         have hHeld := hHeld (by kernel_rfl)
         refine onG 4 ⟨some 6, .alloc 27, 0, _, #[], none⟩ (fun K hK => ?_)
         refine step_new (P := Try.prog) _ ⟨rfl, rfl, rfl⟩ newMx ?_
         have H8 := Lib.hid (H7.out.putT #[.int .i64 0, .int .i64 0, .slice none 0 0] 27)
         have HB8 := Lib.hid (And.intro H7.out.below.size H7.out.far)
         obtain ⟨g8, hg8⟩ : ∃ x, w7.heap.size = x := ⟨_, rfl⟩
         rw [hg8] at H8 HB8 ⊢
         clear hg8
         generalize w7.alloc (.cells #[.int .i64 0, .int .i64 0, .slice none 0 0] 27) = w8 at *
         try dsimp only
         refine hK.out _ _ ?_ (fun hHeld => ?_)
         · intro _
           try dsimp only
           have h := H8.out
           exact ⟨h.cells (.tail _ (.tail _ (.tail _ (.head _)))), h.cells (.tail _ (.tail _ (.head _)))⟩
         clear hK K
         try simp only [Act.put, pA, pB, pC]
         have hHeld := hHeld (by kernel_rfl)
         refine onG 6 ⟨none, .store 27 (.tmp 6) (.tmp 27), 0, _, #[⟨4, .data⟩, ⟨1, .data⟩, ⟨3, .chain⟩, ⟨0, .phase⟩, ⟨1, .phase⟩, { on := 2, ground := Ground.textOnly Departure.lateStores }, { on := 3, ground := Ground.textOnly Departure.lateStoresUnsure }, ⟨4, .phase⟩, ⟨5, .phase⟩], none⟩ (fun K hK => ?_)
         have HP9 := Lib.hid (H8.out.sub (X' := [(g8, #[.int .i64 0, .int .i64 0, .slice none 0 0]), (g6, #[.int .i64 0, .int .i64 0, .slice none 0 0]), (w.heap.size + 1, #[.int .i64 Rb, .int .i64 Cb, .slice B nb cb]), (w.heap.size, #[.int .i64 Ra, .int .i64 Ca, .slice A na ca])]) (fun _ h => h) (List.forall_mem_cons.2 ⟨(.head _), (List.forall_mem_cons.2 ⟨(.tail _ (.head _)), (List.forall_mem_cons.2 ⟨(.tail _ (.tail _ (.head _))), (List.forall_mem_cons.2 ⟨(.tail _ (.tail _ (.tail _ (.head _)))), (fun _ h => (List.not_mem_nil h).elim)⟩)⟩)⟩)⟩))
         obtain ⟨⟨z0, z1, z2⟩, f0, f1, f2⟩ := HP9.out.blk (.head _)
         go_simp
         have H9 := Lib.hid (HP9.out.set HB8.out.1 (List.forall_mem_cons.2 ⟨(HB8.out.2 (g6, #[.int .i64 0, .int .i64 0, .slice none 0 0]) (.head _)), (List.forall_mem_cons.2 ⟨(HB8.out.2 (w.heap.size + 1, #[.int .i64 Rb, .int .i64 Cb, .slice B nb cb]) (.tail _ (.head _))), (List.forall_mem_cons.2 ⟨(HB8.out.2 (w.heap.size, #[.int .i64 Ra, .int .i64 Ca, .slice A na ca]) (.tail _ (.tail _ (.head _)))), (fun _ h => (List.not_mem_nil h).elim)⟩)⟩)⟩) (.int .i64 Ra) (.int .i64 Ca) (.slice A5 na c5))
         clear z0 z1 z2 f0 f1 f2 HP9
         generalize ((w8.setCell ⟨g8, 0, none⟩ (.int .i64 Ra)).setCell ⟨g8, 1, none⟩ (.int .i64 Ca)).setCell ⟨g8, 2, none⟩ (.slice A5 na c5) = w9 at *
         try dsimp only
         refine hK.out _ _ ?_ (fun hHeld => ?_)
         · intro _
           try dsimp only
           have h := H9.out
           exact ⟨h.cells (.tail _ (.tail _ (.tail _ (.head _)))), h.cells (.tail _ (.tail _ (.head _)))⟩
         clear hK K
         try simp only [Act.put, pA, pB, pC]
         have hHeld := hHeld (by kernel_rfl)
         refine onG 7 ⟨none, .store 27 (.tmp 7) (.tmp 29), 0, _, #[⟨5, .data⟩, ⟨3, .data⟩, ⟨6, .chain⟩, ⟨0, .phase⟩, ⟨1, .phase⟩, ⟨2, .phase⟩, ⟨3, .phase⟩, ⟨4, .phase⟩, ⟨5, .phase⟩, ⟨6, .phase⟩], none⟩ (fun K hK => ?_)
         have HP10 := Lib.hid (H9.out.sub (X' := [(g6, #[.int .i64 0, .int .i64 0, .slice none 0 0]), (g8, #[.int .i64 Ra, .int .i64 Ca, .slice A5 na c5]), (w.heap.size + 1, #[.int .i64 Rb, .int .i64 Cb, .slice B nb cb]), (w.heap.size, #[.int .i64 Ra, .int .i64 Ca, .slice A na ca])]) (fun _ h => h) (List.forall_mem_cons.2 ⟨(.tail _ (.head _)), (List.forall_mem_cons.2 ⟨(.head _), (List.forall_mem_cons.2 ⟨(.tail _ (.tail _ (.head _))), (List.forall_mem_cons.2 ⟨(.tail _ (.tail _ (.tail _ (.head _)))), (fun _ h => (List.not_mem_nil h).elim)⟩)⟩)⟩)⟩))
         obtain ⟨⟨z0, z1, z2⟩, f0, f1, f2⟩ := HP10.out.blk (.head _)
         go_simp
         have H10 := Lib.hid (HP10.out.set HB6.out.1 (List.forall_mem_cons.2 ⟨(Ne.symm (HB8.out.2 (g6, #[.int .i64 0, .int .i64 0, .slice none 0 0]) (.head _))), (List.forall_mem_cons.2 ⟨(HB6.out.2 (w.heap.size + 1, #[.int .i64 Rb, .int .i64 Cb, .slice B nb cb]) (.head _)), (List.forall_mem_cons.2 ⟨(HB6.out.2 (w.heap.size, #[.int .i64 Ra, .int .i64 Ca, .slice A na ca]) (.tail _ (.head _))), (fun _ h => (List.not_mem_nil h).elim)⟩)⟩)⟩) (.int .i64 Rb) (.int .i64 Cb) (.slice A7 nb c7))
         clear z0 z1 z2 f0 f1 f2 HP10
         generalize ((w9.setCell ⟨g6, 0, none⟩ (.int .i64 Rb)).setCell ⟨g6, 1, none⟩ (.int .i64 Cb)).setCell ⟨g6, 2, none⟩ (.slice A7 nb c7) = w10 at *
         try dsimp only
         refine hK.out _ _ ?_ (fun hHeld => ?_)
         · intro _
           try dsimp only
           have h := H10.out
           exact ⟨h.cells (.tail _ (.tail _ (.tail _ (.head _)))), h.cells (.tail _ (.tail _ (.head _)))⟩
         clear hK K
         try simp only [Act.put, pA, pB, pC]
         have hHeld := hHeld (by kernel_rfl)
         refine wpAnyG_done (by kernel_rfl) ?_ _
         refine NoPanic.normal ?_
         exact REST g8 g6 A5 c5 A7 c7 w10 (H10.out.sub (fun _ h => h) (List.forall_mem_cons.2 ⟨(.head _), (List.forall_mem_cons.2 ⟨(.tail _ (.head _)), (List.forall_mem_cons.2 ⟨(.tail _ (.tail _ (.head _))), (List.forall_mem_cons.2 ⟨(.tail _ (.tail _ (.tail _ (.head _)))), (fun _ h => (List.not_mem_nil h).elim)⟩)⟩)⟩)⟩))
       · skip
         refine step_new (P := Try.prog) _ ⟨rfl, rfl, rfl⟩ newMx ?_
         have H7 := Lib.hid (H6.out.putT #[.int .i64 0, .int .i64 0, .slice none 0 0] 27)
         have HB7 := Lib.hid (And.intro H6.out.below.size H6.out.far)
         obtain ⟨g7, hg7⟩ : ∃ x, w6.heap.size = x := ⟨_, rfl⟩
         rw [hg7] at H7 HB7 ⊢
         clear hg7
         generalize w6.alloc (.cells #[.int .i64 0, .int .i64 0, .slice none 0 0] 27) = w7 at *
         try dsimp only
         refine hK.out _ _ ?_ (fun hHeld => ?_)
         · intro _
           try dsimp only
           have h := H7.out
           exact ⟨h.cells (.tail _ (.tail _ (.tail _ (.head _)))), h.cells (.tail _ (.tail _ (.head _)))⟩
         clear hK K
         try simp only [Act.put, pA, pB, pC]
         have hHeld := hHeld (by kernel_rfl)
         refine onG 3 ⟨some 29, .call { callee := Callee.value (Operand.func 17), args := #[.tmp 28], argTypes := #[27] }, 27, _, #[⟨2, .data⟩, ⟨1, .chain⟩], none⟩ (fun K hK => ?_)
         go_simp
         refine (copiedR H7.out (.tail _ (.head _)) HLNb.out).mono ?_
         rintro e w8 ⟨A8, c8, rfl, h⟩
         have H8 := Lib.hid h
         clear h
         try dsimp only
         refine hK.out _ _ ?_ (fun hHeld => ?_)
         · intro _
           try dsimp only
           have h := H8.out
           exact ⟨h.cells (.tail _ (.tail _ (.tail _ (.head _)))), h.cells (.tail _ (.tail _ (.head _)))⟩
         clear hK K
         try simp only [Act.put, pA, pB, pC]
         have hHeld := hHeld (by kernel_rfl)
         refine onG 6 ⟨none, .store 27 (.tmp 6) (.tmp 27), 0, _, #[⟨4, .data⟩, ⟨1, .data⟩, ⟨3, .chain⟩, ⟨0, .phase⟩, ⟨1, .phase⟩, { on := 2, ground := Ground.textOnly Departure.lateStores }, { on := 3, ground := Ground.textOnly Departure.lateStoresUnsure }, ⟨4, .phase⟩, ⟨5, .phase⟩], none⟩ (fun K hK => ?_)
         have HP9 := Lib.hid (H8.out.sub (X' := [(g7, #[.int .i64 0, .int .i64 0, .slice none 0 0]), (g6, #[.int .i64 0, .int .i64 0, .slice none 0 0]), (w.heap.size + 1, #[.int .i64 Rb, .int .i64 Cb, .slice B nb cb]), (w.heap.size, #[.int .i64 Ra, .int .i64 Ca, .slice A na ca])]) (fun _ h => h) (List.forall_mem_cons.2 ⟨(.head _), (List.forall_mem_cons.2 ⟨(.tail _ (.head _)), (List.forall_mem_cons.2 ⟨(.tail _ (.tail _ (.head _))), (List.forall_mem_cons.2 ⟨(.tail _ (.tail _ (.tail _ (.head _)))), (fun _ h => (List.not_mem_nil h).elim)⟩)⟩)⟩)⟩))
         obtain ⟨⟨z0, z1, z2⟩, f0, f1, f2⟩ := HP9.out.blk (.head _)
         go_simp
         have H9 := Lib.hid (HP9.out.set HB7.out.1 (List.forall_mem_cons.2 ⟨(HB7.out.2 (g6, #[.int .i64 0, .int .i64 0, .slice none 0 0]) (.head _)), (List.forall_mem_cons.2 ⟨(HB7.out.2 (w.heap.size + 1, #[.int .i64 Rb, .int .i64 Cb, .slice B nb cb]) (.tail _ (.head _))), (List.forall_mem_cons.2 ⟨(HB7.out.2 (w.heap.size, #[.int .i64 Ra, .int .i64 Ca, .slice A na ca]) (.tail _ (.tail _ (.head _)))), (fun _ h => (List.not_mem_nil h).elim)⟩)⟩)⟩) (.int .i64 Ra) (.int .i64 Ca) (.slice A5 na c5))
         clear z0 z1 z2 f0 f1 f2 HP9
         generalize ((w8.setCell ⟨g7, 0, none⟩ (.int .i64 Ra)).setCell ⟨g7, 1, none⟩ (.int .i64 Ca)).setCell ⟨g7, 2, none⟩ (.slice A5 na c5) = w9 at *
         try dsimp only
         refine hK.out _ _ ?_ (fun hHeld => ?_)
         · intro _
           try dsimp only
           have h := H9.out
           exact ⟨h.cells (.tail _ (.tail _ (.tail _ (.head _)))), h.cells (.tail _ (.tail _ (.head _)))⟩
         clear hK K
         try simp only [Act.put, pA, pB, pC]
         have hHeld := hHeld (by kernel_rfl)
         refine onG 7 ⟨none, .store 27 (.tmp 7) (.tmp 29), 0, _, #[⟨5, .data⟩, ⟨3, .data⟩, ⟨6, .chain⟩, ⟨0, .phase⟩, ⟨1, .phase⟩, ⟨2, .phase⟩, ⟨3, .phase⟩, ⟨4, .phase⟩, ⟨5, .phase⟩, ⟨6, .phase⟩], none⟩ (fun K hK => ?_)
         have HP10 := Lib.hid (H9.out.sub (X' := [(g6, #[.int .i64 0, .int .i64 0, .slice none 0 0]), (g7, #[.int .i64 Ra, .int .i64 Ca, .slice A5 na c5]), (w.heap.size + 1, #[.int .i64 Rb, .int .i64 Cb, .slice B nb cb]), (w.heap.size, #[.int .i64 Ra, .int .i64 Ca, .slice A na ca])]) (fun _ h => h) (List.forall_mem_cons.2 ⟨(.tail _ (.head _)), (List.forall_mem_cons.2 ⟨(.head _), (List.forall_mem_cons.2 ⟨(.tail _ (.tail _ (.head _))), (List.forall_mem_cons.2 ⟨(.tail _ (.tail _ (.tail _ (.head _)))), (fun _ h => (List.not_mem_nil h).elim)⟩)⟩)⟩)⟩))
         obtain ⟨⟨z0, z1, z2⟩, f0, f1, f2⟩ := HP10.out.blk (.head _)
         go_simp
         have H10 := Lib.hid (HP10.out.set HB6.out.1 (List.forall_mem_cons.2 ⟨(Ne.symm (HB7.out.2 (g6, #[.int .i64 0, .int .i64 0, .slice none 0 0]) (.head _))), (List.forall_mem_cons.2 ⟨(HB6.out.2 (w.heap.size + 1, #[.int .i64 Rb, .int .i64 Cb, .slice B nb cb]) (.head _)), (List.forall_mem_cons.2 ⟨(HB6.out.2 (w.heap.size, #[.int .i64 Ra, .int .i64 Ca, .slice A na ca]) (.tail _ (.head _))), (fun _ h => (List.not_mem_nil h).elim)⟩)⟩)⟩) (.int .i64 Rb) (.int .i64 Cb) (.slice A8 nb c8))
         clear z0 z1 z2 f0 f1 f2 HP10
         generalize ((w9.setCell ⟨g6, 0, none⟩ (.int .i64 Rb)).setCell ⟨g6, 1, none⟩ (.int .i64 Cb)).setCell ⟨g6, 2, none⟩ (.slice A8 nb c8) = w10 at *
         try dsimp only
         refine hK.out _ _ ?_ (fun hHeld => ?_)
         · intro _
           try dsimp only
           have h := H10.out
           exact ⟨h.cells (.tail _ (.tail _ (.tail _ (.head _)))), h.cells (.tail _ (.tail _ (.head _)))⟩
         clear hK K
         try simp only [Act.put, pA, pB, pC]
         have hHeld := hHeld (by kernel_rfl)
         refine wpAnyG_done (by kernel_rfl) ?_ _
         refine NoPanic.normal ?_
         exact REST g7 g6 A5 c5 A8 c8 w10 (H10.out.sub (fun _ h => h) (List.forall_mem_cons.2 ⟨(.head _), (List.forall_mem_cons.2 ⟨(.tail _ (.head _)), (List.forall_mem_cons.2 ⟨(.tail _ (.tail _ (.head _))), (List.forall_mem_cons.2 ⟨(.tail _ (.tail _ (.tail _ (.head _)))), (fun _ h => (List.not_mem_nil h).elim)⟩)⟩)⟩)⟩))
   · skip
     refine step_new (P := Try.prog) _ ⟨rfl, rfl, rfl⟩ newMx ?_
     have H5 := Lib.hid (HD4.out.putT #[.int .i64 0, .int .i64 0, .slice none 0 0] 27)
     have HB5 := Lib.hid (And.intro HD4.out.below.size HD4.out.far)
     obtain ⟨g5, hg5⟩ : ∃ x, wd4.heap.size = x := ⟨_, rfl⟩
     rw [hg5] at H5 HB5 ⊢
     clear hg5
     generalize wd4.alloc (.cells #[.int .i64 0, .int .i64 0, .slice none 0 0] 27) = w5 at *
     try dsimp only
     refine hK.out _ _ ?_ (fun hHeld => ?_)
     · intro _
       try dsimp only
       have h := H5.out
       exact ⟨h.cells (.tail _ (.tail _ (.head _))), h.cells (.tail _ (.head _))⟩
     clear hK K
     try simp only [Act.put, pA, pB, pC]
     have hHeld := hHeld (by kernel_rfl)
     refine wpAnyG_two (i := 1) (j := 5) (o := ⟨some 27, .call { callee := Callee.value (Operand.func 17), args := #[.tmp 26], argTypes := #[27] }, 27, _, #[⟨0, .data⟩], none⟩) (u := ⟨some 7, .alloc 27, 0, _, #[], none⟩) (by kernel_rfl) rfl rfl (fun K hK => ?_) (fun K hK => ?_)
     · skip
       go_simp
       refine (copiedR H5.out (.tail _ (.head _)) HLNa.out).mono ?_
       rintro e w6 ⟨A6, c6, rfl, h⟩
       have H6 := Lib.hid h
       clear h
       try dsimp only
       refine hK.out _ _ ?_ (fun hHeld => ?_)
       · intro _
         try dsimp only
         have h := H6.out
         exact ⟨h.cells (.tail _ (.tail _ (.head _))), h.cells (.tail _ (.head _))⟩
       clear hK K
       try simp only [Act.put, pA, pB, pC]
       have hHeld := hHeld (by kernel_rfl)
       refine wpAnyG_two (i := 3) (j := 5) (o := ⟨some 29, .call { callee := Callee.value (Operand.func 17), args := #[.tmp 28], argTypes := #[27] }, 27, _, #[⟨2, .data⟩, ⟨1, .chain⟩], none⟩) (u := ⟨some 7, .alloc 27, 0, _, #[], none⟩) (by kernel_rfl) rfl rfl (fun K hK => ?_) (fun K hK => ?_)
       · skip
         go_simp
         refine (copiedR H6.out (.tail _ (.head _)) HLNb.out).mono ?_
         rintro e w7 ⟨A7, c7, rfl, h⟩
         have H7 := Lib.hid h
         clear h
         try dsimp only
         refine hK.out _ _ ?_ (fun hHeld => ?_)
         · intro _
           try dsimp only
           have h := H7.out
           exact ⟨h.cells (.tail _ (.tail _ (.head _))), h.cells (.tail _ (.head _))⟩
         clear hK K
         try simp only [Act.put, pA, pB, pC]
         have hHeld := hHeld (by kernel_rfl)
         refine onG 5 ⟨some 7, .alloc 27, 0, _, #[], none⟩ (fun K hK => ?_)
         refine step_new (P := Try.prog) _ ⟨rfl, rfl, rfl⟩ newMx ?_
         have H8 := Lib.hid (H7.out.putT #[.int .i64 0, .int .i64 0, .slice none 0 0] 27)
         have HB8 := Lib.hid (And.intro H7.out.below.size H7.out.far)
         obtain ⟨g8, hg8⟩ : ∃ x, w7.heap.size = x := ⟨_, rfl⟩
         rw [hg8] at H8 HB8 ⊢
         clear hg8
         generalize w7.alloc (.cells #[.int .i64 0, .int .i64 0, .slice none 0 0] 27) = w8 at *
         try dsimp only
         refine hK.out _ _ ?_ (fun hHeld => ?_)
         · intro _
           try dsimp only
           have h := H8.out
           exact ⟨h.cells (.tail _ (.tail _ (.tail _ (.head _)))), h.cells (.tail _ (.tail _ (.head _)))⟩
         clear hK K
         try simp only [Act.put, pA, pB, pC]
         have hHeld := hHeld (by kernel_rfl)
         refine onG 6 ⟨none, .store 27 (.tmp 6) (.tmp 27), 0, _, #[⟨4, .data⟩, ⟨1, .data⟩, ⟨3, .chain⟩, ⟨0, .phase⟩, ⟨1, .phase⟩, { on := 2, ground := Ground.textOnly Departure.lateStores }, { on := 3, ground := Ground.textOnly Departure.lateStoresUnsure }, ⟨4, .phase⟩, ⟨5, .phase⟩], none⟩ (fun K hK => ?_)
         have HP9 := Lib.hid (H8.out.sub (X' := [(g5, #[.int .i64 0, .int .i64 0, .slice none 0 0]), (g8, #[.int .i64 0, .int .i64 0, .slice none 0 0]), (w.heap.size + 1, #[.int .i64 Rb, .int .i64 Cb, .slice B nb cb]), (w.heap.size, #[.int .i64 Ra, .int .i64 Ca, .slice A na ca])]) (fun _ h => h) (List.forall_mem_cons.2 ⟨(.tail _ (.head _)), (List.forall_mem_cons.2 ⟨(.head _), (List.forall_mem_cons.2 ⟨(.tail _ (.tail _ (.head _))), (List.forall_mem_cons.2 ⟨(.tail _ (.tail _ (.tail _ (.head _)))), (fun _ h => (List.not_mem_nil h).elim)⟩)⟩)⟩)⟩))
         obtain ⟨⟨z0, z1, z2⟩, f0, f1, f2⟩ := HP9.out.blk (.head _)
         go_simp
         have H9 := Lib.hid (HP9.out.set HB5.out.1 (List.forall_mem_cons.2 ⟨(Ne.symm (HB8.out.2 (g5, #[.int .i64 0, .int .i64 0, .slice none 0 0]) (.head _))), (List.forall_mem_cons.2 ⟨(HB5.out.2 (w.heap.size + 1, #[.int .i64 Rb, .int .i64 Cb, .slice B nb cb]) (.head _)), (List.forall_mem_cons.2 ⟨(HB5.out.2 (w.heap.size, #[.int .i64 Ra, .int .i64 Ca, .slice A na ca]) (.tail _ (.head _))), (fun _ h => (List.not_mem_nil h).elim)⟩)⟩)⟩) (.int .i64 Ra) (.int .i64 Ca) (.slice A6 na c6))
         clear z0 z1 z2 f0 f1 f2 HP9
         generalize ((w8.setCell ⟨g5, 0, none⟩ (.int .i64 Ra)).setCell ⟨g5, 1, none⟩ (.int .i64 Ca)).setCell ⟨g5, 2, none⟩ (.slice A6 na c6) = w9 at *
         try dsimp only
         refine hK.out _ _ ?_ (fun hHeld => ?_)
         · intro _
           try dsimp only
           have h := H9.out
           exact ⟨h.cells (.tail _ (.tail _ (.tail _ (.head _)))), h.cells (.tail _ (.tail _ (.head _)))⟩
         clear hK K
         try simp only [Act.put, pA, pB, pC]
         have hHeld := hHeld (by kernel_rfl)
         refine onG 7 ⟨none, .store 27 (.tmp 7) (.tmp 29), 0, _, #[⟨5, .data⟩, ⟨3, .data⟩, ⟨6, .chain⟩, ⟨0, .phase⟩, ⟨1, .phase⟩, ⟨2, .phase⟩, ⟨3, .phase⟩, ⟨4, .phase⟩, ⟨5, .phase⟩, ⟨6, .phase⟩], none⟩ (fun K hK => ?_)
         have HP10 := Lib.hid (H9.out.sub (X' := [(g8, #[.int .i64 0, .int .i64 0, .slice none 0 0]), (g5, #[.int .i64 Ra, .int .i64 Ca, .slice A6 na c6]), (w.heap.size + 1, #[.int .i64 Rb, .int .i64 Cb, .slice B nb cb]), (w.heap.size, #[.int .i64 Ra, .int .i64 Ca, .slice A na ca])]) (fun _ h => h) (List.forall_mem_cons.2 ⟨(.tail _ (.head _)), (List.forall_mem_cons.2 ⟨(.head _), (List.forall_mem_cons.2 ⟨(.tail _ (.tail _ (.head _))), (List.forall_mem_cons.2 ⟨(.tail _ (.tail _ (.tail _ (.head _)))), (fun _ h => (List.not_mem_nil h).elim)⟩)⟩)⟩)⟩))
         obtain ⟨⟨z0, z1, z2⟩, f0, f1, f2⟩ := HP10.out.blk (.head _)
         go_simp
         have H10 := Lib.hid (HP10.out.set HB8.out.1 (List.forall_mem_cons.2 ⟨(HB8.out.2 (g5, #[.int .i64 0, .int .i64 0, .slice none 0 0]) (.head _)), (List.forall_mem_cons.2 ⟨(HB8.out.2 (w.heap.size + 1, #[.int .i64 Rb, .int .i64 Cb, .slice B nb cb]) (.tail _ (.head _))), (List.forall_mem_cons.2 ⟨(HB8.out.2 (w.heap.size, #[.int .i64 Ra, .int .i64 Ca, .slice A na ca]) (.tail _ (.tail _ (.head _)))), (fun _ h => (List.not_mem_nil h).elim)⟩)⟩)⟩) (.int .i64 Rb) (.int .i64 Cb) (.slice A7 nb c7))
         clear z0 z1 z2 f0 f1 f2 HP10
         generalize ((w9.setCell ⟨g8, 0, none⟩ (.int .i64 Rb)).setCell ⟨g8, 1, none⟩ (.int .i64 Cb)).setCell ⟨g8, 2, none⟩ (.slice A7 nb c7) = w10 at *
         try dsimp only
         refine hK.out _ _ ?_ (fun hHeld => ?_)
         · intro _
           try dsimp only
           have h := H10.out
           exact ⟨h.cells (.tail _ (.tail _ (.tail _ (.head _)))), h.cells (.tail _ (.tail _ (.head _)))⟩
         clear hK K
         try simp only [Act.put, pA, pB, pC]
         have hHeld := hHeld (by kernel_rfl)
         refine wpAnyG_done (by kernel_rfl) ?_ _
         refine NoPanic.normal ?_
         exact REST g5 g8 A6 c6 A7 c7 w10 (H10.out.sub (fun _ h => h) (List.forall_mem_cons.2 ⟨(.head _), (List.forall_mem_cons.2 ⟨(.tail _ (.head _)), (List.forall_mem_cons.2 ⟨(.tail _ (.tail _ (.head _))), (List.forall_mem_cons.2 ⟨(.tail _ (.tail _ (.tail _ (.head _)))), (fun _ h => (List.not_mem_nil h).elim)⟩)⟩)⟩)⟩))
       · skip
         refine step_new (P := Try.prog) _ ⟨rfl, rfl, rfl⟩ newMx ?_
         have H7 := Lib.hid (H6.out.putT #[.int .i64 0, .int .i64 0, .slice none 0 0] 27)
         have HB7 := Lib.hid (And.intro H6.out.below.size H6.out.far)
         obtain ⟨g7, hg7⟩ : ∃ x, w6.heap.size = x := ⟨_, rfl⟩
         rw [hg7] at H7 HB7 ⊢
         clear hg7
         generalize w6.alloc (.cells #[.int .i64 0, .int .i64 0, .slice none 0 0] 27) = w7 at *
         try dsimp only
         refine hK.out _ _ ?_ (fun hHeld => ?_)
         · intro _
           try dsimp only
           have h := H7.out
           exact ⟨h.cells (.tail _ (.tail _ (.tail _ (.head _)))), h.cells (.tail _ (.tail _ (.head _)))⟩
         clear hK K
         try simp only [Act.put, pA, pB, pC]
         have hHeld := hHeld (by kernel_rfl)
         refine onG 3 ⟨some 29, .call { callee := Callee.value (Operand.func 17), args := #[.tmp 28], argTypes := #[27] }, 27, _, #[⟨2, .data⟩, ⟨1, .chain⟩], none⟩ (fun K hK => ?_)
         go_simp
         refine (copiedR H7.out (.tail _ (.head _)) HLNb.out).mono ?_
         rintro e w8 ⟨A8, c8, rfl, h⟩
         have H8 := Lib.hid h
         clear h
         try dsimp only
         refine hK.out _ _ ?_ (fun hHeld => ?_)
         · intro _
           try dsimp only
           have h := H8.out
           exact ⟨h.cells (.tail _ (.tail _ (.tail _ (.head _)))), h.cells (.tail _ (.tail _ (.head _)))⟩
         clear hK K
         try simp only [Act.put, pA, pB, pC]
         have hHeld := hHeld (by kernel_rfl)
         refine onG 6 ⟨none, .store 27 (.tmp 6) (.tmp 27), 0, _, #[⟨4, .data⟩, ⟨1, .data⟩, ⟨3, .chain⟩, ⟨0, .phase⟩, ⟨1, .phase⟩, { on := 2, ground := Ground.textOnly Departure.lateStores }, { on := 3, ground := Ground.textOnly Departure.lateStoresUnsure }, ⟨4, .phase⟩, ⟨5, .phase⟩], none⟩ (fun K hK => ?_)
         have HP9 := Lib.hid (H8.out.sub (X' := [(g5, #[.int .i64 0, .int .i64 0, .slice none 0 0]), (g7, #[.int .i64 0, .int .i64 0, .slice none 0 0]), (w.heap.size + 1, #[.int .i64 Rb, .int .i64 Cb, .slice B nb cb]), (w.heap.size, #[.int .i64 Ra, .int .i64 Ca, .slice A na ca])]) (fun _ h => h) (List.forall_mem_cons.2 ⟨(.tail _ (.head _)), (List.forall_mem_cons.2 ⟨(.head _), (List.forall_mem_cons.2 ⟨(.tail _ (.tail _ (.head _))), (List.forall_mem_cons.2 ⟨(.tail _ (.tail _ (.tail _ (.head _)))), (fun _ h => (List.not_mem_nil h).elim)⟩)⟩)⟩)⟩))
         obtain ⟨⟨z0, z1, z2⟩, f0, f1, f2⟩ := HP9.out.blk (.head _)
         go_simp
         have H9 := Lib.hid (HP9.out.set HB5.out.1 (List.forall_mem_cons.2 ⟨(Ne.symm (HB7.out.2 (g5, #[.int .i64 0, .int .i64 0, .slice none 0 0]) (.head _))), (List.forall_mem_cons.2 ⟨(HB5.out.2 (w.heap.size + 1, #[.int .i64 Rb, .int .i64 Cb, .slice B nb cb]) (.head _)), (List.forall_mem_cons.2 ⟨(HB5.out.2 (w.heap.size, #[.int .i64 Ra, .int .i64 Ca, .slice A na ca]) (.tail _ (.head _))), (fun _ h => (List.not_mem_nil h).elim)⟩)⟩)⟩) (.int .i64 Ra) (.int .i64 Ca) (.slice A6 na c6))
         clear z0 z1 z2 f0 f1 f2 HP9
         generalize ((w8.setCell ⟨g5, 0, none⟩ (.int .i64 Ra)).setCell ⟨g5, 1, none⟩ (.int .i64 Ca)).setCell ⟨g5, 2, none⟩ (.slice A6 na c6) = w9 at *
         try dsimp only
         refine hK.out _ _ ?_ (fun hHeld => ?_)
         · intro _
           try dsimp only
           have h := H9.out
           exact ⟨h.cells (.tail _ (.tail _ (.tail _ (.head _)))), h.cells (.tail _ (.tail _ (.head _)))⟩
         clear hK K
         try simp only [Act.put, pA, pB, pC]
         have hHeld := hHeld (by kernel_rfl)
         refine onG 7 ⟨none, .store 27 (.tmp 7) (.tmp 29), 0, _, #[⟨5, .data⟩, ⟨3, .data⟩, ⟨6, .chain⟩, ⟨0, .phase⟩, ⟨1, .phase⟩, ⟨2, .phase⟩, ⟨3, .phase⟩, ⟨4, .phase⟩, ⟨5, .phase⟩, ⟨6, .phase⟩], none⟩ (fun K hK => ?_)
         have HP10 := Lib.hid (H9.out.sub (X' := [(g7, #[.int .i64 0, .int .i64 0, .slice none 0 0]), (g5, #[.int .i64 Ra, .int .i64 Ca, .slice A6 na c6]), (w.heap.size + 1, #[.int .i64 Rb, .int .i64 Cb, .slice B nb cb]), (w.heap.size, #[.int .i64 Ra, .int .i64 Ca, .slice A na ca])]) (fun _ h => h) (List.forall_mem_cons.2 ⟨(.tail _ (.head _)), (List.forall_mem_cons.2 ⟨(.head _), (List.forall_mem_cons.2 ⟨(.tail _ (.tail _ (.head _))), (List.forall_mem_cons.2 ⟨(.tail _ (.tail _ (.tail _ (.head _)))), (fun _ h => (List.not_mem_nil h).elim)⟩)⟩)⟩)⟩))
         obtain ⟨⟨z0, z1, z2⟩, f0, f1, f2⟩ := HP10.out.blk (.head _)
         go_simp
         have H10 := Lib.hid (HP10.out.set HB7.out.1 (List.forall_mem_cons.2 ⟨(HB7.out.2 (g5, #[.int .i64 0, .int .i64 0, .slice none 0 0]) (.head _)), (List.forall_mem_cons.2 ⟨(HB7.out.2 (w.heap.size + 1, #[.int .i64 Rb, .int .i64 Cb, .slice B nb cb]) (.tail _ (.head _))), (List.forall_mem_cons.2 ⟨(HB7.out.2 (w.heap.size, #[.int .i64 Ra, .int .i64 Ca, .slice A na ca]) (.tail _ (.tail _ (.head _)))), (fun _ h => (List.not_mem_nil h).elim)⟩)⟩)⟩) (.int .i64 Rb) (.int .i64 Cb) (.slice A8 nb c8))
         clear z0 z1 z2 f0 f1 f2 HP10
         generalize ((w9.setCell ⟨g7, 0, none⟩ (.int .i64 Rb)).setCell ⟨g7, 1, none⟩ (.int .i64 Cb)).setCell ⟨g7, 2, none⟩ (.slice A8 nb c8) = w10 at *
         try dsimp only
         refine hK.out _ _ ?_ (fun hHeld => ?_)
         · intro _
           try dsimp only
           have h := H10.out
           exact ⟨h.cells (.tail _ (.tail _ (.tail _ (.head _)))), h.cells (.tail _ (.tail _ (.head _)))⟩
         clear hK K
         try simp only [Act.put, pA, pB, pC]
         have hHeld := hHeld (by kernel_rfl)
         refine wpAnyG_done (by kernel_rfl) ?_ _
         refine NoPanic.normal ?_
         exact REST g5 g7 A6 c6 A8 c8 w10 (H10.out.sub (fun _ h => h) (List.forall_mem_cons.2 ⟨(.head _), (List.forall_mem_cons.2 ⟨(.tail _ (.head _)), (List.forall_mem_cons.2 ⟨(.tail _ (.tail _ (.head _))), (List.forall_mem_cons.2 ⟨(.tail _ (.tail _ (.tail _ (.head _)))), (fun _ h => (List.not_mem_nil h).elim)⟩)⟩)⟩)⟩))
     · skip
       refine step_new (P := Try.prog) _ ⟨rfl, rfl, rfl⟩ newMx ?_
       have H6 := Lib.hid (H5.out.putT #[.int .i64 0, .int .i64 0, .slice none 0 0] 27)
       have HB6 := Lib.hid (And.intro H5.out.below.size H5.out.far)
       obtain ⟨g6, hg6⟩ : ∃ x, w5.heap.size = x := ⟨_, rfl⟩
       rw [hg6] at H6 HB6 ⊢
       clear hg6
       generalize w5.alloc (.cells #[.int .i64 0, .int .i64 0, .slice none 0 0] 27) = w6 at *
       try dsimp only
       refine hK.out _ _ ?_ (fun hHeld => ?_)
       · intro _
         try dsimp only
         have h := H6.out
         exact ⟨h.cells (.tail _ (.tail _ (.tail _ (.head _)))), h.cells (.tail _ (.tail _ (.head _)))⟩
       clear hK K
       try simp only [Act.put, pA, pB, pC]
       have hHeld := hHeld (by kernel_rfl)
       refine onG 1 ⟨some 27, .call { callee := Callee.value (Operand.func 17), args := #[.tmp 26], argTypes := #[27] }, 27, _, #[⟨0, .data⟩], none⟩ (fun K hK => ?_)
       go_simp
       refine (copiedR H6.out (.tail _ (.head _)) HLNa.out).mono ?_
       rintro e w7 ⟨A7, c7, rfl, h⟩
       have H7 := Lib.hid h
       clear h
       try dsimp only
       refine hK.out _ _ ?_ (fun hHeld => ?_)
       · intro _
         try dsimp only
         have h := H7.out
         exact ⟨h.cells (.tail _ (.tail _ (.tail _ (.head _)))), h.cells (.tail _ (.tail _ (.head _)))⟩
       clear hK K
       try simp only [Act.put, pA, pB, pC]
       have hHeld := hHeld (by kernel_rfl)
       refine onG 3 ⟨some 29, .call { callee := Callee.value (Operand.func 17), args := #[.tmp 28], argTypes := #[27] }, 27, _, #[⟨2, .data⟩, ⟨1, .chain⟩], none⟩ (fun K hK => ?_)
       go_simp
       refine (copiedR H7.out (.tail _ (.head _)) HLNb.out).mono ?_
       rintro e w8 ⟨A8, c8, rfl, h⟩
       have H8 := Lib.hid h
       clear h
       try dsimp only
       refine hK.out _ _ ?_ (fun hHeld => ?_)
       · intro _
         try dsimp only
         have h := H8.out
         exact ⟨h.cells (.tail _ (.tail _ (.tail _ (.head _)))), h.cells (.tail _ (.tail _ (.head _)))⟩
       clear hK K
       try simp only [Act.put, pA, pB, pC]
       have hHeld := hHeld (by kernel_rfl)
       refine onG 6 ⟨none, .store 27 (.tmp 6) (.tmp 27), 0, _, #[⟨4, .data⟩, ⟨1, .data⟩, ⟨3, .chain⟩, ⟨0, .phase⟩, ⟨1, .phase⟩, { on := 2, ground := Ground.textOnly Departure.lateStores }, { on := 3, ground := Ground.textOnly Departure.lateStoresUnsure }, ⟨4, .phase⟩, ⟨5, .phase⟩], none⟩ (fun K hK => ?_)
       have HP9 := Lib.hid (H8.out.sub (X' := [(g5, #[.int .i64 0, .int .i64 0, .slice none 0 0]), (g6, #[.int .i64 0, .int .i64 0, .slice none 0 0]), (w.heap.size + 1, #[.int .i64 Rb, .int .i64 Cb, .slice B nb cb]), (w.heap.size, #[.int .i64 Ra, .int .i64 Ca, .slice A na ca])]) (fun _ h => h) (List.forall_mem_cons.2 ⟨(.tail _ (.head _)), (List.forall_mem_cons.2 ⟨(.head _), (List.forall_mem_cons.2 ⟨(.tail _ (.tail _ (.head _))), (List.forall_mem_cons.2 ⟨(.tail _ (.tail _ (.tail _ (.head _)))), (fun _ h => (List.not_mem_nil h).elim)⟩)⟩)⟩)⟩))
       obtain ⟨⟨z0, z1, z2⟩, f0, f1, f2⟩ := HP9.out.blk (.head _)
       go_simp
       have H9 := Lib.hid (HP9.out.set HB5.out.1 (List.forall_mem_cons.2 ⟨(Ne.symm (HB6.out.2 (g5, #[.int .i64 0, .int .i64 0, .slice none 0 0]) (.head _))), (List.forall_mem_cons.2 ⟨(HB5.out.2 (w.heap.size + 1, #[.int .i64 Rb, .int .i64 Cb, .slice B nb cb]) (.head _)), (List.forall_mem_cons.2 ⟨(HB5.out.2 (w.heap.size, #[.int .i64 Ra, .int .i64 Ca, .slice A na ca]) (.tail _ (.head _))), (fun _ h => (List.not_mem_nil h).elim)⟩)⟩)⟩) (.int .i64 Ra) (.int .i64 Ca) (.slice A7 na c7))
       clear z0 z1 z2 f0 f1 f2 HP9
       generalize ((w8.setCell ⟨g5, 0, none⟩ (.int .i64 Ra)).setCell ⟨g5, 1, none⟩ (.int .i64 Ca)).setCell ⟨g5, 2, none⟩ (.slice A7 na c7) = w9 at *
       try dsimp only
       refine hK.out _ _ ?_ (fun hHeld => ?_)
       · intro _
         try dsimp only
         have h := H9.out
         exact ⟨h.cells (.tail _ (.tail _ (.tail _ (.head _)))), h.cells (.tail _ (.tail _ (.head _)))⟩
       clear hK K
       try simp only [Act.put, pA, pB, pC]
       have hHeld := hHeld (by kernel_rfl)
       refine onG 7 ⟨none, .store 27 (.tmp 7) (.tmp 29), 0, _, #[⟨5, .data⟩, ⟨3, .data⟩, ⟨6, .chain⟩, ⟨0, .phase⟩, ⟨1, .phase⟩, ⟨2, .phase⟩, ⟨3, .phase⟩, ⟨4, .phase⟩, ⟨5, .phase⟩, ⟨6, .phase⟩], none⟩ (fun K hK => ?_)
       have HP10 := Lib.hid (H9.out.sub (X' := [(g6, #[.int .i64 0, .int .i64 0, .slice none 0 0]), (g5, #[.int .i64 Ra, .int .i64 Ca, .slice A7 na c7]), (w.heap.size + 1, #[.int .i64 Rb, .int .i64 Cb, .slice B nb cb]), (w.heap.size, #[.int .i64 Ra, .int .i64 Ca, .slice A na ca])]) (fun _ h => h) (List.forall_mem_cons.2 ⟨(.tail _ (.head _)), (List.forall_mem_cons.2 ⟨(.head _), (List.forall_mem_cons.2 ⟨(.tail _ (.tail _ (.head _))), (List.forall_mem_cons.2 ⟨(.tail _ (.tail _ (.tail _ (.head _)))), (fun _ h => (List.not_mem_nil h).elim)⟩)⟩)⟩)⟩))
       obtain ⟨⟨z0, z1, z2⟩, f0, f1, f2⟩ := HP10.out.blk (.head _)
       go_simp
       have H10 := Lib.hid (HP10.out.set HB6.out.1 (List.forall_mem_cons.2 ⟨(HB6.out.2 (g5, #[.int .i64 0, .int .i64 0, .slice none 0 0]) (.head _)), (List.forall_mem_cons.2 ⟨(HB6.out.2 (w.heap.size + 1, #[.int .i64 Rb, .int .i64 Cb, .slice B nb cb]) (.tail _ (.head _))), (List.forall_mem_cons.2 ⟨(HB6.out.2 (w.heap.size, #[.int .i64 Ra, .int .i64 Ca, .slice A na ca]) (.tail _ (.tail _ (.head _)))), (fun _ h => (List.not_mem_nil h).elim)⟩)⟩)⟩) (.int .i64 Rb) (.int .i64 Cb) (.slice A8 nb c8))
       clear z0 z1 z2 f0 f1 f2 HP10
       generalize ((w9.setCell ⟨g6, 0, none⟩ (.int .i64 Rb)).setCell ⟨g6, 1, none⟩ (.int .i64 Cb)).setCell ⟨g6, 2, none⟩ (.slice A8 nb c8) = w10 at *
       try dsimp only
       refine hK.out _ _ ?_ (fun hHeld => ?_)
       · intro _
         try dsimp only
         have h := H10.out
         exact ⟨h.cells (.tail _ (.tail _ (.tail _ (.head _)))), h.cells (.tail _ (.tail _ (.head _)))⟩
       clear hK K
       try simp only [Act.put, pA, pB, pC]
       have hHeld := hHeld (by kernel_rfl)
       refine wpAnyG_done (by kernel_rfl) ?_ _
       refine NoPanic.normal ?_
       exact REST g5 g6 A7 c7 A8 c8 w10 (H10.out.sub (fun _ h => h) (List.forall_mem_cons.2 ⟨(.head _), (List.forall_mem_cons.2 ⟨(.tail _ (.head _)), (List.forall_mem_cons.2 ⟨(.tail _ (.tail _ (.head _))), (List.forall_mem_cons.2 ⟨(.tail _ (.tail _ (.tail _ (.head _)))), (fun _ h => (List.not_mem_nil h).elim)⟩)⟩)⟩)⟩))
   · skip
     refine step_new (P := Try.prog) _ ⟨rfl, rfl, rfl⟩ newMx ?_
     have H5 := Lib.hid (HD4.out.putT #[.int .i64 0, .int .i64 0, .slice none 0 0] 27)
     have HB5 := Lib.hid (And.intro HD4.out.below.size HD4.out.far)
     obtain ⟨g5, hg5⟩ : ∃ x, wd4.heap.size = x := ⟨_, rfl⟩
     rw [hg5] at H5 HB5 ⊢
     clear hg5
     generalize wd4.alloc (.cells #[.int .i64 0, .int .i64 0, .slice none 0 0] 27) = w5 at *
     try dsimp only
     refine hK.out _ _ ?_ (fun hHeld => ?_)
     · intro _
       try dsimp only
       have h := H5.out
       exact ⟨h.cells (.tail _ (.tail _ (.head _))), h.cells (.tail _ (.head _))⟩
     clear hK K
     try simp only [Act.put, pA, pB, pC]
     have hHeld := hHeld (by kernel_rfl)
     refine wpAnyG_two (i := 1) (j := 4) (o := ⟨some 27, .call { callee := Callee.value (Operand.func 17), args := #[.tmp 26], argTypes := #[27] }, 27, _, #[⟨0, .data⟩], none⟩) (u := ⟨some 6, .alloc 27, 0, _, #[], none⟩) (by kernel_rfl) rfl rfl (fun K hK => ?_) (fun K hK => ?_)
     · skip
       go_simp
       refine (copiedR H5.out (.tail _ (.head _)) HLNa.out).mono ?_
       rintro e w6 ⟨A6, c6, rfl, h⟩
       have H6 := Lib.hid h
       clear h
       try dsimp only
       refine hK.out _ _ ?_ (fun hHeld => ?_)
       · intro _
         try dsimp only
         have h := H6.out
         exact ⟨h.cells (.tail _ (.tail _ (.head _))), h.cells (.tail _ (.head _))⟩
       clear hK K
       try simp only [Act.put, pA, pB, pC]
       have hHeld := hHeld (by kernel_rfl)
       refine wpAnyG_two (i := 3) (j := 4) (o := ⟨some 29, .call { callee := Callee.value (Operand.func 17), args := #[.tmp 28], argTypes := #[27] }, 27, _, #[⟨2, .data⟩, ⟨1, .chain⟩], none⟩) (u := ⟨some 6, .alloc 27, 0, _, #[], none⟩) (by kernel_rfl) rfl rfl (fun K hK => ?_) (fun K hK => ?_)
       · skip
         go_simp
         refine (copiedR H6.out (.tail _ (.head _)) HLNb.out).mono ?_
         rintro e w7 ⟨A7, c7, rfl, h⟩
         have H7 := Lib.hid h
         clear h
         try dsimp only
         refine hK.out _ _ ?_ (fun hHeld => ?_)
         · intro _
           try dsimp only
           have h := H7.out
           exact ⟨h.cells (.tail _ (.tail _ (.head _))), h.cells (.tail _ (.head _))⟩
         clear hK K
         try simp only [Act.put, pA, pB, pC]
         have hHeld := hHeld (by kernel_rfl)
         refine onG 4 ⟨some 6, .alloc 27, 0, _, #[], none⟩ (fun K hK => ?_)
         refine step_new (P := Try.prog) _ ⟨rfl, rfl, rfl⟩ newMx ?_
         have H8 := Lib.hid (H7.out.putT #[.int .i64 0, .int .i64 0, .slice none 0 0] 27)
         have HB8 := Lib.hid (And.intro H7.out.below.size H7.out.far)
         obtain ⟨g8, hg8⟩ : ∃ x, w7.heap.size = x := ⟨_, rfl⟩
         rw [hg8] at H8 HB8 ⊢
         clear hg8
         generalize w7.alloc (.cells #[.int .i64 0, .int .i64 0, .slice none 0 0] 27) = w8 at *
         try dsimp only
         refine hK.out _ _ ?_ (fun hHeld => ?_)
         · intro _
           try dsimp only
           have h := H8.out
           exact ⟨h.cells (.tail _ (.tail _ (.tail _ (.head _)))), h.cells (.tail _ (.tail _ (.head _)))⟩
         clear hK K
         try simp only [Act.put, pA, pB, pC]
         have hHeld := hHeld (by kernel_rfl)
         refine onG 6 ⟨none, .store 27 (.tmp 6) (.tmp 27), 0, _, #[⟨4, .data⟩, ⟨1, .data⟩, ⟨3, .chain⟩, ⟨0, .phase⟩, ⟨1, .phase⟩, { on := 2, ground := Ground.textOnly Departure.lateStores }, { on := 3, ground := Ground.textOnly Departure.lateStoresUnsure }, ⟨4, .phase⟩, ⟨5, .phase⟩], none⟩ (fun K hK => ?_)
         have HP9 := Lib.hid (H8.out.sub (X' := [(g8, #[.int .i64 0, .int .i64 0, .slice none 0 0]), (g5, #[.int .i64 0, .int .i64 0, .slice none 0 0]), (w.heap.size + 1, #[.int .i64 Rb, .int .i64 Cb, .slice B nb cb]), (w.heap.size, #[.int .i64 Ra, .int .i64 Ca, .slice A na ca])]) (fun _ h => h) (List.forall_mem_cons.2 ⟨(.head _), (List.forall_mem_cons.2 ⟨(.tail _ (.head _)), (List.forall_mem_cons.2 ⟨(.tail _ (.tail _ (.head _))), (List.forall_mem_cons.2 ⟨(.tail _ (.tail _ (.tail _ (.head _)))), (fun _ h => (List.not_mem_nil h).elim)⟩)⟩)⟩)⟩))
         obtain ⟨⟨z0, z1, z2⟩, f0, f1, f2⟩ := HP9.out.blk (.head _)
         go_simp
         have H9 := Lib.hid (HP9.out.set HB8.out.1 (List.forall_mem_cons.2 ⟨(HB8.out.2 (g5, #[.int .i64 0, .int .i64 0, .slice none 0 0]) (.head _)), (List.forall_mem_cons.2 ⟨(HB8.out.2 (w.heap.size + 1, #[.int .i64 Rb, .int .i64 Cb, .slice B nb cb]) (.tail _ (.head _))), (List.forall_mem_cons.2 ⟨(HB8.out.2 (w.heap.size, #[.int .i64 Ra, .int .i64 Ca, .slice A na ca]) (.tail _ (.tail _ (.head _)))), (fun _ h => (List.not_mem_nil h).elim)⟩)⟩)⟩) (.int .i64 Ra) (.int .i64 Ca) (.slice A6 na c6))
         clear z0 z1 z2 f0 f1 f2 HP9
         generalize ((w8.setCell ⟨g8, 0, none⟩ (.int .i64 Ra)).setCell ⟨g8, 1, none⟩ (.int .i64 Ca)).setCell ⟨g8, 2, none⟩ (.slice A6 na c6) = w9 at *
         try dsimp only
         refine hK.out _ _ ?_ (fun hHeld => ?_)
         · intro _
           try dsimp only
           have h := H9.out
           exact ⟨h.cells (.tail _ (.tail _ (.tail _ (.head _)))), h.cells (.tail _ (.tail _ (.head _)))⟩
         clear hK K
         try simp only [Act.put, pA, pB, pC]
         have hHeld := hHeld (by kernel_rfl)
         refine onG 7 ⟨none, .store 27 (.tmp 7) (.tmp 29), 0, _, #[⟨5, .data⟩, ⟨3, .data⟩, ⟨6, .chain⟩, ⟨0, .phase⟩, ⟨1, .phase⟩, ⟨2, .phase⟩, ⟨3, .phase⟩, ⟨4, .phase⟩, ⟨5, .phase⟩, ⟨6, .phase⟩], none⟩ (fun K hK => ?_)
         have HP10 := Lib.hid (H9.out.sub (X' := [(g5, #[.int .i64 0, .int .i64 0, .slice none 0 0]), (g8, #[.int .i64 Ra, .int .i64 Ca, .slice A6 na c6]), (w.heap.size + 1, #[.int .i64 Rb, .int .i64 Cb, .slice B nb cb]), (w.heap.size, #[.int .i64 Ra, .int .i64 Ca, .slice A na ca])]) (fun _ h => h) (List.forall_mem_cons.2 ⟨(.tail _ (.head _)), (List.forall_mem_cons.2 ⟨(.head _), (List.forall_mem_cons.2 ⟨(.tail _ (.tail _ (.head _))), (List.forall_mem_cons.2 ⟨(.tail _ (.tail _ (.tail _ (.head _)))), (fun _ h => (List.not_mem_nil h).elim)⟩)⟩)⟩)⟩))
         obtain ⟨⟨z0, z1, z2⟩, f0, f1, f2⟩ := HP10.out.blk (.head _)
         go_simp
         have H10 := Lib.hid (HP10.out.set HB5.out.1 (List.forall_mem_cons.2 ⟨(Ne.symm (HB8.out.2 (g5, #[.int .i64 0, .int .i64 0, .slice none 0 0]) (.head _))), (List.forall_mem_cons.2 ⟨(HB5.out.2 (w.heap.size + 1, #[.int .i64 Rb, .int .i64 Cb, .slice B nb cb]) (.head _)), (List.forall_mem_cons.2 ⟨(HB5.out.2 (w.heap.size, #[.int .i64 Ra, .int .i64 Ca, .slice A na ca]) (.tail _ (.head _))), (fun _ h => (List.not_mem_nil h).elim)⟩)⟩)⟩) (.int .i64 Rb) (.int .i64 Cb) (.slice A7 nb c7))
         clear z0 z1 z2 f0 f1 f2 HP10
         generalize ((w9.setCell ⟨g5, 0, none⟩ (.int .i64 Rb)).setCell ⟨g5, 1, none⟩ (.int .i64 Cb)).setCell ⟨g5, 2, none⟩ (.slice A7 nb c7) = w10 at *
         try dsimp only
         refine hK.out _ _ ?_ (fun hHeld => ?_)
         · intro _
           try dsimp only
           have h := H10.out
           exact ⟨h.cells (.tail _ (.tail _ (.tail _ (.head _)))), h.cells (.tail _ (.tail _ (.head _)))⟩
         clear hK K
         try simp only [Act.put, pA, pB, pC]
         have hHeld := hHeld (by kernel_rfl)
         refine wpAnyG_done (by kernel_rfl) ?_ _
         refine NoPanic.normal ?_
         exact REST g8 g5 A6 c6 A7 c7 w10 (H10.out.sub (fun _ h => h) (List.forall_mem_cons.2 ⟨(.head _), (List.forall_mem_cons.2 ⟨(.tail _ (.head _)), (List.forall_mem_cons.2 ⟨(.tail _ (.tail _ (.head _))), (List.forall_mem_cons.2 ⟨(.tail _ (.tail _ (.tail _ (.head _)))), (fun _ h => (List.not_mem_nil h).elim)⟩)⟩)⟩)⟩))
       · skip
         refine step_new (P := Try.prog) _ ⟨rfl, rfl, rfl⟩ newMx ?_
         have H7 := Lib.hid (H6.out.putT #[.int .i64 0, .int .i64 0, .slice none 0 0] 27)
         have HB7 := Lib.hid (And.intro H6.out.below.size H6.out.far)
         obtain ⟨g7, hg7⟩ : ∃ x, w6.heap.size = x := ⟨_, rfl⟩
         rw [hg7] at H7 HB7 ⊢
         clear hg7
         generalize w6.alloc (.cells #[.int .i64 0, .int .i64 0, .slice none 0 0] 27) = w7 at *
         try dsimp only
         refine hK.out _ _ ?_ (fun hHeld => ?_)
         · intro _
           try dsimp only
           have h := H7.out
           exact ⟨h.cells (.tail _ (.tail _ (.tail _ (.head _)))), h.cells (.tail _ (.tail _ (.head _)))⟩
         clear hK K
         try simp only [Act.put, pA, pB, pC]
         have hHeld := hHeld (by kernel_rfl)
         refine onG 3 ⟨some 29, .call { callee := Callee.value (Operand.func 17), args := #[.tmp 28], argTypes := #[27] }, 27, _, #[⟨2, .data⟩, ⟨1, .chain⟩], none⟩ (fun K hK => ?_)
         go_simp
         refine (copiedR H7.out (.tail _ (.head _)) HLNb.out).mono ?_
         rintro e w8 ⟨A8, c8, rfl, h⟩
         have H8 := Lib.hid h
         clear h
         try dsimp only
         refine hK.out _ _ ?_ (fun hHeld => ?_)
         · intro _
           try dsimp only
           have h := H8.out
           exact ⟨h.cells (.tail _ (.tail _ (.tail _ (.head _)))), h.cells (.tail _ (.tail _ (.head _)))⟩
         clear hK K
         try simp only [Act.put, pA, pB, pC]
         have hHeld := hHeld (by kernel_rfl)
         refine onG 6 ⟨none, .store 27 (.tmp 6) (.tmp 27), 0, _, #[⟨4, .data⟩, ⟨1, .data⟩, ⟨3, .chain⟩, ⟨0, .phase⟩, ⟨1, .phase⟩, { on := 2, ground := Ground.textOnly Departure.lateStores }, { on := 3, ground := Ground.textOnly Departure.lateStoresUnsure }, ⟨4, .phase⟩, ⟨5, .phase⟩], none⟩ (fun K hK => ?_)
         have HP9 := Lib.hid (H8.out.sub (X' := [(g7, #[.int .i64 0, .int .i64 0, .slice none 0 0]), (g5, #[.int .i64 0, .int .i64 0, .slice none 0 0]), (w.heap.size + 1, #[.int .i64 Rb, .int .i64 Cb, .slice B nb cb]), (w.heap.size, #[.int .i64 Ra, .int .i64 Ca, .slice A na ca])]) (fun _ h => h) (List.forall_mem_cons.2 ⟨(.head _), (List.forall_mem_cons.2 ⟨(.tail _ (.head _)), (List.forall_mem_cons.2 ⟨(.tail _ (.tail _ (.head _))), (List.forall_mem_cons.2 ⟨(.tail _ (.tail _ (.tail _ (.head _)))), (fun _ h => (List.not_mem_nil h).elim)⟩)⟩)⟩)⟩))
         obtain ⟨⟨z0, z1, z2⟩, f0, f1, f2⟩ := HP9.out.blk (.head _)
         go_simp
         have H9 := Lib.hid (HP9.out.set HB7.out.1 (List.forall_mem_cons.2 ⟨(HB7.out.2 (g5, #[.int .i64 0, .int .i64 0, .slice none 0 0]) (.head _)), (List.forall_mem_cons.2 ⟨(HB7.out.2 (w.heap.size + 1, #[.int .i64 Rb, .int .i64 Cb, .slice B nb cb]) (.tail _ (.head _))), (List.forall_mem_cons.2 ⟨(HB7.out.2 (w.heap.size, #[.int .i64 Ra, .int .i64 Ca, .slice A na ca]) (.tail _ (.tail _ (.head _)))), (fun _ h => (List.not_mem_nil h).elim)⟩)⟩)⟩) (.int .i64 Ra) (.int .i64 Ca) (.slice A6 na c6))
         clear z0 z1 z2 f0 f1 f2 HP9
         generalize ((w8.setCell ⟨g7, 0, none⟩ (.int .i64 Ra)).setCell ⟨g7, 1, none⟩ (.int .i64 Ca)).setCell ⟨g7, 2, none⟩ (.slice A6 na c6) = w9 at *
         try dsimp only
         refine hK.out _ _ ?_ (fun hHeld => ?_)
         · intro _
           try dsimp only
           have h := H9.out
           exact ⟨h.cells (.tail _ (.tail _ (.tail _ (.head _)))), h.cells (.tail _ (.tail _ (.head _)))⟩
         clear hK K
         try simp only [Act.put, pA, pB, pC]
         have hHeld := hHeld (by kernel_rfl)
         refine onG 7 ⟨none, .store 27 (.tmp 7) (.tmp 29), 0, _, #[⟨5, .data⟩, ⟨3, .data⟩, ⟨6, .chain⟩, ⟨0, .phase⟩, ⟨1, .phase⟩, ⟨2, .phase⟩, ⟨3, .phase⟩, ⟨4, .phase⟩, ⟨5, .phase⟩, ⟨6, .phase⟩], none⟩ (fun K hK => ?_)
         have HP10 := Lib.hid (H9.out.sub (X' := [(g5, #[.int .i64 0, .int .i64 0, .slice none 0 0]), (g7, #[.int .i64 Ra, .int .i64 Ca, .slice A6 na c6]), (w.heap.size + 1, #[.int .i64 Rb, .int .i64 Cb, .slice B nb cb]), (w.heap.size, #[.int .i64 Ra, .int .i64 Ca, .slice A na ca])]) (fun _ h => h) (List.forall_mem_cons.2 ⟨(.tail _ (.head _)), (List.forall_mem_cons.2 ⟨(.head _), (List.forall_mem_cons.2 ⟨(.tail _ (.tail _ (.head _))), (List.forall_mem_cons.2 ⟨(.tail _ (.tail _ (.tail _ (.head _)))), (fun _ h => (List.not_mem_nil h).elim)⟩)⟩)⟩)⟩))
         obtain ⟨⟨z0, z1, z2⟩, f0, f1, f2⟩ := HP10.out.blk (.head _)
         go_simp
         have H10 := Lib.hid (HP10.out.set HB5.out.1 (List.forall_mem_cons.2 ⟨(Ne.symm (HB7.out.2 (g5, #[.int .i64 0, .int .i64 0, .slice none 0 0]) (.head _))), (List.forall_mem_cons.2 ⟨(HB5.out.2 (w.heap.size + 1, #[.int .i64 Rb, .int .i64 Cb, .slice B nb cb]) (.head _)), (List.forall_mem_cons.2 ⟨(HB5.out.2 (w.heap.size, #[.int .i64 Ra, .int .i64 Ca, .slice A na ca]) (.tail _ (.head _))), (fun _ h => (List.not_mem_nil h).elim)⟩)⟩)⟩) (.int .i64 Rb) (.int .i64 Cb) (.slice A8 nb c8))
         clear z0 z1 z2 f0 f1 f2 HP10
         generalize ((w9.setCell ⟨g5, 0, none⟩ (.int .i64 Rb)).setCell ⟨g5, 1, none⟩ (.int .i64 Cb)).setCell ⟨g5, 2, none⟩ (.slice A8 nb c8) = w10 at *
         try dsimp only
         refine hK.out _ _ ?_ (fun hHeld => ?_)
         · intro _
           try dsimp only
           have h := H10.out
           exact ⟨h.cells (.tail _ (.tail _ (.tail _ (.head _)))), h.cells (.tail _ (.tail _ (.head _)))⟩
         clear hK K
         try simp only [Act.put, pA, pB, pC]
         have hHeld := hHeld (by kernel_rfl)
         refine wpAnyG_done (by kernel_rfl) ?_ _
         refine NoPanic.normal ?_
         exact REST g7 g5 A6 c6 A8 c8 w10 (H10.out.sub (fun _ h => h) (List.forall_mem_cons.2 ⟨(.head _), (List.forall_mem_cons.2 ⟨(.tail _ (.head _)), (List.forall_mem_cons.2 ⟨(.tail _ (.tail _ (.head _))), (List.forall_mem_cons.2 ⟨(.tail _ (.tail _ (.tail _ (.head _)))), (fun _ h => (List.not_mem_nil h).elim)⟩)⟩)⟩)⟩))
     · skip
       refine step_new (P := Try.prog) _ ⟨rfl, rfl, rfl⟩ newMx ?_
       have H6 := Lib.hid (H5.out.putT #[.int .i64 0, .int .i64 0, .slice none 0 0] 27)
       have HB6 := Lib.hid (And.intro H5.out.below.size H5.out.far)
       obtain ⟨g6, hg6⟩ : ∃ x, w5.heap.size = x := ⟨_, rfl⟩
       rw [hg6] at H6 HB6 ⊢
       clear hg6
       generalize w5.alloc (.cells #[.int .i64 0, .int .i64 0, .slice none 0 0] 27) = w6 at *
       try dsimp only
       refine hK.out _ _ ?_ (fun hHeld => ?_)
       · intro _
         try dsimp only
         have h := H6.out
         exact ⟨h.cells (.tail _ (.tail _ (.tail _ (.head _)))), h.cells (.tail _ (.tail _ (.head _)))⟩
       clear hK K
       try simp only [Act.put, pA, pB, pC]
       have hHeld := hHeld (by kernel_rfl)
       refine onG 1 ⟨some 27, .call { callee := Callee.value (Operand.func 17), args := #[.tmp 26], argTypes := #[27] }, 27, _, #[⟨0, .data⟩], none⟩ (fun K hK => ?_)
       go_simp
       refine (copiedR H6.out (.tail _ (.head _)) HLNa.out).mono ?_
       rintro e w7 ⟨A7, c7, rfl, h⟩
       have H7 := Lib.hid h
       clear h
       try dsimp only
       refine hK.out _ _ ?_ (fun hHeld => ?_)
       · intro _
         try dsimp only
         have h := H7.out
         exact ⟨h.cells (.tail _ (.tail _ (.tail _ (.head _)))), h.cells (.tail _ (.tail _ (.head _)))⟩
       clear hK K
       try simp only [Act.put, pA, pB, pC]
       have hHeld := hHeld (by kernel_rfl)
       refine onG 3 ⟨some 29, .call { callee := Callee.value (Operand.func 17), args := #[.tmp 28], argTypes := #[27] }, 27, _, #[⟨2, .data⟩, ⟨1, .chain⟩], none⟩ (fun K hK => ?_)
       go_simp
       refine (copiedR H7.out (.tail _ (.head _)) HLNb.out).mono ?_
       rintro e w8 ⟨A8, c8, rfl, h⟩
       have H8 := Lib.hid h
       clear h
       try dsimp only
       refine hK.out _ _ ?_ (fun hHeld => ?_)
       · intro _
         try dsimp only
         have h := H8.out
         exact ⟨h.cells (.tail _ (.tail _ (.tail _ (.head _)))), h.cells (.tail _ (.tail _ (.head _)))⟩
       clear hK K
       try simp only [Act.put, pA, pB, pC]
       have hHeld := hHeld (by kernel_rfl)
       refine onG 6 ⟨none, .store 27 (.tmp 6) (.tmp 27), 0, _, #[⟨4, .data⟩, ⟨1, .data⟩, ⟨3, .chain⟩, ⟨0, .phase⟩, ⟨1, .phase⟩, { on := 2, ground := Ground.textOnly Departure.lateStores }, { on := 3, ground := Ground.textOnly Departure.lateStoresUnsure }, ⟨4, .phase⟩, ⟨5, .phase⟩], none⟩ (fun K hK => ?_)
       have HP9 := Lib.hid (H8.out.sub (X' := [(g6, #[.int .i64 0, .int .i64 0, .slice none 0 0]), (g5, #[.int .i64 0, .int .i64 0, .slice none 0 0]), (w.heap.size + 1, #[.int .i64 Rb, .int .i64 Cb, .slice B nb cb]), (w.heap.size, #[.int .i64 Ra, .int .i64 Ca, .slice A na ca])]) (fun _ h => h) (List.forall_mem_cons.2 ⟨(.head _), (List.forall_mem_cons.2 ⟨(.tail _ (.head _)), (List.forall_mem_cons.2 ⟨(.tail _ (.tail _ (.head _))), (List.forall_mem_cons.2 ⟨(.tail _ (.tail _ (.tail _ (.head _)))), (fun _ h => (List.not_mem_nil h).elim)⟩)⟩)⟩)⟩))
       obtain ⟨⟨z0, z1, z2⟩, f0, f1, f2⟩ := HP9.out.blk (.head _)
       go_simp
       have H9 := Lib.hid (HP9.out.set HB6.out.1 (List.forall_mem_cons.2 ⟨(HB6.out.2 (g5, #[.int .i64 0, .int .i64 0, .slice none 0 0]) (.head _)), (List.forall_mem_cons.2 ⟨(HB6.out.2 (w.heap.size + 1, #[.int .i64 Rb, .int .i64 Cb, .slice B nb cb]) (.tail _ (.head _))), (List.forall_mem_cons.2 ⟨(HB6.out.2 (w.heap.size, #[.int .i64 Ra, .int .i64 Ca, .slice A na ca]) (.tail _ (.tail _ (.head _)))), (fun _ h => (List.not_mem_nil h).elim)⟩)⟩)⟩) (.int .i64 Ra) (.int .i64 Ca) (.slice A7 na c7))
       clear z0 z1 z2 f0 f1 f2 HP9
       generalize ((w8.setCell ⟨g6, 0, none⟩ (.int .i64 Ra)).setCell ⟨g6, 1, none⟩ (.int .i64 Ca)).setCell ⟨g6, 2, none⟩ (.slice A7 na c7) = w9 at *
       try dsimp only
       refine hK.out _ _ ?_ (fun hHeld => ?_)
       · intro _
         try dsimp only
         have h := H9.out
         exact ⟨h.cells (.tail _ (.tail _ (.tail _ (.head _)))), h.cells (.tail _ (.tail _ (.head _)))⟩
       clear hK K
       try simp only [Act.put, pA, pB, pC]
       have hHeld := hHeld (by kernel_rfl)
       refine onG 7 ⟨none, .store 27 (.tmp 7) (.tmp 29), 0, _, #[⟨5, .data⟩, ⟨3, .data⟩, ⟨6, .chain⟩, ⟨0, .phase⟩, ⟨1, .phase⟩, ⟨2, .phase⟩, ⟨3, .phase⟩, ⟨4, .phase⟩, ⟨5, .phase⟩, ⟨6, .phase⟩], none⟩ (fun K hK => ?_)
       have HP10 := Lib.hid (H9.out.sub (X' := [(g5, #[.int .i64 0, .int .i64 0, .slice none 0 0]), (g6, #[.int .i64 Ra, .int .i64 Ca, .slice A7 na c7]), (w.heap.size + 1, #[.int .i64 Rb, .int .i64 Cb, .slice B nb cb]), (w.heap.size, #[.int .i64 Ra, .int .i64 Ca, .slice A na ca])]) (fun _ h => h) (List.forall_mem_cons.2 ⟨(.tail _ (.head _)), (List.forall_mem_cons.2 ⟨(.head _), (List.forall_mem_cons.2 ⟨(.tail _ (.tail _ (.head _))), (List.forall_mem_cons.2 ⟨(.tail _ (.tail _ (.tail _ (.head _)))), (fun _ h => (List.not_mem_nil h).elim)⟩)⟩)⟩)⟩))
       obtain ⟨⟨z0, z1, z2⟩, f0, f1, f2⟩ := HP10.out.blk (.head _)
       go_simp
       have H10 := Lib.hid (HP10.out.set HB5.out.1 (List.forall_mem_cons.2 ⟨(Ne.symm (HB6.out.2 (g5, #[.int .i64 0, .int .i64 0, .slice none 0 0]) (.head _))), (List.forall_mem_cons.2 ⟨(HB5.out.2 (w.heap.size + 1, #[.int .i64 Rb, .int .i64 Cb, .slice B nb cb]) (.head _)), (List.forall_mem_cons.2 ⟨(HB5.out.2 (w.heap.size, #[.int .i64 Ra, .int .i64 Ca, .slice A na ca]) (.tail _ (.head _))), (fun _ h => (List.not_mem_nil h).elim)⟩)⟩)⟩) (.int .i64 Rb) (.int .i64 Cb) (.slice A8 nb c8))
       clear z0 z1 z2 f0 f1 f2 HP10
       generalize ((w9.setCell ⟨g5, 0, none⟩ (.int .i64 Rb)).setCell ⟨g5, 1, none⟩ (.int .i64 Cb)).setCell ⟨g5, 2, none⟩ (.slice A8 nb c8) = w10 at *
       try dsimp only
       refine hK.out _ _ ?_ (fun hHeld => ?_)
       · intro _
         try dsimp only
         have h := H10.out
         exact ⟨h.cells (.tail _ (.tail _ (.tail _ (.head _)))), h.cells (.tail _ (.tail _ (.head _)))⟩
       clear hK K
       try simp only [Act.put, pA, pB, pC]
       have hHeld := hHeld (by kernel_rfl)
       refine wpAnyG_done (by kernel_rfl) ?_ _
       refine NoPanic.normal ?_
       exact REST g6 g5 A7 c7 A8 c8 w10 (H10.out.sub (fun _ h => h) (List.forall_mem_cons.2 ⟨(.head _), (List.forall_mem_cons.2 ⟨(.tail _ (.head _)), (List.forall_mem_cons.2 ⟨(.tail _ (.tail _ (.head _))), (List.forall_mem_cons.2 ⟨(.tail _ (.tail _ (.tail _ (.head _)))), (fun _ h => (List.not_mem_nil h).elim)⟩)⟩)⟩)⟩))
  case rest =>
   intro gjx gjy Ajx cjx Ajy cjy w104 h
   have H104 := Lib.hid h
   clear h H4
   obtain ⟨a5, b5, d5⟩ := H104.out.cells (.tail _ (.head _))
   obtain ⟨a6, b6, d6⟩ := H104.out.cells (.head _)
   go_wp2_with fail
   clear a5 b5 d5 a6 b6 d6
   refine (HMU.out.prog H104.out (.tail _ (.head _)) (.head _)).mono ?_
   rintro e w105 ⟨A105, c105, rfl, h⟩
   have H105 := Lib.hid h
   clear h
   have L7 := Lib.hid (show MS _ _ _ ((w105.heap.size, #[.int .i64 P1, .int .i64 P2, .slice A105 pn c105]) :: _) (w105.alloc (.cells #[.int .i64 P1, .int .i64 P2, .slice A105 pn c105] 27)) from by have h := H105.out.put #[.int .i64 P1, .int .i64 P2, .slice A105 pn c105]; (try simp only [World.size_alloc] at h); exact h)
   go_wp2_with fail
   have H106 := L7
   clear L7
   generalize (w105.alloc (.cells #[.int .i64 P1, .int .i64 P2, .slice A105 pn c105] 27)) = w106 at *
   apply via1_1 (H := fun (gjq : Nat) (Ajq : Option Addr) (cjq : Nat) W => MS w (some fq) [⟨Ajq, lp, cjq⟩, ⟨A105, lp, c105⟩, ⟨Ajy, lb, cjy⟩, ⟨Ajx, la, cjx⟩, ⟨B, lb, cb⟩, ⟨A, la, ca⟩] [(gjq, #[.int .i64 P1, .int .i64 P2, .slice Ajq pn cjq]), (w105.heap.size, #[.int .i64 P1, .int .i64 P2, .slice A105 pn c105]), (gjy, #[.int .i64 Rb, .int .i64 Cb, .slice Ajy nb cjy]), (gjx, #[.int .i64 Ra, .int .i64 Ca, .slice Ajx na cjx]), (w.heap.size + 1, #[.int .i64 Rb, .int .i64 Cb, .slice B nb cb]), (w.heap.size, #[.int .i64 Ra, .int .i64 Ca, .slice A na ca])] W)
   case main =>
    intro REST
    refine wp_region_noPanic ?_
    refine wp_heldG (fun w' => (w'.cell? ⟨w.heap.size, 0, none⟩ = some (.int .i64 Ra) ∧ w'.cell? ⟨w.heap.size, 1, none⟩ = some (.int .i64 Ca) ∧ w'.cell? ⟨w.heap.size, 2, none⟩ = some (.slice A na ca)) ∧ (w'.cell? ⟨w.heap.size + 1, 0, none⟩ = some (.int .i64 Rb) ∧ w'.cell? ⟨w.heap.size + 1, 1, none⟩ = some (.int .i64 Cb) ∧ w'.cell? ⟨w.heap.size + 1, 2, none⟩ = some (.slice B nb cb))) [] (by kernel_rfl) ?hs0 ?rg0
    case hs0 =>
      have h := H106.out.keep (nextN (Mem.start w106) 1)
      exact ⟨h.cells (.tail _ (.tail _ (.tail _ (.tail _ (.head _))))), h.cells (.tail _ (.tail _ (.tail _ (.head _))))⟩
    case rg0 =>
    intro hHeld
    have HD106 := Lib.hid (show MS _ _ _ _ w106.drew from H106.out.keep (nextN (Mem.start w106) 1))
    generalize w106.drew = wd106 at *
    refine tkG 0 ⟨some 38, .load 27 (.tmp 2), 27, _, #[], none⟩ (v := ?_) ?_ (by assumption) ?_
    rotate_left
    · intro w hSw
      try dsimp only at hSw
      obtain ⟨⟨k0, k1, k2⟩, ⟨l0, l1, l2⟩⟩ := hSw
      go_simp
      try with_reducible rfl
    try simp only [Act.put, pA, pB, pC]
    refine tkG 2 ⟨some 40, .load 27 (.tmp 3), 27, _, #[], none⟩ (v := ?_) ?_ (by assumption) ?_
    rotate_left
    · intro w hSw
      try dsimp only at hSw
      obtain ⟨⟨k0, k1, k2⟩, ⟨l0, l1, l2⟩⟩ := hSw
      go_simp
      try with_reducible rfl
    try simp only [Act.put, pA, pB, pC]
    refine wpAnyG_two (i := 1) (j := 8) (o := ⟨some 39, .call { callee := Callee.value (Operand.func 20), args := #[.tmp 38], argTypes := #[27] }, 38, _, #[⟨0, .data⟩], none⟩) (u := ⟨some 10, .alloc 38, 0, _, #[], none⟩) (by kernel_rfl) rfl rfl (fun K hK => ?_) (fun K hK => ?_)
    · skip
      go_simp
      refine (plainR HD106.out ).mono ?_
      rintro e w107 ⟨rfl, h⟩
      have H107 := Lib.hid h
      clear h
      try dsimp only
      refine hK.out _ _ ?_ (fun hHeld => ?_)
      · intro _
        try dsimp only
        have h := H107.out
        exact ⟨h.cells (.tail _ (.tail _ (.tail _ (.tail _ (.head _))))), h.cells (.tail _ (.tail _ (.tail _ (.head _))))⟩
      clear hK K
      try simp only [Act.put, pA, pB, pC]
      have hHeld := hHeld (by kernel_rfl)
      refine wpAnyG_two (i := 3) (j := 8) (o := ⟨some 41, .call { callee := Callee.value (Operand.func 20), args := #[.tmp 40], argTypes := #[27] }, 38, _, #[⟨2, .data⟩, ⟨1, .chain⟩], none⟩) (u := ⟨some 10, .alloc 38, 0, _, #[], none⟩) (by kernel_rfl) rfl rfl (fun K hK => ?_) (fun K hK => ?_)
      · skip
        go_simp
        refine (plainR H107.out ).mono ?_
        rintro e w108 ⟨rfl, h⟩
        have H108 := Lib.hid h
        clear h
        try dsimp only
        refine hK.out _ _ ?_ (fun hHeld => ?_)
        · intro _
          try dsimp only
          have h := H108.out
          exact ⟨h.cells (.tail _ (.tail _ (.tail _ (.tail _ (.head _))))), h.cells (.tail _ (.tail _ (.tail _ (.head _))))⟩
        clear hK K
        try simp only [Act.put, pA, pB, pC]
        have hHeld := hHeld (by kernel_rfl)
        refine wpAnyG_two (i := 4) (j := 8) (o := ⟨some 42, .call { callee := Callee.value (Operand.func 19), args := #[.tmp 39, .tmp 41], argTypes := #[38, 38] }, 39, _, #[⟨1, .data⟩, ⟨3, .data⟩, ⟨3, .chain⟩], none⟩) (u := ⟨some 10, .alloc 38, 0, _, #[], none⟩) (by kernel_rfl) rfl rfl (fun K hK => ?_) (fun K hK => ?_)
        · skip
          go_simp
          refine (HMU.out.doc H108.out (.tail _ (.tail _ (.tail _ (.tail _ (.head _))))) (.tail _ (.tail _ (.tail _ (.head _))))).mono ?_
          rintro e w109 ⟨A109, c109, rfl, h⟩
          have H109 := Lib.hid h
          clear h
          try dsimp only
          refine hK.out _ _ ?_ (fun hHeld => ?_)
          · intro _
            try dsimp only
            have h := H109.out
            exact ⟨h.cells (.tail _ (.tail _ (.tail _ (.tail _ (.head _))))), h.cells (.tail _ (.tail _ (.tail _ (.head _))))⟩
          clear hK K
          try simp only [Act.put, pA, pB, pC]
          have hHeld := hHeld (by kernel_rfl)
          refine puG 5 ⟨some 37, .move (.tmp 42), 39, _, #[⟨4, .data⟩], none⟩ (v := ?_) ?_ (fun _ => by assumption) ?_
          rotate_left
          · intro w hSw
            try dsimp only at hSw
            go_simp
            try with_reducible rfl
          try simp only [Act.put, pA, pB, pC]
          refine puG 6 ⟨some 43, .extract (.tmp 37) 0, 38, _, #[⟨5, .data⟩], none⟩ (v := ?_) ?_ (fun _ => by assumption) ?_
          rotate_left
          · intro w hSw
            try dsimp only at hSw
            go_simp
            try with_reducible rfl
          try simp only [Act.put, pA, pB, pC]
          refine puG 7 ⟨some 44, .extract (.tmp 37) 1, 29, _, #[⟨5, .data⟩, { on := 9, ground := Ground.gcOnly Departure.lateStores }], none⟩ (v := ?_) ?_ (fun _ => by assumption) ?_
          rotate_left
          · intro w hSw
            try dsimp only at hSw
            go_simp
            try with_reducible rfl
          try simp only [Act.put, pA, pB, pC]
          refine onG 8 ⟨some 10, .alloc 38, 0, _, #[], none⟩ (fun K hK => ?_)
          refine step_new (P := Try.prog) _ ⟨rfl, rfl, rfl⟩ newMx5 ?_
          have H110 := Lib.hid (H109.out.putT #[.int .i64 0, .int .i64 0, .slice none 0 0] 38)
          have HB110 := Lib.hid (And.intro H109.out.below.size H109.out.far)
          obtain ⟨g110, hg110⟩ : ∃ x, w109.heap.size = x := ⟨_, rfl⟩
          rw [hg110] at H110 HB110 ⊢
          clear hg110
          generalize w109.alloc (.cells #[.int .i64 0, .int .i64 0, .slice none 0 0] 38) = w110 at *
          try dsimp only
          refine hK.out _ _ ?_ (fun hHeld => ?_)
          · intro _
            try dsimp only
            have h := H110.out
            exact ⟨h.cells (.tail _ (.tail _ (.tail _ (.tail _ (.tail _ (.head _)))))), h.cells (.tail _ (.tail _ (.tail _ (.tail _ (.head _)))))⟩
          clear hK K
          try simp only [Act.put, pA, pB, pC]
          have hHeld := hHeld (by kernel_rfl)
          refine onG 9 ⟨none, .store 38 (.tmp 10) (.tmp 43), 0, _, #[⟨8, .data⟩, ⟨6, .data⟩, ⟨4, .chain⟩, ⟨0, .phase⟩, ⟨1, .phase⟩, ⟨2, .phase⟩, ⟨3, .phase⟩, ⟨4, .phase⟩, ⟨5, .phase⟩, ⟨6, .phase⟩, { on := 7, ground := Ground.textOnly Departure.lateStores }, ⟨8, .phase⟩], none⟩ (fun K hK => ?_)
          have HP111 := Lib.hid (H110.out.sub (X' := [(g110, #[.int .i64 0, .int .i64 0, .slice none 0 0]), (w105.heap.size, #[.int .i64 P1, .int .i64 P2, .slice A105 pn c105]), (gjy, #[.int .i64 Rb, .int .i64 Cb, .slice Ajy nb cjy]), (gjx, #[.int .i64 Ra, .int .i64 Ca, .slice Ajx na cjx]), (w.heap.size + 1, #[.int .i64 Rb, .int .i64 Cb, .slice B nb cb]), (w.heap.size, #[.int .i64 Ra, .int .i64 Ca, .slice A na ca])]) (fun _ h => h) (List.forall_mem_cons.2 ⟨(.head _), (List.forall_mem_cons.2 ⟨(.tail _ (.head _)), (List.forall_mem_cons.2 ⟨(.tail _ (.tail _ (.head _))), (List.forall_mem_cons.2 ⟨(.tail _ (.tail _ (.tail _ (.head _)))), (List.forall_mem_cons.2 ⟨(.tail _ (.tail _ (.tail _ (.tail _ (.head _))))), (List.forall_mem_cons.2 ⟨(.tail _ (.tail _ (.tail _ (.tail _ (.tail _ (.head _)))))), (fun _ h => (List.not_mem_nil h).elim)⟩)⟩)⟩)⟩)⟩)⟩))
          obtain ⟨⟨z0, z1, z2⟩, f0, f1, f2⟩ := HP111.out.blk (.head _)
          go_simp
          have H111 := Lib.hid (HP111.out.set HB110.out.1 (List.forall_mem_cons.2 ⟨(HB110.out.2 (w105.heap.size, #[.int .i64 P1, .int .i64 P2, .slice A105 pn c105]) (.head _)), (List.forall_mem_cons.2 ⟨(HB110.out.2 (gjy, #[.int .i64 Rb, .int .i64 Cb, .slice Ajy nb cjy]) (.tail _ (.head _))), (List.forall_mem_cons.2 ⟨(HB110.out.2 (gjx, #[.int .i64 Ra, .int .i64 Ca, .slice Ajx na cjx]) (.tail _ (.tail _ (.head _)))), (List.forall_mem_cons.2 ⟨(HB110.out.2 (w.heap.size + 1, #[.int .i64 Rb, .int .i64 Cb, .slice B nb cb]) (.tail _ (.tail _ (.tail _ (.head _))))), (List.forall_mem_cons.2 ⟨(HB110.out.2 (w.heap.size, #[.int .i64 Ra, .int .i64 Ca, .slice A na ca]) (.tail _ (.tail _ (.tail _ (.tail _ (.head _)))))), (fun _ h => (List.not_mem_nil h).elim)⟩)⟩)⟩)⟩)⟩) (.int .i64 P1) (.int .i64 P2) (.slice A109 pn c109))
          clear z0 z1 z2 f0 f1 f2 HP111
          generalize ((w110.setCell ⟨g110, 0, none⟩ (.int .i64 P1)).setCell ⟨g110, 1, none⟩ (.int .i64 P2)).setCell ⟨g110, 2, none⟩ (.slice A109 pn c109) = w111 at *
          try dsimp only
          refine hK.out _ _ ?_ (fun hHeld => ?_)
          · intro _
            try dsimp only
            have h := H111.out
            exact ⟨h.cells (.tail _ (.tail _ (.tail _ (.tail _ (.tail _ (.head _)))))), h.cells (.tail _ (.tail _ (.tail _ (.tail _ (.head _)))))⟩
          clear hK K
          try simp only [Act.put, pA, pB, pC]
          have hHeld := hHeld (by kernel_rfl)
          refine puG 10 ⟨some 11, .assign (.tmp 44), 29, _, #[⟨7, .data⟩, ⟨9, .chain⟩, ⟨0, .phase⟩, ⟨1, .phase⟩, ⟨2, .phase⟩, ⟨3, .phase⟩, ⟨4, .phase⟩, ⟨5, .phase⟩, ⟨6, .phase⟩, ⟨7, .phase⟩, ⟨8, .phase⟩, ⟨9, .phase⟩], none⟩ (v := ?_) ?_ (fun _ => by assumption) ?_
          rotate_left
          · intro w hSw
            try dsimp only at hSw
            go_simp
            try with_reducible rfl
          try simp only [Act.put, pA, pB, pC]
          refine wpAnyG_done (by kernel_rfl) ?_ _
          refine NoPanic.normal ?_
          exact REST g110 A109 c109 w111 (H111.out.sub (fun _ h => h) (List.forall_mem_cons.2 ⟨(.head _), (List.forall_mem_cons.2 ⟨(.tail _ (.head _)), (List.forall_mem_cons.2 ⟨(.tail _ (.tail _ (.head _))), (List.forall_mem_cons.2 ⟨(.tail _ (.tail _ (.tail _ (.head _)))), (List.forall_mem_cons.2 ⟨(.tail _ (.tail _ (.tail _ (.tail _ (.head _))))), (List.forall_mem_cons.2 ⟨(.tail _ (.tail _ (.tail _ (.tail _ (.tail _ (.head _)))))), (fun _ h => (List.not_mem_nil h).elim)⟩)⟩)⟩)⟩)⟩)⟩))
        · skip
          refine step_new (P := Try.prog) _ ⟨rfl, rfl, rfl⟩ newMx5 ?_
          have H109 := Lib.hid (H108.out.putT #[.int .i64 0, .int .i64 0, .slice none 0 0] 38)
          have HB109 := Lib.hid (And.intro H108.out.below.size H108.out.far)
          obtain ⟨g109, hg109⟩ : ∃ x, w108.heap.size = x := ⟨_, rfl⟩
          rw [hg109] at H109 HB109 ⊢
          clear hg109
          generalize w108.alloc (.cells #[.int .i64 0, .int .i64 0, .slice none 0 0] 38) = w109 at *
          try dsimp only
          refine hK.out _ _ ?_ (fun hHeld => ?_)
          · intro _
            try dsimp only
            have h := H109.out
            exact ⟨h.cells (.tail _ (.tail _ (.tail _ (.tail _ (.tail _ (.head _)))))), h.cells (.tail _ (.tail _ (.tail _ (.tail _ (.head _)))))⟩
          clear hK K
          try simp only [Act.put, pA, pB, pC]
          have hHeld := hHeld (by kernel_rfl)
          refine onG 4 ⟨some 42, .call { callee := Callee.value (Operand.func 19), args := #[.tmp 39, .tmp 41], argTypes := #[38, 38] }, 39, _, #[⟨1, .data⟩, ⟨3, .data⟩, ⟨3, .chain⟩], none⟩ (fun K hK => ?_)
          go_simp
          refine (HMU.out.doc H109.out (.tail _ (.tail _ (.tail _ (.tail _ (.head _))))) (.tail _ (.tail _ (.tail _ (.head _))))).mono ?_
          rintro e w110 ⟨A110, c110, rfl, h⟩
          have H110 := Lib.hid h
          clear h
          try dsimp only
          refine hK.out _ _ ?_ (fun hHeld => ?_)
          · intro _
            try dsimp only
            have h := H110.out
            exact ⟨h.cells (.tail _ (.tail _ (.tail _ (.tail _ (.tail _ (.head _)))))), h.cells (.tail _ (.tail _ (.tail _ (.tail _ (.head _)))))⟩
          clear hK K
          try simp only [Act.put, pA, pB, pC]
          have hHeld := hHeld (by kernel_rfl)
          refine puG 5 ⟨some 37, .move (.tmp 42), 39, _, #[⟨4, .data⟩], none⟩ (v := ?_) ?_ (fun _ => by assumption) ?_
          rotate_left
          · intro w hSw
            try dsimp only at hSw
            go_simp
            try with_reducible rfl
          try simp only [Act.put, pA, pB, pC]
          refine puG 6 ⟨some 43, .extract (.tmp 37) 0, 38, _, #[⟨5, .data⟩], none⟩ (v := ?_) ?_ (fun _ => by assumption) ?_
          rotate_left
          · intro w hSw
            try dsimp only at hSw
            go_simp
            try with_reducible rfl
          try simp only [Act.put, pA, pB, pC]
          refine puG 7 ⟨some 44, .extract (.tmp 37) 1, 29, _, #[⟨5, .data⟩, { on := 9, ground := Ground.gcOnly Departure.lateStores }], none⟩ (v := ?_) ?_ (fun _ => by assumption) ?_
          rotate_left
          · intro w hSw
            try dsimp only at hSw
            go_simp
            try with_reducible rfl
          try simp only [Act.put, pA, pB, pC]
          refine onG 9 ⟨none, .store 38 (.tmp 10) (.tmp 43), 0, _, #[⟨8, .data⟩, ⟨6, .data⟩, ⟨4, .chain⟩, ⟨0, .phase⟩, ⟨1, .phase⟩, ⟨2, .phase⟩, ⟨3, .phase⟩, ⟨4, .phase⟩, ⟨5, .phase⟩, ⟨6, .phase⟩, { on := 7, ground := Ground.textOnly Departure.lateStores }, ⟨8, .phase⟩], none⟩ (fun K hK => ?_)
          have HP111 := Lib.hid (H110.out.sub (X' := [(g109, #[.int .i64 0, .int .i64 0, .slice none 0 0]), (w105.heap.size, #[.int .i64 P1, .int .i64 P2, .slice A105 pn c105]), (gjy, #[.int .i64 Rb, .int .i64 Cb, .slice Ajy nb cjy]), (gjx, #[.int .i64 Ra, .int .i64 Ca, .slice Ajx na cjx]), (w.heap.size + 1, #[.int .i64 Rb, .int .i64 Cb, .slice B nb cb]), (w.heap.size, #[.int .i64 Ra, .int .i64 Ca, .slice A na ca])]) (fun _ h => h) (List.forall_mem_cons.2 ⟨(.head _), (List.forall_mem_cons.2 ⟨(.tail _ (.head _)), (List.forall_mem_cons.2 ⟨(.tail _ (.tail _ (.head _))), (List.forall_mem_cons.2 ⟨(.tail _ (.tail _ (.tail _ (.head _)))), (List.forall_mem_cons.2 ⟨(.tail _ (.tail _ (.tail _ (.tail _ (.head _))))), (List.forall_mem_cons.2 ⟨(.tail _ (.tail _ (.tail _ (.tail _ (.tail _ (.head _)))))), (fun _ h => (List.not_mem_nil h).elim)⟩)⟩)⟩)⟩)⟩)⟩))
          obtain ⟨⟨z0, z1, z2⟩, f0, f1, f2⟩ := HP111.out.blk (.head _)
          go_simp
          have H111 := Lib.hid (HP111.out.set HB109.out.1 (List.forall_mem_cons.2 ⟨(HB109.out.2 (w105.heap.size, #[.int .i64 P1, .int .i64 P2, .slice A105 pn c105]) (.head _)), (List.forall_mem_cons.2 ⟨(HB109.out.2 (gjy, #[.int .i64 Rb, .int .i64 Cb, .slice Ajy nb cjy]) (.tail _ (.head _))), (List.forall_mem_cons.2 ⟨(HB109.out.2 (gjx, #[.int .i64 Ra, .int .i64 Ca, .slice Ajx na cjx]) (.tail _ (.tail _ (.head _)))), (List.forall_mem_cons.2 ⟨(HB109.out.2 (w.heap.size + 1, #[.int .i64 Rb, .int .i64 Cb, .slice B nb cb]) (.tail _ (.tail _ (.tail _ (.head _))))), (List.forall_mem_cons.2 ⟨(HB109.out.2 (w.heap.size, #[.int .i64 Ra, .int .i64 Ca, .slice A na ca]) (.tail _ (.tail _ (.tail _ (.tail _ (.head _)))))), (fun _ h => (List.not_mem_nil h).elim)⟩)⟩)⟩)⟩)⟩) (.int .i64 P1) (.int .i64 P2) (.slice A110 pn c110))
          clear z0 z1 z2 f0 f1 f2 HP111
          generalize ((w110.setCell ⟨g109, 0, none⟩ (.int .i64 P1)).setCell ⟨g109, 1, none⟩ (.int .i64 P2)).setCell ⟨g109, 2, none⟩ (.slice A110 pn c110) = w111 at *
          try dsimp only
          refine hK.out _ _ ?_ (fun hHeld => ?_)
          · intro _
            try dsimp only
            have h := H111.out
            exact ⟨h.cells (.tail _ (.tail _ (.tail _ (.tail _ (.tail _ (.head _)))))), h.cells (.tail _ (.tail _ (.tail _ (.tail _ (.head _)))))⟩
          clear hK K
          try simp only [Act.put, pA, pB, pC]
          have hHeld := hHeld (by kernel_rfl)
          refine puG 10 ⟨some 11, .assign (.tmp 44), 29, _, #[⟨7, .data⟩, ⟨9, .chain⟩, ⟨0, .phase⟩, ⟨1, .phase⟩, ⟨2, .phase⟩, ⟨3, .phase⟩, ⟨4, .phase⟩, ⟨5, .phase⟩, ⟨6, .phase⟩, ⟨7, .phase⟩, ⟨8, .phase⟩, ⟨9, .phase⟩], none⟩ (v := ?_) ?_ (fun _ => by assumption) ?_
          rotate_left
          · intro w hSw
            try dsimp only at hSw
            go_simp
            try with_reducible rfl
          try simp only [Act.put, pA, pB, pC]
          refine wpAnyG_done (by kernel_rfl) ?_ _
          refine NoPanic.normal ?_
          exact REST g109 A110 c110 w111 (H111.out.sub (fun _ h => h) (List.forall_mem_cons.2 ⟨(.head _), (List.forall_mem_cons.2 ⟨(.tail _ (.head _)), (List.forall_mem_cons.2 ⟨(.tail _ (.tail _ (.head _))), (List.forall_mem_cons.2 ⟨(.tail _ (.tail _ (.tail _ (.head _)))), (List.forall_mem_cons.2 ⟨(.tail _ (.tail _ (.tail _ (.tail _ (.head _))))), (List.forall_mem_cons.2 ⟨(.tail _ (.tail _ (.tail _ (.tail _ (.tail _ (.head _)))))), (fun _ h => (List.not_mem_nil h).elim)⟩)⟩)⟩)⟩)⟩)⟩))
      · skip
        refine step_new (P := Try.prog) _ ⟨rfl, rfl, rfl⟩ newMx5 ?_
        have H108 := Lib.hid (H107.out.putT #[.int .i64 0, .int .i64 0, .slice none 0 0] 38)
        have HB108 := Lib.hid (And.intro H107.out.below.size H107.out.far)
        obtain ⟨g108, hg108⟩ : ∃ x, w107.heap.size = x := ⟨_, rfl⟩
        rw [hg108] at H108 HB108 ⊢
        clear hg108
        generalize w107.alloc (.cells #[.int .i64 0, .int .i64 0, .slice none 0 0] 38) = w108 at *
        try dsimp only
        refine hK.out _ _ ?_ (fun hHeld => ?_)
        · intro _
          try dsimp only
          have h := H108.out
          exact ⟨h.cells (.tail _ (.tail _ (.tail _ (.tail _ (.tail _ (.head _)))))), h.cells (.tail _ (.tail _ (.tail _ (.tail _ (.head _)))))⟩
        clear hK K
        try simp only [Act.put, pA, pB, pC]
        have hHeld := hHeld (by kernel_rfl)
        refine onG 3 ⟨some 41, .call { callee := Callee.value (Operand.func 20), args := #[.tmp 40], argTypes := #[27] }, 38, _, #[⟨2, .data⟩, ⟨1, .chain⟩], none⟩ (fun K hK => ?_)
        go_simp
        refine (plainR H108.out ).mono ?_
        rintro e w109 ⟨rfl, h⟩
        have H109 := Lib.hid h
        clear h
        try dsimp only
        refine hK.out _ _ ?_ (fun hHeld => ?_)
        · intro _
          try dsimp only
          have h := H109.out
          exact ⟨h.cells (.tail _ (.tail _ (.tail _ (.tail _ (.tail _ (.head _)))))), h.cells (.tail _ (.tail _ (.tail _ (.tail _ (.head _)))))⟩
        clear hK K
        try simp only [Act.put, pA, pB, pC]
        have hHeld := hHeld (by kernel_rfl)
        refine onG 4 ⟨some 42, .call { callee := Callee.value (Operand.func 19), args := #[.tmp 39, .tmp 41], argTypes := #[38, 38] }, 39, _, #[⟨1, .data⟩, ⟨3, .data⟩, ⟨3, .chain⟩], none⟩ (fun K hK => ?_)
        go_simp
        refine (HMU.out.doc H109.out (.tail _ (.tail _ (.tail _ (.tail _ (.head _))))) (.tail _ (.tail _ (.tail _ (.head _))))).mono ?_
        rintro e w110 ⟨A110, c110, rfl, h⟩
        have H110 := Lib.hid h
        clear h
        try dsimp only
        refine hK.out _ _ ?_ (fun hHeld => ?_)
        · intro _
          try dsimp only
          have h := H110.out
          exact ⟨h.cells (.tail _ (.tail _ (.tail _ (.tail _ (.tail _ (.head _)))))), h.cells (.tail _ (.tail _ (.tail _ (.tail _ (.head _)))))⟩
        clear hK K
        try simp only [Act.put, pA, pB, pC]
        have hHeld := hHeld (by kernel_rfl)
        refine puG 5 ⟨some 37, .move (.tmp 42), 39, _, #[⟨4, .data⟩], none⟩ (v := ?_) ?_ (fun _ => by assumption) ?_
        rotate_left
        · intro w hSw
          try dsimp only at hSw
          go_simp
          try with_reducible rfl
        try simp only [Act.put, pA, pB, pC]
        refine puG 6 ⟨some 43, .extract (.tmp 37) 0, 38, _, #[⟨5, .data⟩], none⟩ (v := ?_) ?_ (fun _ => by assumption) ?_
        rotate_left
        · intro w hSw
          try dsimp only at hSw
          go_simp
          try with_reducible rfl
        try simp only [Act.put, pA, pB, pC]
        refine puG 7 ⟨some 44, .extract (.tmp 37) 1, 29, _, #[⟨5, .data⟩, { on := 9, ground := Ground.gcOnly Departure.lateStores }], none⟩ (v := ?_) ?_ (fun _ => by assumption) ?_
        rotate_left
        · intro w hSw
          try dsimp only at hSw
          go_simp
          try with_reducible rfl
        try simp only [Act.put, pA, pB, pC]
        refine onG 9 ⟨none, .store 38 (.tmp 10) (.tmp 43), 0, _, #[⟨8, .data⟩, ⟨6, .data⟩, ⟨4, .chain⟩, ⟨0, .phase⟩, ⟨1, .phase⟩, ⟨2, .phase⟩, ⟨3, .phase⟩, ⟨4, .phase⟩, ⟨5, .phase⟩, ⟨6, .phase⟩, { on := 7, ground := Ground.textOnly Departure.lateStores }, ⟨8, .phase⟩], none⟩ (fun K hK => ?_)
        have HP111 := Lib.hid (H110.out.sub (X' := [(g108, #[.int .i64 0, .int .i64 0, .slice none 0 0]), (w105.heap.size, #[.int .i64 P1, .int .i64 P2, .slice A105 pn c105]), (gjy, #[.int .i64 Rb, .int .i64 Cb, .slice Ajy nb cjy]), (gjx, #[.int .i64 Ra, .int .i64 Ca, .slice Ajx na cjx]), (w.heap.size + 1, #[.int .i64 Rb, .int .i64 Cb, .slice B nb cb]), (w.heap.size, #[.int .i64 Ra, .int .i64 Ca, .slice A na ca])]) (fun _ h => h) (List.forall_mem_cons.2 ⟨(.head _), (List.forall_mem_cons.2 ⟨(.tail _ (.head _)), (List.forall_mem_cons.2 ⟨(.tail _ (.tail _ (.head _))), (List.forall_mem_cons.2 ⟨(.tail _ (.tail _ (.tail _ (.head _)))), (List.forall_mem_cons.2 ⟨(.tail _ (.tail _ (.tail _ (.tail _ (.head _))))), (List.forall_mem_cons.2 ⟨(.tail _ (.tail _ (.tail _ (.tail _ (.tail _ (.head _)))))), (fun _ h => (List.not_mem_nil h).elim)⟩)⟩)⟩)⟩)⟩)⟩))
        obtain ⟨⟨z0, z1, z2⟩, f0, f1, f2⟩ := HP111.out.blk (.head _)
        go_simp
        have H111 := Lib.hid (HP111.out.set HB108.out.1 (List.forall_mem_cons.2 ⟨(HB108.out.2 (w105.heap.size, #[.int .i64 P1, .int .i64 P2, .slice A105 pn c105]) (.head _)), (List.forall_mem_cons.2 ⟨(HB108.out.2 (gjy, #[.int .i64 Rb, .int .i64 Cb, .slice Ajy nb cjy]) (.tail _ (.head _))), (List.forall_mem_cons.2 ⟨(HB108.out.2 (gjx, #[.int .i64 Ra, .int .i64 Ca, .slice Ajx na cjx]) (.tail _ (.tail _ (.head _)))), (List.forall_mem_cons.2 ⟨(HB108.out.2 (w.heap.size + 1, #[.int .i64 Rb, .int .i64 Cb, .slice B nb cb]) (.tail _ (.tail _ (.tail _ (.head _))))), (List.forall_mem_cons.2 ⟨(HB108.out.2 (w.heap.size, #[.int .i64 Ra, .int .i64 Ca, .slice A na ca]) (.tail _ (.tail _ (.tail _ (.tail _ (.head _)))))), (fun _ h => (List.not_mem_nil h).elim)⟩)⟩)⟩)⟩)⟩) (.int .i64 P1) (.int .i64 P2) (.slice A110 pn c110))
        clear z0 z1 z2 f0 f1 f2 HP111
        generalize ((w110.setCell ⟨g108, 0, none⟩ (.int .i64 P1)).setCell ⟨g108, 1, none⟩ (.int .i64 P2)).setCell ⟨g108, 2, none⟩ (.slice A110 pn c110) = w111 at *
        try dsimp only
        refine hK.out _ _ ?_ (fun hHeld => ?_)
        · intro _
          try dsimp only
          have h := H111.out
          exact ⟨h.cells (.tail _ (.tail _ (.tail _ (.tail _ (.tail _ (.head _)))))), h.cells (.tail _ (.tail _ (.tail _ (.tail _ (.head _)))))⟩
        clear hK K
        try simp only [Act.put, pA, pB, pC]
        have hHeld := hHeld (by kernel_rfl)
        refine puG 10 ⟨some 11, .assign (.tmp 44), 29, _, #[⟨7, .data⟩, ⟨9, .chain⟩, ⟨0, .phase⟩, ⟨1, .phase⟩, ⟨2, .phase⟩, ⟨3, .phase⟩, ⟨4, .phase⟩, ⟨5, .phase⟩, ⟨6, .phase⟩, ⟨7, .phase⟩, ⟨8, .phase⟩, ⟨9, .phase⟩], none⟩ (v := ?_) ?_ (fun _ => by assumption) ?_
        rotate_left
        · intro w hSw
          try dsimp only at hSw
          go_simp
          try with_reducible rfl
        try simp only [Act.put, pA, pB, pC]
        refine wpAnyG_done (by kernel_rfl) ?_ _
        refine NoPanic.normal ?_
        exact REST g108 A110 c110 w111 (H111.out.sub (fun _ h => h) (List.forall_mem_cons.2 ⟨(.head _), (List.forall_mem_cons.2 ⟨(.tail _ (.head _)), (List.forall_mem_cons.2 ⟨(.tail _ (.tail _ (.head _))), (List.forall_mem_cons.2 ⟨(.tail _ (.tail _ (.tail _ (.head _)))), (List.forall_mem_cons.2 ⟨(.tail _ (.tail _ (.tail _ (.tail _ (.head _))))), (List.forall_mem_cons.2 ⟨(.tail _ (.tail _ (.tail _ (.tail _ (.tail _ (.head _)))))), (fun _ h => (List.not_mem_nil h).elim)⟩)⟩)⟩)⟩)⟩)⟩))
    · skip
      refine step_new (P := Try.prog) _ ⟨rfl, rfl, rfl⟩ newMx5 ?_
      have H107 := Lib.hid (HD106.out.putT #[.int .i64 0, .int .i64 0, .slice none 0 0] 38)
      have HB107 := Lib.hid (And.intro HD106.out.below.size HD106.out.far)
      obtain ⟨g107, hg107⟩ : ∃ x, wd106.heap.size = x := ⟨_, rfl⟩
      rw [hg107] at H107 HB107 ⊢
      clear hg107
      generalize wd106.alloc (.cells #[.int .i64 0, .int .i64 0, .slice none 0 0] 38) = w107 at *
      try dsimp only
      refine hK.out _ _ ?_ (fun hHeld => ?_)
      · intro _
        try dsimp only
        have h := H107.out
        exact ⟨h.cells (.tail _ (.tail _ (.tail _ (.tail _ (.tail _ (.head _)))))), h.cells (.tail _ (.tail _ (.tail _ (.tail _ (.head _)))))⟩
      clear hK K
      try simp only [Act.put, pA, pB, pC]
      have hHeld := hHeld (by kernel_rfl)
      refine onG 1 ⟨some 39, .call { callee := Callee.value (Operand.func 20), args := #[.tmp 38], argTypes := #[27] }, 38, _, #[⟨0, .data⟩], none⟩ (fun K hK => ?_)
      go_simp
      refine (plainR H107.out ).mono ?_
      rintro e w108 ⟨rfl, h⟩
      have H108 := Lib.hid h
      clear h
      try dsimp only
      refine hK.out _ _ ?_ (fun hHeld => ?_)
      · intro _
        try dsimp only
        have h := H108.out
        exact ⟨h.cells (.tail _ (.tail _ (.tail _ (.tail _ (.tail _ (.head _)))))), h.cells (.tail _ (.tail _ (.tail _ (.tail _ (.head _)))))⟩
      clear hK K
      try simp only [Act.put, pA, pB, pC]
      have hHeld := hHeld (by kernel_rfl)
      refine onG 3 ⟨some 41, .call { callee := Callee.value (Operand.func 20), args := #[.tmp 40], argTypes := #[27] }, 38, _, #[⟨2, .data⟩, ⟨1, .chain⟩], none⟩ (fun K hK => ?_)
      go_simp
      refine (plainR H108.out ).mono ?_
      rintro e w109 ⟨rfl, h⟩
      have H109 := Lib.hid h
      clear h
      try dsimp only
      refine hK.out _ _ ?_ (fun hHeld => ?_)
      · intro _
        try dsimp only
        have h := H109.out
        exact ⟨h.cells (.tail _ (.tail _ (.tail _ (.tail _ (.tail _ (.head _)))))), h.cells (.tail _ (.tail _ (.tail _ (.tail _ (.head _)))))⟩
      clear hK K
      try simp only [Act.put, pA, pB, pC]
      have hHeld := hHeld (by kernel_rfl)
      refine onG 4 ⟨some 42, .call { callee := Callee.value (Operand.func 19), args := #[.tmp 39, .tmp 41], argTypes := #[38, 38] }, 39, _, #[⟨1, .data⟩, ⟨3, .data⟩, ⟨3, .chain⟩], none⟩ (fun K hK => ?_)
      go_simp
      refine (HMU.out.doc H109.out (.tail _ (.tail _ (.tail _ (.tail _ (.head _))))) (.tail _ (.tail _ (.tail _ (.head _))))).mono ?_
      rintro e w110 ⟨A110, c110, rfl, h⟩
      have H110 := Lib.hid h
      clear h
      try dsimp only
      refine hK.out _ _ ?_ (fun hHeld => ?_)
      · intro _
        try dsimp only
        have h := H110.out
        exact ⟨h.cells (.tail _ (.tail _ (.tail _ (.tail _ (.tail _ (.head _)))))), h.cells (.tail _ (.tail _ (.tail _ (.tail _ (.head _)))))⟩
      clear hK K
      try simp only [Act.put, pA, pB, pC]
      have hHeld := hHeld (by kernel_rfl)
      refine puG 5 ⟨some 37, .move (.tmp 42), 39, _, #[⟨4, .data⟩], none⟩ (v := ?_) ?_ (fun _ => by assumption) ?_
      rotate_left
      · intro w hSw
        try dsimp only at hSw
        go_simp
        try with_reducible rfl
      try simp only [Act.put, pA, pB, pC]
      refine puG 6 ⟨some 43, .extract (.tmp 37) 0, 38, _, #[⟨5, .data⟩], none⟩ (v := ?_) ?_ (fun _ => by assumption) ?_
      rotate_left
      · intro w hSw
        try dsimp only at hSw
        go_simp
        try with_reducible rfl
      try simp only [Act.put, pA, pB, pC]
      refine puG 7 ⟨some 44, .extract (.tmp 37) 1, 29, _, #[⟨5, .data⟩, { on := 9, ground := Ground.gcOnly Departure.lateStores }], none⟩ (v := ?_) ?_ (fun _ => by assumption) ?_
      rotate_left
      · intro w hSw
        try dsimp only at hSw
        go_simp
        try with_reducible rfl
      try simp only [Act.put, pA, pB, pC]
      refine onG 9 ⟨none, .store 38 (.tmp 10) (.tmp 43), 0, _, #[⟨8, .data⟩, ⟨6, .data⟩, ⟨4, .chain⟩, ⟨0, .phase⟩, ⟨1, .phase⟩, ⟨2, .phase⟩, ⟨3, .phase⟩, ⟨4, .phase⟩, ⟨5, .phase⟩, ⟨6, .phase⟩, { on := 7, ground := Ground.textOnly Departure.lateStores }, ⟨8, .phase⟩], none⟩ (fun K hK => ?_)
      have HP111 := Lib.hid (H110.out.sub (X' := [(g107, #[.int .i64 0, .int .i64 0, .slice none 0 0]), (w105.heap.size, #[.int .i64 P1, .int .i64 P2, .slice A105 pn c105]), (gjy, #[.int .i64 Rb, .int .i64 Cb, .slice Ajy nb cjy]), (gjx, #[.int .i64 Ra, .int .i64 Ca, .slice Ajx na cjx]), (w.heap.size + 1, #[.int .i64 Rb, .int .i64 Cb, .slice B nb cb]), (w.heap.size, #[.int .i64 Ra, .int .i64 Ca, .slice A na ca])]) (fun _ h => h) (List.forall_mem_cons.2 ⟨(.head _), (List.forall_mem_cons.2 ⟨(.tail _ (.head _)), (List.forall_mem_cons.2 ⟨(.tail _ (.tail _ (.head _))), (List.forall_mem_cons.2 ⟨(.tail _ (.tail _ (.tail _ (.head _)))), (List.forall_mem_cons.2 ⟨(.tail _ (.tail _ (.tail _ (.tail _ (.head _))))), (List.forall_mem_cons.2 ⟨(.tail _ (.tail _ (.tail _ (.tail _ (.tail _ (.head _)))))), (fun _ h => (List.not_mem_nil h).elim)⟩)⟩)⟩)⟩)⟩)⟩))
      obtain ⟨⟨z0, z1, z2⟩, f0, f1, f2⟩ := HP111.out.blk (.head _)
      go_simp
      have H111 := Lib.hid (HP111.out.set HB107.out.1 (List.forall_mem_cons.2 ⟨(HB107.out.2 (w105.heap.size, #[.int .i64 P1, .int .i64 P2, .slice A105 pn c105]) (.head _)), (List.forall_mem_cons.2 ⟨(HB107.out.2 (gjy, #[.int .i64 Rb, .int .i64 Cb, .slice Ajy nb cjy]) (.tail _ (.head _))), (List.forall_mem_cons.2 ⟨(HB107.out.2 (gjx, #[.int .i64 Ra, .int .i64 Ca, .slice Ajx na cjx]) (.tail _ (.tail _ (.head _)))), (List.forall_mem_cons.2 ⟨(HB107.out.2 (w.heap.size + 1, #[.int .i64 Rb, .int .i64 Cb, .slice B nb cb]) (.tail _ (.tail _ (.tail _ (.head _))))), (List.forall_mem_cons.2 ⟨(HB107.out.2 (w.heap.size, #[.int .i64 Ra, .int .i64 Ca, .slice A na ca]) (.tail _ (.tail _ (.tail _ (.tail _ (.head _)))))), (fun _ h => (List.not_mem_nil h).elim)⟩)⟩)⟩)⟩)⟩) (.int .i64 P1) (.int .i64 P2) (.slice A110 pn c110))
      clear z0 z1 z2 f0 f1 f2 HP111
      generalize ((w110.setCell ⟨g107, 0, none⟩ (.int .i64 P1)).setCell ⟨g107, 1, none⟩ (.int .i64 P2)).setCell ⟨g107, 2, none⟩ (.slice A110 pn c110) = w111 at *
      try dsimp only
      refine hK.out _ _ ?_ (fun hHeld => ?_)
      · intro _
        try dsimp only
        have h := H111.out
        exact ⟨h.cells (.tail _ (.tail _ (.tail _ (.tail _ (.tail _ (.head _)))))), h.cells (.tail _ (.tail _ (.tail _ (.tail _ (.head _)))))⟩
      clear hK K
      try simp only [Act.put, pA, pB, pC]
      have hHeld := hHeld (by kernel_rfl)
      refine puG 10 ⟨some 11, .assign (.tmp 44), 29, _, #[⟨7, .data⟩, ⟨9, .chain⟩, ⟨0, .phase⟩, ⟨1, .phase⟩, ⟨2, .phase⟩, ⟨3, .phase⟩, ⟨4, .phase⟩, ⟨5, .phase⟩, ⟨6, .phase⟩, ⟨7, .phase⟩, ⟨8, .phase⟩, ⟨9, .phase⟩], none⟩ (v := ?_) ?_ (fun _ => by assumption) ?_
      rotate_left
      · intro w hSw
        try dsimp only at hSw
        go_simp
        try with_reducible rfl
      try simp only [Act.put, pA, pB, pC]
      refine wpAnyG_done (by kernel_rfl) ?_ _
      refine NoPanic.normal ?_
      exact REST g107 A110 c110 w111 (H111.out.sub (fun _ h => h) (List.forall_mem_cons.2 ⟨(.head _), (List.forall_mem_cons.2 ⟨(.tail _ (.head _)), (List.forall_mem_cons.2 ⟨(.tail _ (.tail _ (.head _))), (List.forall_mem_cons.2 ⟨(.tail _ (.tail _ (.tail _ (.head _)))), (List.forall_mem_cons.2 ⟨(.tail _ (.tail _ (.tail _ (.tail _ (.head _))))), (List.forall_mem_cons.2 ⟨(.tail _ (.tail _ (.tail _ (.tail _ (.tail _ (.head _)))))), (fun _ h => (List.not_mem_nil h).elim)⟩)⟩)⟩)⟩)⟩)⟩))
   case rest =>
    intro gjq Ajq cjq w206 h
    have H206 := Lib.hid h
    clear h H106
    obtain ⟨a8, b8, d8⟩ := H206.out.cells (.tail _ (.tail _ (.tail _ (.head _))))
    obtain ⟨a9, b9, d9⟩ := H206.out.cells (.tail _ (.tail _ (.head _)))
    go_wp2_with fail
    clear a8 b8 d8 a9 b9 d9
    refine (HSO.out.prog H206.out (.tail _ (.tail _ (.tail _ (.head _)))) (.tail _ (.tail _ (.head _)))).mono ?_
    rintro e w207 ⟨A207, c207, rfl, h⟩
    have H207 := Lib.hid h
    clear h
    have L10 := Lib.hid (show MS _ _ _ ((w207.heap.size, #[.int .i64 S1, .int .i64 S2, .slice A207 sn c207]) :: _) (w207.alloc (.cells #[.int .i64 S1, .int .i64 S2, .slice A207 sn c207] 27)) from by have h := H207.out.put #[.int .i64 S1, .int .i64 S2, .slice A207 sn c207]; (try simp only [World.size_alloc] at h); exact h)
    go_wp2_with fail
    have H208 := L10
    clear L10
    generalize (w207.alloc (.cells #[.int .i64 S1, .int .i64 S2, .slice A207 sn c207] 27)) = w208 at *
    apply via1_1 (H := fun (gjt : Nat) (Ajt : Option Addr) (cjt : Nat) W => MS w (some fq) [⟨Ajt, ls, cjt⟩, ⟨A207, ls, c207⟩, ⟨Ajq, lp, cjq⟩, ⟨A105, lp, c105⟩, ⟨Ajy, lb, cjy⟩, ⟨Ajx, la, cjx⟩, ⟨B, lb, cb⟩, ⟨A, la, ca⟩] [(gjt, #[.int .i64 S1, .int .i64 S2, .slice Ajt sn cjt]), (w207.heap.size, #[.int .i64 S1, .int .i64 S2, .slice A207 sn c207]), (gjq, #[.int .i64 P1, .int .i64 P2, .slice Ajq pn cjq]), (w105.heap.size, #[.int .i64 P1, .int .i64 P2, .slice A105 pn c105]), (gjy, #[.int .i64 Rb, .int .i64 Cb, .slice Ajy nb cjy]), (gjx, #[.int .i64 Ra, .int .i64 Ca, .slice Ajx na cjx]), (w.heap.size + 1, #[.int .i64 Rb, .int .i64 Cb, .slice B nb cb]), (w.heap.size, #[.int .i64 Ra, .int .i64 Ca, .slice A na ca])] W)
    case main =>
     intro REST
     refine wp_region_noPanic ?_
     refine wp_heldG (fun w' => (w'.cell? ⟨w.heap.size, 0, none⟩ = some (.int .i64 Ra) ∧ w'.cell? ⟨w.heap.size, 1, none⟩ = some (.int .i64 Ca) ∧ w'.cell? ⟨w.heap.size, 2, none⟩ = some (.slice A na ca)) ∧ (w'.cell? ⟨w.heap.size + 1, 0, none⟩ = some (.int .i64 Rb) ∧ w'.cell? ⟨w.heap.size + 1, 1, none⟩ = some (.int .i64 Cb) ∧ w'.cell? ⟨w.heap.size + 1, 2, none⟩ = some (.slice B nb cb))) [] (by kernel_rfl) ?hs0 ?rg0
     case hs0 =>
       have h := H208.out.keep (nextN (Mem.start w208) 1)
       exact ⟨h.cells (.tail _ (.tail _ (.tail _ (.tail _ (.tail _ (.tail _ (.head _))))))), h.cells (.tail _ (.tail _ (.tail _ (.tail _ (.tail _ (.head _))))))⟩
     case rg0 =>
     intro hHeld
     have HD208 := Lib.hid (show MS _ _ _ _ w208.drew from H208.out.keep (nextN (Mem.start w208) 1))
     generalize w208.drew = wd208 at *
     refine tkG 0 ⟨some 53, .load 27 (.tmp 2), 27, _, #[], none⟩ (v := ?_) ?_ (by assumption) ?_
     rotate_left
     · intro w hSw
       try dsimp only at hSw
       obtain ⟨⟨k0, k1, k2⟩, ⟨l0, l1, l2⟩⟩ := hSw
       go_simp
       try with_reducible rfl
     try simp only [Act.put, pA, pB, pC]
     refine tkG 2 ⟨some 55, .load 27 (.tmp 3), 27, _, #[], none⟩ (v := ?_) ?_ (by assumption) ?_
     rotate_left
     · intro w hSw
       try dsimp only at hSw
       obtain ⟨⟨k0, k1, k2⟩, ⟨l0, l1, l2⟩⟩ := hSw
       go_simp
       try with_reducible rfl
     try simp only [Act.put, pA, pB, pC]
     refine wpAnyG_two (i := 1) (j := 8) (o := ⟨some 54, .call { callee := Callee.value (Operand.func 20), args := #[.tmp 53], argTypes := #[27] }, 38, _, #[⟨0, .data⟩], none⟩) (u := ⟨some 14, .alloc 38, 0, _, #[], none⟩) (by kernel_rfl) rfl rfl (fun K hK => ?_) (fun K hK => ?_)
     · skip
       go_simp
       refine (plainR HD208.out ).mono ?_
       rintro e w209 ⟨rfl, h⟩
       have H209 := Lib.hid h
       clear h
       try dsimp only
       refine hK.out _ _ ?_ (fun hHeld => ?_)
       · intro _
         try dsimp only
         have h := H209.out
         exact ⟨h.cells (.tail _ (.tail _ (.tail _ (.tail _ (.tail _ (.tail _ (.head _))))))), h.cells (.tail _ (.tail _ (.tail _ (.tail _ (.tail _ (.head _))))))⟩
       clear hK K
       try simp only [Act.put, pA, pB, pC]
       have hHeld := hHeld (by kernel_rfl)
       refine wpAnyG_two (i := 3) (j := 8) (o := ⟨some 56, .call { callee := Callee.value (Operand.func 20), args := #[.tmp 55], argTypes := #[27] }, 38, _, #[⟨2, .data⟩, ⟨1, .chain⟩], none⟩) (u := ⟨some 14, .alloc 38, 0, _, #[], none⟩) (by kernel_rfl) rfl rfl (fun K hK => ?_) (fun K hK => ?_)
       · skip
         go_simp
         refine (plainR H209.out ).mono ?_
         rintro e w210 ⟨rfl, h⟩
         have H210 := Lib.hid h
         clear h
         try dsimp only
         refine hK.out _ _ ?_ (fun hHeld => ?_)
         · intro _
           try dsimp only
           have h := H210.out
           exact ⟨h.cells (.tail _ (.tail _ (.tail _ (.tail _ (.tail _ (.tail _ (.head _))))))), h.cells (.tail _ (.tail _ (.tail _ (.tail _ (.tail _ (.head _))))))⟩
         clear hK K
         try simp only [Act.put, pA, pB, pC]
         have hHeld := hHeld (by kernel_rfl)
         refine wpAnyG_two (i := 4) (j := 8) (o := ⟨some 57, .call { callee := Callee.value (Operand.func 22), args := #[.tmp 54, .tmp 56], argTypes := #[38, 38] }, 39, _, #[⟨1, .data⟩, ⟨3, .data⟩, ⟨3, .chain⟩], none⟩) (u := ⟨some 14, .alloc 38, 0, _, #[], none⟩) (by kernel_rfl) rfl rfl (fun K hK => ?_) (fun K hK => ?_)
         · skip
           go_simp
           refine (HSO.out.doc H210.out (.tail _ (.tail _ (.tail _ (.tail _ (.tail _ (.tail _ (.head _))))))) (.tail _ (.tail _ (.tail _ (.tail _ (.tail _ (.head _))))))).mono ?_
           rintro e w211 ⟨A211, c211, rfl, h⟩
           have H211 := Lib.hid h
           clear h
           try dsimp only
           refine hK.out _ _ ?_ (fun hHeld => ?_)
           · intro _
             try dsimp only
             have h := H211.out
             exact ⟨h.cells (.tail _ (.tail _ (.tail _ (.tail _ (.tail _ (.tail _ (.head _))))))), h.cells (.tail _ (.tail _ (.tail _ (.tail _ (.tail _ (.head _))))))⟩
           clear hK K
           try simp only [Act.put, pA, pB, pC]
           have hHeld := hHeld (by kernel_rfl)
           refine puG 5 ⟨some 52, .move (.tmp 57), 39, _, #[⟨4, .data⟩], none⟩ (v := ?_) ?_ (fun _ => by assumption) ?_
           rotate_left
           · intro w hSw
             try dsimp only at hSw
             go_simp
             try with_reducible rfl
           try simp only [Act.put, pA, pB, pC]
           refine puG 6 ⟨some 58, .extract (.tmp 52) 0, 38, _, #[⟨5, .data⟩], none⟩ (v := ?_) ?_ (fun _ => by assumption) ?_
           rotate_left
           · intro w hSw
             try dsimp only at hSw
             go_simp
             try with_reducible rfl
           try simp only [Act.put, pA, pB, pC]
           refine puG 7 ⟨some 59, .extract (.tmp 52) 1, 29, _, #[⟨5, .data⟩, { on := 9, ground := Ground.gcOnly Departure.lateStores }], none⟩ (v := ?_) ?_ (fun _ => by assumption) ?_
           rotate_left
           · intro w hSw
             try dsimp only at hSw
             go_simp
             try with_reducible rfl
           try simp only [Act.put, pA, pB, pC]
           refine onG 8 ⟨some 14, .alloc 38, 0, _, #[], none⟩ (fun K hK => ?_)
           refine step_new (P := Try.prog) _ ⟨rfl, rfl, rfl⟩ newMx5 ?_
           have H212 := Lib.hid (H211.out.putT #[.int .i64 0, .int .i64 0, .slice none 0 0] 38)
           have HB212 := Lib.hid (And.intro H211.out.below.size H211.out.far)
           obtain ⟨g212, hg212⟩ : ∃ x, w211.heap.size = x := ⟨_, rfl⟩
           rw [hg212] at H212 HB212 ⊢
           clear hg212
           generalize w211.alloc (.cells #[.int .i64 0, .int .i64 0, .slice none 0 0] 38) = w212 at *
           try dsimp only
           refine hK.out _ _ ?_ (fun hHeld => ?_)
           · intro _
             try dsimp only
             have h := H212.out
             exact ⟨h.cells (.tail _ (.tail _ (.tail _ (.tail _ (.tail _ (.tail _ (.tail _ (.head _)))))))), h.cells (.tail _ (.tail _ (.tail _ (.tail _ (.tail _ (.tail _ (.head _)))))))⟩
           clear hK K
           try simp only [Act.put, pA, pB, pC]
           have hHeld := hHeld (by kernel_rfl)
           refine onG 9 ⟨none, .store 38 (.tmp 14) (.tmp 58), 0, _, #[⟨8, .data⟩, ⟨6, .data⟩, ⟨4, .chain⟩, ⟨0, .phase⟩, ⟨1, .phase⟩, ⟨2, .phase⟩, ⟨3, .phase⟩, ⟨4, .phase⟩, ⟨5, .phase⟩, ⟨6, .phase⟩, { on := 7, ground := Ground.textOnly Departure.lateStores }, ⟨8, .phase⟩], none⟩ (fun K hK => ?_)
           have HP213 := Lib.hid (H212.out.sub (X' := [(g212, #[.int .i64 0, .int .i64 0, .slice none 0 0]), (w207.heap.size, #[.int .i64 S1, .int .i64 S2, .slice A207 sn c207]), (gjq, #[.int .i64 P1, .int .i64 P2, .slice Ajq pn cjq]), (w105.heap.size, #[.int .i64 P1, .int .i64 P2, .slice A105 pn c105]), (gjy, #[.int .i64 Rb, .int .i64 Cb, .slice Ajy nb cjy]), (gjx, #[.int .i64 Ra, .int .i64 Ca, .slice Ajx na cjx]), (w.heap.size + 1, #[.int .i64 Rb, .int .i64 Cb, .slice B nb cb]), (w.heap.size, #[.int .i64 Ra, .int .i64 Ca, .slice A na ca])]) (fun _ h => h) (List.forall_mem_cons.2 ⟨(.head _), (List.forall_mem_cons.2 ⟨(.tail _ (.head _)), (List.forall_mem_cons.2 ⟨(.tail _ (.tail _ (.head _))), (List.forall_mem_cons.2 ⟨(.tail _ (.tail _ (.tail _ (.head _)))), (List.forall_mem_cons.2 ⟨(.tail _ (.tail _ (.tail _ (.tail _ (.head _))))), (List.forall_mem_cons.2 ⟨(.tail _ (.tail _ (.tail _ (.tail _ (.tail _ (.head _)))))), (List.forall_mem_cons.2 ⟨(.tail _ (.tail _ (.tail _ (.tail _ (.tail _ (.tail _ (.head _))))))), (List.forall_mem_cons.2 ⟨(.tail _ (.tail _ (.tail _ (.tail _ (.tail _ (.tail _ (.tail _ (.head _)))))))), (fun _ h => (List.not_mem_nil h).elim)⟩)⟩)⟩)⟩)⟩)⟩)⟩)⟩))
           obtain ⟨⟨z0, z1, z2⟩, f0, f1, f2⟩ := HP213.out.blk (.head _)
           go_simp
           have H213 := Lib.hid (HP213.out.set HB212.out.1 (List.forall_mem_cons.2 ⟨(HB212.out.2 (w207.heap.size, #[.int .i64 S1, .int .i64 S2, .slice A207 sn c207]) (.head _)), (List.forall_mem_cons.2 ⟨(HB212.out.2 (gjq, #[.int .i64 P1, .int .i64 P2, .slice Ajq pn cjq]) (.tail _ (.head _))), (List.forall_mem_cons.2 ⟨(HB212.out.2 (w105.heap.size, #[.int .i64 P1, .int .i64 P2, .slice A105 pn c105]) (.tail _ (.tail _ (.head _)))), (List.forall_mem_cons.2 ⟨(HB212.out.2 (gjy, #[.int .i64 Rb, .int .i64 Cb, .slice Ajy nb cjy]) (.tail _ (.tail _ (.tail _ (.head _))))), (List.forall_mem_cons.2 ⟨(HB212.out.2 (gjx, #[.int .i64 Ra, .int .i64 Ca, .slice Ajx na cjx]) (.tail _ (.tail _ (.tail _ (.tail _ (.head _)))))), (List.forall_mem_cons.2 ⟨(HB212.out.2 (w.heap.size + 1, #[.int .i64 Rb, .int .i64 Cb, .slice B nb cb]) (.tail _ (.tail _ (.tail _ (.tail _ (.tail _ (.head _))))))), (List.forall_mem_cons.2 ⟨(HB212.out.2 (w.heap.size, #[.int .i64 Ra, .int .i64 Ca, .slice A na ca]) (.tail _ (.tail _ (.tail _ (.tail _ (.tail _ (.tail _ (.head _)))))))), (fun _ h => (List.not_mem_nil h).elim)⟩)⟩)⟩)⟩)⟩)⟩)⟩) (.int .i64 S1) (.int .i64 S2) (.slice A211 sn c211))
           clear z0 z1 z2 f0 f1 f2 HP213
           generalize ((w212.setCell ⟨g212, 0, none⟩ (.int .i64 S1)).setCell ⟨g212, 1, none⟩ (.int .i64 S2)).setCell ⟨g212, 2, none⟩ (.slice A211 sn c211) = w213 at *
           try dsimp only
           refine hK.out _ _ ?_ (fun hHeld => ?_)
           · intro _
             try dsimp only
             have h := H213.out
             exact ⟨h.cells (.tail _ (.tail _ (.tail _ (.tail _ (.tail _ (.tail _ (.tail _ (.head _)))))))), h.cells (.tail _ (.tail _ (.tail _ (.tail _ (.tail _ (.tail _ (.head _)))))))⟩
           clear hK K
           try simp only [Act.put, pA, pB, pC]
           have hHeld := hHeld (by kernel_rfl)
           refine puG 10 ⟨some 15, .assign (.tmp 59), 29, _, #[⟨7, .data⟩, ⟨9, .chain⟩, ⟨0, .phase⟩, ⟨1, .phase⟩, ⟨2, .phase⟩, ⟨3, .phase⟩, ⟨4, .phase⟩, ⟨5, .phase⟩, ⟨6, .phase⟩, ⟨7, .phase⟩, ⟨8, .phase⟩, ⟨9, .phase⟩], none⟩ (v := ?_) ?_ (fun _ => by assumption) ?_
           rotate_left
           · intro w hSw
             try dsimp only at hSw
             go_simp
             try with_reducible rfl
           try simp only [Act.put, pA, pB, pC]
           refine wpAnyG_done (by kernel_rfl) ?_ _
           refine NoPanic.normal ?_
           exact REST g212 A211 c211 w213 (H213.out.sub (fun _ h => h) (List.forall_mem_cons.2 ⟨(.head _), (List.forall_mem_cons.2 ⟨(.tail _ (.head _)), (List.forall_mem_cons.2 ⟨(.tail _ (.tail _ (.head _))), (List.forall_mem_cons.2 ⟨(.tail _ (.tail _ (.tail _ (.head _)))), (List.forall_mem_cons.2 ⟨(.tail _ (.tail _ (.tail _ (.tail _ (.head _))))), (List.forall_mem_cons.2 ⟨(.tail _ (.tail _ (.tail _ (.tail _ (.tail _ (.head _)))))), (List.forall_mem_cons.2 ⟨(.tail _ (.tail _ (.tail _ (.tail _ (.tail _ (.tail _ (.head _))))))), (List.forall_mem_cons.2 ⟨(.tail _ (.tail _ (.tail _ (.tail _ (.tail _ (.tail _ (.tail _ (.head _)))))))), (fun _ h => (List.not_mem_nil h).elim)⟩)⟩)⟩)⟩)⟩)⟩)⟩)⟩))
         · skip
           refine step_new (P := Try.prog) _ ⟨rfl, rfl, rfl⟩ newMx5 ?_
           have H211 := Lib.hid (H210.out.putT #[.int .i64 0, .int .i64 0, .slice none 0 0] 38)
           have HB211 := Lib.hid (And.intro H210.out.below.size H210.out.far)
           obtain ⟨g211, hg211⟩ : ∃ x, w210.heap.size = x := ⟨_, rfl⟩
           rw [hg211] at H211 HB211 ⊢
           clear hg211
           generalize w210.alloc (.cells #[.int .i64 0, .int .i64 0, .slice none 0 0] 38) = w211 at *
           try dsimp only
           refine hK.out _ _ ?_ (fun hHeld => ?_)
           · intro _
             try dsimp only
             have h := H211.out
             exact ⟨h.cells (.tail _ (.tail _ (.tail _ (.tail _ (.tail _ (.tail _ (.tail _ (.head _)))))))), h.cells (.tail _ (.tail _ (.tail _ (.tail _ (.tail _ (.tail _ (.head _)))))))⟩
           clear hK K
           try simp only [Act.put, pA, pB, pC]
           have hHeld := hHeld (by kernel_rfl)
           refine onG 4 ⟨some 57, .call { callee := Callee.value (Operand.func 22), args := #[.tmp 54, .tmp 56], argTypes := #[38, 38] }, 39, _, #[⟨1, .data⟩, ⟨3, .data⟩, ⟨3, .chain⟩], none⟩ (fun K hK => ?_)
           go_simp
           refine (HSO.out.doc H211.out (.tail _ (.tail _ (.tail _ (.tail _ (.tail _ (.tail _ (.head _))))))) (.tail _ (.tail _ (.tail _ (.tail _ (.tail _ (.head _))))))).mono ?_
           rintro e w212 ⟨A212, c212, rfl, h⟩
           have H212 := Lib.hid h
           clear h
           try dsimp only
           refine hK.out _ _ ?_ (fun hHeld => ?_)
           · intro _
             try dsimp only
             have h := H212.out
             exact ⟨h.cells (.tail _ (.tail _ (.tail _ (.tail _ (.tail _ (.tail _ (.tail _ (.head _)))))))), h.cells (.tail _ (.tail _ (.tail _ (.tail _ (.tail _ (.tail _ (.head _)))))))⟩
           clear hK K
           try simp only [Act.put, pA, pB, pC]
           have hHeld := hHeld (by kernel_rfl)
           refine puG 5 ⟨some 52, .move (.tmp 57), 39, _, #[⟨4, .data⟩], none⟩ (v := ?_) ?_ (fun _ => by assumption) ?_
           rotate_left
           · intro w hSw
             try dsimp only at hSw
             go_simp
             try with_reducible rfl
           try simp only [Act.put, pA, pB, pC]
           refine puG 6 ⟨some 58, .extract (.tmp 52) 0, 38, _, #[⟨5, .data⟩], none⟩ (v := ?_) ?_ (fun _ => by assumption) ?_
           rotate_left
           · intro w hSw
             try dsimp only at hSw
             go_simp
             try with_reducible rfl
           try simp only [Act.put, pA, pB, pC]
           refine puG 7 ⟨some 59, .extract (.tmp 52) 1, 29, _, #[⟨5, .data⟩, { on := 9, ground := Ground.gcOnly Departure.lateStores }], none⟩ (v := ?_) ?_ (fun _ => by assumption) ?_
           rotate_left
           · intro w hSw
             try dsimp only at hSw
             go_simp
             try with_reducible rfl
           try simp only [Act.put, pA, pB, pC]
           refine onG 9 ⟨none, .store 38 (.tmp 14) (.tmp 58), 0, _, #[⟨8, .data⟩, ⟨6, .data⟩, ⟨4, .chain⟩, ⟨0, .phase⟩, ⟨1, .phase⟩, ⟨2, .phase⟩, ⟨3, .phase⟩, ⟨4, .phase⟩, ⟨5, .phase⟩, ⟨6, .phase⟩, { on := 7, ground := Ground.textOnly Departure.lateStores }, ⟨8, .phase⟩], none⟩ (fun K hK => ?_)
           have HP213 := Lib.hid (H212.out.sub (X' := [(g211, #[.int .i64 0, .int .i64 0, .slice none 0 0]), (w207.heap.size, #[.int .i64 S1, .int .i64 S2, .slice A207 sn c207]), (gjq, #[.int .i64 P1, .int .i64 P2, .slice Ajq pn cjq]), (w105.heap.size, #[.int .i64 P1, .int .i64 P2, .slice A105 pn c105]), (gjy, #[.int .i64 Rb, .int .i64 Cb, .slice Ajy nb cjy]), (gjx, #[.int .i64 Ra, .int .i64 Ca, .slice Ajx na cjx]), (w.heap.size + 1, #[.int .i64 Rb, .int .i64 Cb, .slice B nb cb]), (w.heap.size, #[.int .i64 Ra, .int .i64 Ca, .slice A na ca])]) (fun _ h => h) (List.forall_mem_cons.2 ⟨(.head _), (List.forall_mem_cons.2 ⟨(.tail _ (.head _)), (List.forall_mem_cons.2 ⟨(.tail _ (.tail _ (.head _))), (List.forall_mem_cons.2 ⟨(.tail _ (.tail _ (.tail _ (.head _)))), (List.forall_mem_cons.2 ⟨(.tail _ (.tail _ (.tail _ (.tail _ (.head _))))), (List.forall_mem_cons.2 ⟨(.tail _ (.tail _ (.tail _ (.tail _ (.tail _ (.head _)))))), (List.forall_mem_cons.2 ⟨(.tail _ (.tail _ (.tail _ (.tail _ (.tail _ (.tail _ (.head _))))))), (List.forall_mem_cons.2 ⟨(.tail _ (.tail _ (.tail _ (.tail _ (.tail _ (.tail _ (.tail _ (.head _)))))))), (fun _ h => (List.not_mem_nil h).elim)⟩)⟩)⟩)⟩)⟩)⟩)⟩)⟩))
           obtain ⟨⟨z0, z1, z2⟩, f0, f1, f2⟩ := HP213.out.blk (.head _)
           go_simp
           have H213 := Lib.hid (HP213.out.set HB211.out.1 (List.forall_mem_cons.2 ⟨(HB211.out.2 (w207.heap.size, #[.int .i64 S1, .int .i64 S2, .slice A207 sn c207]) (.head _)), (List.forall_mem_cons.2 ⟨(HB211.out.2 (gjq, #[.int .i64 P1, .int .i64 P2, .slice Ajq pn cjq]) (.tail _ (.head _))), (List.forall_mem_cons.2 ⟨(HB211.out.2 (w105.heap.size, #[.int .i64 P1, .int .i64 P2, .slice A105 pn c105]) (.tail _ (.tail _ (.head _)))), (List.forall_mem_cons.2 ⟨(HB211.out.2 (gjy, #[.int .i64 Rb, .int .i64 Cb, .slice Ajy nb cjy]) (.tail _ (.tail _ (.tail _ (.head _))))), (List.forall_mem_cons.2 ⟨(HB211.out.2 (gjx, #[.int .i64 Ra, .int .i64 Ca, .slice Ajx na cjx]) (.tail _ (.tail _ (.tail _ (.tail _ (.head _)))))), (List.forall_mem_cons.2 ⟨(HB211.out.2 (w.heap.size + 1, #[.int .i64 Rb, .int .i64 Cb, .slice B nb cb]) (.tail _ (.tail _ (.tail _ (.tail _ (.tail _ (.head _))))))), (List.forall_mem_cons.2 ⟨(HB211.out.2 (w.heap.size, #[.int .i64 Ra, .int .i64 Ca, .slice A na ca]) (.tail _ (.tail _ (.tail _ (.tail _ (.tail _ (.tail _ (.head _)))))))), (fun _ h => (List.not_mem_nil h).elim)⟩)⟩)⟩)⟩)⟩)⟩)⟩) (.int .i64 S1) (.int .i64 S2) (.slice A212 sn c212))
           clear z0 z1 z2 f0 f1 f2 HP213
           generalize ((w212.setCell ⟨g211, 0, none⟩ (.int .i64 S1)).setCell ⟨g211, 1, none⟩ (.int .i64 S2)).setCell ⟨g211, 2, none⟩ (.slice A212 sn c212) = w213 at *
           try dsimp only
           refine hK.out _ _ ?_ (fun hHeld => ?_)
           · intro _
             try dsimp only
             have h := H213.out
             exact ⟨h.cells (.tail _ (.tail _ (.tail _ (.tail _ (.tail _ (.tail _ (.tail _ (.head _)))))))), h.cells (.tail _ (.tail _ (.tail _ (.tail _ (.tail _ (.tail _ (.head _)))))))⟩
           clear hK K
           try simp only [Act.put, pA, pB, pC]
           have hHeld := hHeld (by kernel_rfl)
           refine puG 10 ⟨some 15, .assign (.tmp 59), 29, _, #[⟨7, .data⟩, ⟨9, .chain⟩, ⟨0, .phase⟩, ⟨1, .phase⟩, ⟨2, .phase⟩, ⟨3, .phase⟩, ⟨4, .phase⟩, ⟨5, .phase⟩, ⟨6, .phase⟩, ⟨7, .phase⟩, ⟨8, .phase⟩, ⟨9, .phase⟩], none⟩ (v := ?_) ?_ (fun _ => by assumption) ?_
           rotate_left
           · intro w hSw
             try dsimp only at hSw
             go_simp
             try with_reducible rfl
           try simp only [Act.put, pA, pB, pC]
           refine wpAnyG_done (by kernel_rfl) ?_ _
           refine NoPanic.normal ?_
           exact REST g211 A212 c212 w213 (H213.out.sub (fun _ h => h) (List.forall_mem_cons.2 ⟨(.head _), (List.forall_mem_cons.2 ⟨(.tail _ (.head _)), (List.forall_mem_cons.2 ⟨(.tail _ (.tail _ (.head _))), (List.forall_mem_cons.2 ⟨(.tail _ (.tail _ (.tail _ (.head _)))), (List.forall_mem_cons.2 ⟨(.tail _ (.tail _ (.tail _ (.tail _ (.head _))))), (List.forall_mem_cons.2 ⟨(.tail _ (.tail _ (.tail _ (.tail _ (.tail _ (.head _)))))), (List.forall_mem_cons.2 ⟨(.tail _ (.tail _ (.tail _ (.tail _ (.tail _ (.tail _ (.head _))))))), (List.forall_mem_cons.2 ⟨(.tail _ (.tail _ (.tail _ (.tail _ (.tail _ (.tail _ (.tail _ (.head _)))))))), (fun _ h => (List.not_mem_nil h).elim)⟩)⟩)⟩)⟩)⟩)⟩)⟩)⟩))
       · skip
         refine step_new (P := Try.prog) _ ⟨rfl, rfl, rfl⟩ newMx5 ?_
         have H210 := Lib.hid (H209.out.putT #[.int .i64 0, .int .i64 0, .slice none 0 0] 38)
         have HB210 := Lib.hid (And.intro H209.out.below.size H209.out.far)
         obtain ⟨g210, hg210⟩ : ∃ x, w209.heap.size = x := ⟨_, rfl⟩
         rw [hg210] at H210 HB210 ⊢
         clear hg210
         generalize w209.alloc (.cells #[.int .i64 0, .int .i64 0, .slice none 0 0] 38) = w210 at *
         try dsimp only
         refine hK.out _ _ ?_ (fun hHeld => ?_)
         · intro _
           try dsimp only
           have h := H210.out
           exact ⟨h.cells (.tail _ (.tail _ (.tail _ (.tail _ (.tail _ (.tail _ (.tail _ (.head _)))))))), h.cells (.tail _ (.tail _ (.tail _ (.tail _ (.tail _ (.tail _ (.head _)))))))⟩
         clear hK K
         try simp only [Act.put, pA, pB, pC]
         have hHeld := hHeld (by kernel_rfl)
         refine onG 3 ⟨some 56, .call { callee := Callee.value (Operand.func 20), args := #[.tmp 55], argTypes := #[27] }, 38, _, #[⟨2, .data⟩, ⟨1, .chain⟩], none⟩ (fun K hK => ?_)
         go_simp
         refine (plainR H210.out ).mono ?_
         rintro e w211 ⟨rfl, h⟩
         have H211 := Lib.hid h
         clear h
         try dsimp only
         refine hK.out _ _ ?_ (fun hHeld => ?_)
         · intro _
           try dsimp only
           have h := H211.out
           exact ⟨h.cells (.tail _ (.tail _ (.tail _ (.tail _ (.tail _ (.tail _ (.tail _ (.head _)))))))), h.cells (.tail _ (.tail _ (.tail _ (.tail _ (.tail _ (.tail _ (.head _)))))))⟩
         clear hK K
         try simp only [Act.put, pA, pB, pC]
         have hHeld := hHeld (by kernel_rfl)
         refine onG 4 ⟨some 57, .call { callee := Callee.value (Operand.func 22), args := #[.tmp 54, .tmp 56], argTypes := #[38, 38] }, 39, _, #[⟨1, .data⟩, ⟨3, .data⟩, ⟨3, .chain⟩], none⟩ (fun K hK => ?_)
         go_simp
         refine (HSO.out.doc H211.out (.tail _ (.tail _ (.tail _ (.tail _ (.tail _ (.tail _ (.head _))))))) (.tail _ (.tail _ (.tail _ (.tail _ (.tail _ (.head _))))))).mono ?_
         rintro e w212 ⟨A212, c212, rfl, h⟩
         have H212 := Lib.hid h
         clear h
         try dsimp only
         refine hK.out _ _ ?_ (fun hHeld => ?_)
         · intro _
           try dsimp only
           have h := H212.out
           exact ⟨h.cells (.tail _ (.tail _ (.tail _ (.tail _ (.tail _ (.tail _ (.tail _ (.head _)))))))), h.cells (.tail _ (.tail _ (.tail _ (.tail _ (.tail _ (.tail _ (.head _)))))))⟩
         clear hK K
         try simp only [Act.put, pA, pB, pC]
         have hHeld := hHeld (by kernel_rfl)
         refine puG 5 ⟨some 52, .move (.tmp 57), 39, _, #[⟨4, .data⟩], none⟩ (v := ?_) ?_ (fun _ => by assumption) ?_
         rotate_left
         · intro w hSw
           try dsimp only at hSw
           go_simp
           try with_reducible rfl
         try simp only [Act.put, pA, pB, pC]
         refine puG 6 ⟨some 58, .extract (.tmp 52) 0, 38, _, #[⟨5, .data⟩], none⟩ (v := ?_) ?_ (fun _ => by assumption) ?_
         rotate_left
         · intro w hSw
           try dsimp only at hSw
           go_simp
           try with_reducible rfl
         try simp only [Act.put, pA, pB, pC]
         refine puG 7 ⟨some 59, .extract (.tmp 52) 1, 29, _, #[⟨5, .data⟩, { on := 9, ground := Ground.gcOnly Departure.lateStores }], none⟩ (v := ?_) ?_ (fun _ => by assumption) ?_
         rotate_left
         · intro w hSw
           try dsimp only at hSw
           go_simp
           try with_reducible rfl
         try simp only [Act.put, pA, pB, pC]
         refine onG 9 ⟨none, .store 38 (.tmp 14) (.tmp 58), 0, _, #[⟨8, .data⟩, ⟨6, .data⟩, ⟨4, .chain⟩, ⟨0, .phase⟩, ⟨1, .phase⟩, ⟨2, .phase⟩, ⟨3, .phase⟩, ⟨4, .phase⟩, ⟨5, .phase⟩, ⟨6, .phase⟩, { on := 7, ground := Ground.textOnly Departure.lateStores }, ⟨8, .phase⟩], none⟩ (fun K hK => ?_)
         have HP213 := Lib.hid (H212.out.sub (X' := [(g210, #[.int .i64 0, .int .i64 0, .slice none 0 0]), (w207.heap.size, #[.int .i64 S1, .int .i64 S2, .slice A207 sn c207]), (gjq, #[.int .i64 P1, .int .i64 P2, .slice Ajq pn cjq]), (w105.heap.size, #[.int .i64 P1, .int .i64 P2, .slice A105 pn c105]), (gjy, #[.int .i64 Rb, .int .i64 Cb, .slice Ajy nb cjy]), (gjx, #[.int .i64 Ra, .int .i64 Ca, .slice Ajx na cjx]), (w.heap.size + 1, #[.int .i64 Rb, .int .i64 Cb, .slice B nb cb]), (w.heap.size, #[.int .i64 Ra, .int .i64 Ca, .slice A na ca])]) (fun _ h => h) (List.forall_mem_cons.2 ⟨(.head _), (List.forall_mem_cons.2 ⟨(.tail _ (.head _)), (List.forall_mem_cons.2 ⟨(.tail _ (.tail _ (.head _))), (List.forall_mem_cons.2 ⟨(.tail _ (.tail _ (.tail _ (.head _)))), (List.forall_mem_cons.2 ⟨(.tail _ (.tail _ (.tail _ (.tail _ (.head _))))), (List.forall_mem_cons.2 ⟨(.tail _ (.tail _ (.tail _ (.tail _ (.tail _ (.head _)))))), (List.forall_mem_cons.2 ⟨(.tail _ (.tail _ (.tail _ (.tail _ (.tail _ (.tail _ (.head _))))))), (List.forall_mem_cons.2 ⟨(.tail _ (.tail _ (.tail _ (.tail _ (.tail _ (.tail _ (.tail _ (.head _)))))))), (fun _ h => (List.not_mem_nil h).elim)⟩)⟩)⟩)⟩)⟩)⟩)⟩)⟩))
         obtain ⟨⟨z0, z1, z2⟩, f0, f1, f2⟩ := HP213.out.blk (.head _)
         go_simp
         have H213 := Lib.hid (HP213.out.set HB210.out.1 (List.forall_mem_cons.2 ⟨(HB210.out.2 (w207.heap.size, #[.int .i64 S1, .int .i64 S2, .slice A207 sn c207]) (.head _)), (List.forall_mem_cons.2 ⟨(HB210.out.2 (gjq, #[.int .i64 P1, .int .i64 P2, .slice Ajq pn cjq]) (.tail _ (.head _))), (List.forall_mem_cons.2 ⟨(HB210.out.2 (w105.heap.size, #[.int .i64 P1, .int .i64 P2, .slice A105 pn c105]) (.tail _ (.tail _ (.head _)))), (List.forall_mem_cons.2 ⟨(HB210.out.2 (gjy, #[.int .i64 Rb, .int .i64 Cb, .slice Ajy nb cjy]) (.tail _ (.tail _ (.tail _ (.head _))))), (List.forall_mem_cons.2 ⟨(HB210.out.2 (gjx, #[.int .i64 Ra, .int .i64 Ca, .slice Ajx na cjx]) (.tail _ (.tail _ (.tail _ (.tail _ (.head _)))))), (List.forall_mem_cons.2 ⟨(HB210.out.2 (w.heap.size + 1, #[.int .i64 Rb, .int .i64 Cb, .slice B nb cb]) (.tail _ (.tail _ (.tail _ (.tail _ (.tail _ (.head _))))))), (List.forall_mem_cons.2 ⟨(HB210.out.2 (w.heap.size, #[.int .i64 Ra, .int .i64 Ca, .slice A na ca]) (.tail _ (.tail _ (.tail _ (.tail _ (.tail _ (.tail _ (.head _)))))))), (fun _ h => (List.not_mem_nil h).elim)⟩)⟩)⟩)⟩)⟩)⟩)⟩) (.int .i64 S1) (.int .i64 S2) (.slice A212 sn c212))
         clear z0 z1 z2 f0 f1 f2 HP213
         generalize ((w212.setCell ⟨g210, 0, none⟩ (.int .i64 S1)).setCell ⟨g210, 1, none⟩ (.int .i64 S2)).setCell ⟨g210, 2, none⟩ (.slice A212 sn c212) = w213 at *
         try dsimp only
         refine hK.out _ _ ?_ (fun hHeld => ?_)
         · intro _
           try dsimp only
           have h := H213.out
           exact ⟨h.cells (.tail _ (.tail _ (.tail _ (.tail _ (.tail _ (.tail _ (.tail _ (.head _)))))))), h.cells (.tail _ (.tail _ (.tail _ (.tail _ (.tail _ (.tail _ (.head _)))))))⟩
         clear hK K
         try simp only [Act.put, pA, pB, pC]
         have hHeld := hHeld (by kernel_rfl)
         refine puG 10 ⟨some 15, .assign (.tmp 59), 29, _, #[⟨7, .data⟩, ⟨9, .chain⟩, ⟨0, .phase⟩, ⟨1, .phase⟩, ⟨2, .phase⟩, ⟨3, .phase⟩, ⟨4, .phase⟩, ⟨5, .phase⟩, ⟨6, .phase⟩, ⟨7, .phase⟩, ⟨8, .phase⟩, ⟨9, .phase⟩], none⟩ (v := ?_) ?_ (fun _ => by assumption) ?_
         rotate_left
         · intro w hSw
           try dsimp only at hSw
           go_simp
           try with_reducible rfl
         try simp only [Act.put, pA, pB, pC]
         refine wpAnyG_done (by kernel_rfl) ?_ _
         refine NoPanic.normal ?_
         exact REST g210 A212 c212 w213 (H213.out.sub (fun _ h => h) (List.forall_mem_cons.2 ⟨(.head _), (List.forall_mem_cons.2 ⟨(.tail _ (.head _)), (List.forall_mem_cons.2 ⟨(.tail _ (.tail _ (.head _))), (List.forall_mem_cons.2 ⟨(.tail _ (.tail _ (.tail _ (.head _)))), (List.forall_mem_cons.2 ⟨(.tail _ (.tail _ (.tail _ (.tail _ (.head _))))), (List.forall_mem_cons.2 ⟨(.tail _ (.tail _ (.tail _ (.tail _ (.tail _ (.head _)))))), (List.forall_mem_cons.2 ⟨(.tail _ (.tail _ (.tail _ (.tail _ (.tail _ (.tail _ (.head _))))))), (List.forall_mem_cons.2 ⟨(.tail _ (.tail _ (.tail _ (.tail _ (.tail _ (.tail _ (.tail _ (.head _)))))))), (fun _ h => (List.not_mem_nil h).elim)⟩)⟩)⟩)⟩)⟩)⟩)⟩)⟩))
     · skip
       refine step_new (P := Try.prog) _ ⟨rfl, rfl, rfl⟩ newMx5 ?_
       have H209 := Lib.hid (HD208.out.putT #[.int .i64 0, .int .i64 0, .slice none 0 0] 38)
       have HB209 := Lib.hid (And.intro HD208.out.below.size HD208.out.far)
       obtain ⟨g209, hg209⟩ : ∃ x, wd208.heap.size = x := ⟨_, rfl⟩
       rw [hg209] at H209 HB209 ⊢
       clear hg209
       generalize wd208.alloc (.cells #[.int .i64 0, .int .i64 0, .slice none 0 0] 38) = w209 at *
       try dsimp only
       refine hK.out _ _ ?_ (fun hHeld => ?_)
       · intro _
         try dsimp only
         have h := H209.out
         exact ⟨h.cells (.tail _ (.tail _ (.tail _ (.tail _ (.tail _ (.tail _ (.tail _ (.head _)))))))), h.cells (.tail _ (.tail _ (.tail _ (.tail _ (.tail _ (.tail _ (.head _)))))))⟩
       clear hK K
       try simp only [Act.put, pA, pB, pC]
       have hHeld := hHeld (by kernel_rfl)
       refine onG 1 ⟨some 54, .call { callee := Callee.value (Operand.func 20), args := #[.tmp 53], argTypes := #[27] }, 38, _, #[⟨0, .data⟩], none⟩ (fun K hK => ?_)
       go_simp
       refine (plainR H209.out ).mono ?_
       rintro e w210 ⟨rfl, h⟩
       have H210 := Lib.hid h
       clear h
       try dsimp only
       refine hK.out _ _ ?_ (fun hHeld => ?_)
       · intro _
         try dsimp only
         have h := H210.out
         exact ⟨h.cells (.tail _ (.tail _ (.tail _ (.tail _ (.tail _ (.tail _ (.tail _ (.head _)))))))), h.cells (.tail _ (.tail _ (.tail _ (.tail _ (.tail _ (.tail _ (.head _)))))))⟩
       clear hK K
       try simp only [Act.put, pA, pB, pC]
       have hHeld := hHeld (by kernel_rfl)
       refine onG 3 ⟨some 56, .call { callee := Callee.value (Operand.func 20), args := #[.tmp 55], argTypes := #[27] }, 38, _, #[⟨2, .data⟩, ⟨1, .chain⟩], none⟩ (fun K hK => ?_)
       go_simp
       refine (plainR H210.out ).mono ?_
       rintro e w211 ⟨rfl, h⟩
       have H211 := Lib.hid h
       clear h
       try dsimp only
       refine hK.out _ _ ?_ (fun hHeld => ?_)
       · intro _
         try dsimp only
         have h := H211.out
         exact ⟨h.cells (.tail _ (.tail _ (.tail _ (.tail _ (.tail _ (.tail _ (.tail _ (.head _)))))))), h.cells (.tail _ (.tail _ (.tail _ (.tail _ (.tail _ (.tail _ (.head _)))))))⟩
       clear hK K
       try simp only [Act.put, pA, pB, pC]
       have hHeld := hHeld (by kernel_rfl)
       refine onG 4 ⟨some 57, .call { callee := Callee.value (Operand.func 22), args := #[.tmp 54, .tmp 56], argTypes := #[38, 38] }, 39, _, #[⟨1, .data⟩, ⟨3, .data⟩, ⟨3, .chain⟩], none⟩ (fun K hK => ?_)
       go_simp
       refine (HSO.out.doc H211.out (.tail _ (.tail _ (.tail _ (.tail _ (.tail _ (.tail _ (.head _))))))) (.tail _ (.tail _ (.tail _ (.tail _ (.tail _ (.head _))))))).mono ?_
       rintro e w212 ⟨A212, c212, rfl, h⟩
       have H212 := Lib.hid h
       clear h
       try dsimp only
       refine hK.out _ _ ?_ (fun hHeld => ?_)
       · intro _
         try dsimp only
         have h := H212.out
         exact ⟨h.cells (.tail _ (.tail _ (.tail _ (.tail _ (.tail _ (.tail _ (.tail _ (.head _)))))))), h.cells (.tail _ (.tail _ (.tail _ (.tail _ (.tail _ (.tail _ (.head _)))))))⟩
       clear hK K
       try simp only [Act.put, pA, pB, pC]
       have hHeld := hHeld (by kernel_rfl)
       refine puG 5 ⟨some 52, .move (.tmp 57), 39, _, #[⟨4, .data⟩], none⟩ (v := ?_) ?_ (fun _ => by assumption) ?_
       rotate_left
       · intro w hSw
         try dsimp only at hSw
         go_simp
         try with_reducible rfl
       try simp only [Act.put, pA, pB, pC]
       refine puG 6 ⟨some 58, .extract (.tmp 52) 0, 38, _, #[⟨5, .data⟩], none⟩ (v := ?_) ?_ (fun _ => by assumption) ?_
       rotate_left
       · intro w hSw
         try dsimp only at hSw
         go_simp
         try with_reducible rfl
       try simp only [Act.put, pA, pB, pC]
       refine puG 7 ⟨some 59, .extract (.tmp 52) 1, 29, _, #[⟨5, .data⟩, { on := 9, ground := Ground.gcOnly Departure.lateStores }], none⟩ (v := ?_) ?_ (fun _ => by assumption) ?_
       rotate_left
       · intro w hSw
         try dsimp only at hSw
         go_simp
         try with_reducible rfl
       try simp only [Act.put, pA, pB, pC]
       refine onG 9 ⟨none, .store 38 (.tmp 14) (.tmp 58), 0, _, #[⟨8, .data⟩, ⟨6, .data⟩, ⟨4, .chain⟩, ⟨0, .phase⟩, ⟨1, .phase⟩, ⟨2, .phase⟩, ⟨3, .phase⟩, ⟨4, .phase⟩, ⟨5, .phase⟩, ⟨6, .phase⟩, { on := 7, ground := Ground.textOnly Departure.lateStores }, ⟨8, .phase⟩], none⟩ (fun K hK => ?_)
       have HP213 := Lib.hid (H212.out.sub (X' := [(g209, #[.int .i64 0, .int .i64 0, .slice none 0 0]), (w207.heap.size, #[.int .i64 S1, .int .i64 S2, .slice A207 sn c207]), (gjq, #[.int .i64 P1, .int .i64 P2, .slice Ajq pn cjq]), (w105.heap.size, #[.int .i64 P1, .int .i64 P2, .slice A105 pn c105]), (gjy, #[.int .i64 Rb, .int .i64 Cb, .slice Ajy nb cjy]), (gjx, #[.int .i64 Ra, .int .i64 Ca, .slice Ajx na cjx]), (w.heap.size + 1, #[.int .i64 Rb, .int .i64 Cb, .slice B nb cb]), (w.heap.size, #[.int .i64 Ra, .int .i64 Ca, .slice A na ca])]) (fun _ h => h) (List.forall_mem_cons.2 ⟨(.head _), (List.forall_mem_cons.2 ⟨(.tail _ (.head _)), (List.forall_mem_cons.2 ⟨(.tail _ (.tail _ (.head _))), (List.forall_mem_cons.2 ⟨(.tail _ (.tail _ (.tail _ (.head _)))), (List.forall_mem_cons.2 ⟨(.tail _ (.tail _ (.tail _ (.tail _ (.head _))))), (List.forall_mem_cons.2 ⟨(.tail _ (.tail _ (.tail _ (.tail _ (.tail _ (.head _)))))), (List.forall_mem_cons.2 ⟨(.tail _ (.tail _ (.tail _ (.tail _ (.tail _ (.tail _ (.head _))))))), (List.forall_mem_cons.2 ⟨(.tail _ (.tail _ (.tail _ (.tail _ (.tail _ (.tail _ (.tail _ (.head _)))))))), (fun _ h => (List.not_mem_nil h).elim)⟩)⟩)⟩)⟩)⟩)⟩)⟩)⟩))
       obtain ⟨⟨z0, z1, z2⟩, f0, f1, f2⟩ := HP213.out.blk (.head _)
       go_simp
       have H213 := Lib.hid (HP213.out.set HB209.out.1 (List.forall_mem_cons.2 ⟨(HB209.out.2 (w207.heap.size, #[.int .i64 S1, .int .i64 S2, .slice A207 sn c207]) (.head _)), (List.forall_mem_cons.2 ⟨(HB209.out.2 (gjq, #[.int .i64 P1, .int .i64 P2, .slice Ajq pn cjq]) (.tail _ (.head _))), (List.forall_mem_cons.2 ⟨(HB209.out.2 (w105.heap.size, #[.int .i64 P1, .int .i64 P2, .slice A105 pn c105]) (.tail _ (.tail _ (.head _)))), (List.forall_mem_cons.2 ⟨(HB209.out.2 (gjy, #[.int .i64 Rb, .int .i64 Cb, .slice Ajy nb cjy]) (.tail _ (.tail _ (.tail _ (.head _))))), (List.forall_mem_cons.2 ⟨(HB209.out.2 (gjx, #[.int .i64 Ra, .int .i64 Ca, .slice Ajx na cjx]) (.tail _ (.tail _ (.tail _ (.tail _ (.head _)))))), (List.forall_mem_cons.2 ⟨(HB209.out.2 (w.heap.size + 1, #[.int .i64 Rb, .int .i64 Cb, .slice B nb cb]) (.tail _ (.tail _ (.tail _ (.tail _ (.tail _ (.head _))))))), (List.forall_mem_cons.2 ⟨(HB209.out.2 (w.heap.size, #[.int .i64 Ra, .int .i64 Ca, .slice A na ca]) (.tail _ (.tail _ (.tail _ (.tail _ (.tail _ (.tail _ (.head _)))))))), (fun _ h => (List.not_mem_nil h).elim)⟩)⟩)⟩)⟩)⟩)⟩)⟩) (.int .i64 S1) (.int .i64 S2) (.slice A212 sn c212))
       clear z0 z1 z2 f0 f1 f2 HP213
       generalize ((w212.setCell ⟨g209, 0, none⟩ (.int .i64 S1)).setCell ⟨g209, 1, none⟩ (.int .i64 S2)).setCell ⟨g209, 2, none⟩ (.slice A212 sn c212) = w213 at *
       try dsimp only
       refine hK.out _ _ ?_ (fun hHeld => ?_)
       · intro _
         try dsimp only
         have h := H213.out
         exact ⟨h.cells (.tail _ (.tail _ (.tail _ (.tail _ (.tail _ (.tail _ (.tail _ (.head _)))))))), h.cells (.tail _ (.tail _ (.tail _ (.tail _ (.tail _ (.tail _ (.head _)))))))⟩
       clear hK K
       try simp only [Act.put, pA, pB, pC]
       have hHeld := hHeld (by kernel_rfl)
       refine puG 10 ⟨some 15, .assign (.tmp 59), 29, _, #[⟨7, .data⟩, ⟨9, .chain⟩, ⟨0, .phase⟩, ⟨1, .phase⟩, ⟨2, .phase⟩, ⟨3, .phase⟩, ⟨4, .phase⟩, ⟨5, .phase⟩, ⟨6, .phase⟩, ⟨7, .phase⟩, ⟨8, .phase⟩, ⟨9, .phase⟩], none⟩ (v := ?_) ?_ (fun _ => by assumption) ?_
       rotate_left
       · intro w hSw
         try dsimp only at hSw
         go_simp
         try with_reducible rfl
       try simp only [Act.put, pA, pB, pC]
       refine wpAnyG_done (by kernel_rfl) ?_ _
       refine NoPanic.normal ?_
       exact REST g209 A212 c212 w213 (H213.out.sub (fun _ h => h) (List.forall_mem_cons.2 ⟨(.head _), (List.forall_mem_cons.2 ⟨(.tail _ (.head _)), (List.forall_mem_cons.2 ⟨(.tail _ (.tail _ (.head _))), (List.forall_mem_cons.2 ⟨(.tail _ (.tail _ (.tail _ (.head _)))), (List.forall_mem_cons.2 ⟨(.tail _ (.tail _ (.tail _ (.tail _ (.head _))))), (List.forall_mem_cons.2 ⟨(.tail _ (.tail _ (.tail _ (.tail _ (.tail _ (.head _)))))), (List.forall_mem_cons.2 ⟨(.tail _ (.tail _ (.tail _ (.tail _ (.tail _ (.tail _ (.head _))))))), (List.forall_mem_cons.2 ⟨(.tail _ (.tail _ (.tail _ (.tail _ (.tail _ (.tail _ (.tail _ (.head _)))))))), (fun _ h => (List.not_mem_nil h).elim)⟩)⟩)⟩)⟩)⟩)⟩)⟩)⟩))
    case rest =>
     intro gjt Ajt cjt w308 h
     have H308 := Lib.hid h
     clear h H208
     go_wp2_with fail
     refine wp_region_noPanic ?_
     refine wp_heldG (fun w' => (w'.cell? ⟨w105.heap.size, 0, none⟩ = some (.int .i64 P1) ∧ w'.cell? ⟨w105.heap.size, 1, none⟩ = some (.int .i64 P2) ∧ w'.cell? ⟨w105.heap.size, 2, none⟩ = some (.slice A105 pn c105)) ∧ (w'.cell? ⟨gjq, 0, none⟩ = some (.int .i64 P1) ∧ w'.cell? ⟨gjq, 1, none⟩ = some (.int .i64 P2) ∧ w'.cell? ⟨gjq, 2, none⟩ = some (.slice Ajq pn cjq)) ∧ (w'.cell? ⟨w207.heap.size, 0, none⟩ = some (.int .i64 S1) ∧ w'.cell? ⟨w207.heap.size, 1, none⟩ = some (.int .i64 S2) ∧ w'.cell? ⟨w207.heap.size, 2, none⟩ = some (.slice A207 sn c207)) ∧ (w'.cell? ⟨gjt, 0, none⟩ = some (.int .i64 S1) ∧ w'.cell? ⟨gjt, 1, none⟩ = some (.int .i64 S2) ∧ w'.cell? ⟨gjt, 2, none⟩ = some (.slice Ajt sn cjt)) ∧ (w'.cell? ⟨gjx, 0, none⟩ = some (.int .i64 Ra) ∧ w'.cell? ⟨gjx, 1, none⟩ = some (.int .i64 Ca) ∧ w'.cell? ⟨gjx, 2, none⟩ = some (.slice Ajx na cjx)) ∧ (w'.cell? ⟨gjy, 0, none⟩ = some (.int .i64 Rb) ∧ w'.cell? ⟨gjy, 1, none⟩ = some (.int .i64 Cb) ∧ w'.cell? ⟨gjy, 2, none⟩ = some (.slice Ajy nb cjy)) ∧ (w'.cell? ⟨w.heap.size, 0, none⟩ = some (.int .i64 Ra) ∧ w'.cell? ⟨w.heap.size, 1, none⟩ = some (.int .i64 Ca) ∧ w'.cell? ⟨w.heap.size, 2, none⟩ = some (.slice A na ca)) ∧ (w'.cell? ⟨w.heap.size + 1, 0, none⟩ = some (.int .i64 Rb) ∧ w'.cell? ⟨w.heap.size + 1, 1, none⟩ = some (.int .i64 Cb) ∧ w'.cell? ⟨w.heap.size + 1, 2, none⟩ = some (.slice B nb cb))) [] (by kernel_rfl) ?hs0 ?rg0
     case hs0 =>
       have h := H308.out.keep (nextN (Mem.start w308) 1)
       exact ⟨h.cells (.tail _ (.tail _ (.tail _ (.head _)))), h.cells (.tail _ (.tail _ (.head _))), h.cells (.tail _ (.head _)), h.cells (.head _), h.cells (.tail _ (.tail _ (.tail _ (.tail _ (.tail _ (.head _)))))), h.cells (.tail _ (.tail _ (.tail _ (.tail _ (.head _))))), h.cells (.tail _ (.tail _ (.tail _ (.tail _ (.tail _ (.tail _ (.tail _ (.head _)))))))), h.cells (.tail _ (.tail _ (.tail _ (.tail _ (.tail _ (.tail _ (.head _)))))))⟩
     case rg0 =>
     intro hHeld
     have HD308 := Lib.hid (show MS _ _ _ _ w308.drew from H308.out.keep (nextN (Mem.start w308) 1))
     generalize w308.drew = wd308 at *
     refine puG 0 ⟨some 60, .move (.tmp 9), 29, _, #[], none⟩ (v := ?_) ?_ (fun _ => by assumption) ?_
     rotate_left
     · intro w hSw
       try dsimp only at hSw
       go_simp
       try with_reducible rfl
     try simp only [Act.put, pA, pB, pC]
     refine puG 1 ⟨some 61, .move (.tmp 11), 29, _, #[], none⟩ (v := ?_) ?_ (fun _ => by assumption) ?_
     rotate_left
     · intro w hSw
       try dsimp only at hSw
       go_simp
       try with_reducible rfl
     try simp only [Act.put, pA, pB, pC]
     refine puG 2 ⟨some 62, .binOp BinOp.eql 29 (.tmp 60) (.tmp 61) 29, 4, _, #[⟨0, .data⟩, ⟨1, .data⟩], none⟩ (v := ?_) ?_ (fun _ => by assumption) ?_
     rotate_left
     · intro w hSw
       try dsimp only at hSw
       go_simp
       try with_reducible rfl
     try simp only [Act.put, pA, pB, pC]
     refine puG 3 ⟨some 63, .move (.tmp 62), 4, _, #[⟨2, .data⟩], none⟩ (v := ?_) ?_ (fun _ => by assumption) ?_
     rotate_left
     · intro w hSw
       try dsimp only at hSw
       go_simp
       try with_reducible rfl
     try simp only [Act.put, pA, pB, pC]
     refine tkG 4 ⟨some 64, .load 27 (.tmp 8), 27, _, #[⟨3, .guard⟩], some (3, true)⟩ (v := ?_) ?_ (by assumption) ?_
     rotate_left
     · intro w hSw
       try dsimp only at hSw
       obtain ⟨⟨kp0, kp1, kp2⟩, ⟨kq0, kq1, kq2⟩, ⟨ks0, ks1, ks2⟩, ⟨kt0, kt1, kt2⟩, ⟨kx0, kx1, kx2⟩, ⟨ky0, ky1, ky2⟩, ⟨ka0, ka1, ka2⟩, ⟨kb0, kb1, kb2⟩⟩ := hSw
       go_simp
       try with_reducible rfl
     try simp only [Act.put, pA, pB, pC]
     refine tkG 5 ⟨some 65, .load 38 (.tmp 10), 38, _, #[⟨3, .guard⟩], some (3, true)⟩ (v := ?_) ?_ (by assumption) ?_
     rotate_left
     · intro w hSw
       try dsimp only at hSw
       obtain ⟨⟨kp0, kp1, kp2⟩, ⟨kq0, kq1, kq2⟩, ⟨ks0, ks1, ks2⟩, ⟨kt0, kt1, kt2⟩, ⟨kx0, kx1, kx2⟩, ⟨ky0, ky1, ky2⟩, ⟨ka0, ka1, ka2⟩, ⟨kb0, kb1, kb2⟩⟩ := hSw
       go_simp
       try with_reducible rfl
     try simp only [Act.put, pA, pB, pC]
     refine onG 6 ⟨some 66, .call { callee := Callee.value (Operand.func 23), args := #[.tmp 64, .tmp 65], argTypes := #[27, 38] }, 4, _, #[⟨4, .data⟩, ⟨5, .data⟩, ⟨3, .chain⟩, ⟨3, .guard⟩], some (3, true)⟩ (fun K hK => ?_)
     go_simp
     refine (lsameR HD308.out (.tail _ (.tail _ (.tail _ (.head _)))) HMU.out.len (.tail _ (.tail _ (.head _))) HMU.out.len (v := true) (sameB_self _ _ _)).mono ?_
     rintro e w309 ⟨rfl, h⟩
     have H309 := Lib.hid h
     clear h
     try dsimp only
     refine hK.out _ _ ?_ (fun hHeld => ?_)
     · intro _
       try dsimp only
       have h := H309.out
       exact ⟨h.cells (.tail _ (.tail _ (.tail _ (.head _)))), h.cells (.tail _ (.tail _ (.head _))), h.cells (.tail _ (.head _)), h.cells (.head _), h.cells (.tail _ (.tail _ (.tail _ (.tail _ (.tail _ (.head _)))))), h.cells (.tail _ (.tail _ (.tail _ (.tail _ (.head _))))), h.cells (.tail _ (.tail _ (.tail _ (.tail _ (.tail _ (.tail _ (.tail _ (.head _)))))))), h.cells (.tail _ (.tail _ (.tail _ (.tail _ (.tail _ (.tail _ (.head _)))))))⟩
     clear hK K
     try simp only [Act.put, pA, pB, pC]
     have hHeld := hHeld (by kernel_rfl)
     refine puG 7 ⟨some 67, .pick (.tmp 63) (.tmp 66) (Operand.const (Value.bool false)), 4, _, #[⟨3, .data⟩, ⟨6, .data⟩], none⟩ (v := ?_) ?_ (fun _ => by assumption) ?_
     rotate_left
     · intro w hSw
       try dsimp only at hSw
       go_simp
       try with_reducible rfl
     try simp only [Act.put, pA, pB, pC]
     refine puG 8 ⟨some 68, .move (.tmp 67), 4, _, #[⟨7, .data⟩, ⟨6, .chain⟩], none⟩ (v := ?_) ?_ (fun _ => by assumption) ?_
     rotate_left
     · intro w hSw
       try dsimp only at hSw
       go_simp
       try with_reducible rfl
     try simp only [Act.put, pA, pB, pC]
     refine puG 9 ⟨some 69, .move (.tmp 13), 29, _, #[⟨8, .guard⟩], some (8, true)⟩ (v := ?_) ?_ (fun _ => by assumption) ?_
     rotate_left
     · intro w hSw
       try dsimp only at hSw
       go_simp
       try with_reducible rfl
     try simp only [Act.put, pA, pB, pC]
     refine puG 10 ⟨some 70, .move (.tmp 15), 29, _, #[⟨8, .guard⟩], some (8, true)⟩ (v := ?_) ?_ (fun _ => by assumption) ?_
     rotate_left
     · intro w hSw
       try dsimp only at hSw
       go_simp
       try with_reducible rfl
     try simp only [Act.put, pA, pB, pC]
     refine puG 11 ⟨some 71, .binOp BinOp.eql 29 (.tmp 69) (.tmp 70) 29, 4, _, #[⟨9, .data⟩, ⟨10, .data⟩, ⟨8, .guard⟩], some (8, true)⟩ (v := ?_) ?_ (fun _ => by assumption) ?_
     rotate_left
     · intro w hSw
       try dsimp only at hSw
       go_simp
       try with_reducible rfl
     try simp only [Act.put, pA, pB, pC]
     refine puG 12 ⟨some 72, .pick (.tmp 68) (.tmp 71) (Operand.const (Value.bool false)), 4, _, #[⟨8, .data⟩, ⟨11, .data⟩], none⟩ (v := ?_) ?_ (fun _ => by assumption) ?_
     rotate_left
     · intro w hSw
       try dsimp only at hSw
       go_simp
       try with_reducible rfl
     try simp only [Act.put, pA, pB, pC]
     refine puG 13 ⟨some 73, .move (.tmp 72), 4, _, #[⟨12, .data⟩, ⟨8, .chain⟩], none⟩ (v := ?_) ?_ (fun _ => by assumption) ?_
     rotate_left
     · intro w hSw
       try dsimp only at hSw
       go_simp
       try with_reducible rfl
     try simp only [Act.put, pA, pB, pC]
     refine tkG 14 ⟨some 74, .load 27 (.tmp 12), 27, _, #[⟨13, .guard⟩], some (13, true)⟩ (v := ?_) ?_ (by assumption) ?_
     rotate_left
     · intro w hSw
       try dsimp only at hSw
       obtain ⟨⟨kp0, kp1, kp2⟩, ⟨kq0, kq1, kq2⟩, ⟨ks0, ks1, ks2⟩, ⟨kt0, kt1, kt2⟩, ⟨kx0, kx1, kx2⟩, ⟨ky0, ky1, ky2⟩, ⟨ka0, ka1, ka2⟩, ⟨kb0, kb1, kb2⟩⟩ := hSw
       go_simp
       try with_reducible rfl
     try simp only [Act.put, pA, pB, pC]
     refine tkG 15 ⟨some 75, .load 38 (.tmp 14), 38, _, #[⟨13, .guard⟩], some (13, true)⟩ (v := ?_) ?_ (by assumption) ?_
     rotate_left
     · intro w hSw
       try dsimp only at hSw
       obtain ⟨⟨kp0, kp1, kp2⟩, ⟨kq0, kq1, kq2⟩, ⟨ks0, ks1, ks2⟩, ⟨kt0, kt1, kt2⟩, ⟨kx0, kx1, kx2⟩, ⟨ky0, ky1, ky2⟩, ⟨ka0, ka1, ka2⟩, ⟨kb0, kb1, kb2⟩⟩ := hSw
       go_simp
       try with_reducible rfl
     try simp only [Act.put, pA, pB, pC]
     refine onG 16 ⟨some 76, .call { callee := Callee.value (Operand.func 23), args := #[.tmp 74, .tmp 75], argTypes := #[27, 38] }, 4, _, #[⟨14, .data⟩, ⟨15, .data⟩, ⟨13, .chain⟩, ⟨13, .guard⟩], some (13, true)⟩ (fun K hK => ?_)
     go_simp
     refine (lsameR H309.out (.tail _ (.head _)) HSO.out.len (.head _) HSO.out.len (v := true) (sameB_self _ _ _)).mono ?_
     rintro e w310 ⟨rfl, h⟩
     have H310 := Lib.hid h
     clear h
     try dsimp only
     refine hK.out _ _ ?_ (fun hHeld => ?_)
     · intro _
       try dsimp only
       have h := H310.out
       exact ⟨h.cells (.tail _ (.tail _ (.tail _ (.head _)))), h.cells (.tail _ (.tail _ (.head _))), h.cells (.tail _ (.head _)), h.cells (.head _), h.cells (.tail _ (.tail _ (.tail _ (.tail _ (.tail _ (.head _)))))), h.cells (.tail _ (.tail _ (.tail _ (.tail _ (.head _))))), h.cells (.tail _ (.tail _ (.tail _ (.tail _ (.tail _ (.tail _ (.tail _ (.head _)))))))), h.cells (.tail _ (.tail _ (.tail _ (.tail _ (.tail _ (.tail _ (.head _)))))))⟩
     clear hK K
     try simp only [Act.put, pA, pB, pC]
     have hHeld := hHeld (by kernel_rfl)
     refine puG 17 ⟨some 77, .pick (.tmp 73) (.tmp 76) (Operand.const (Value.bool false)), 4, _, #[⟨13, .data⟩, ⟨16, .data⟩], none⟩ (v := ?_) ?_ (fun _ => by assumption) ?_
     rotate_left
     · intro w hSw
       try dsimp only at hSw
       go_simp
       try with_reducible rfl
     try simp only [Act.put, pA, pB, pC]
     refine puG 18 ⟨some 78, .move (.tmp 77), 4, _, #[⟨17, .data⟩, ⟨16, .chain⟩], none⟩ (v := ?_) ?_ (fun _ => by assumption) ?_
     rotate_left
     · intro w hSw
       try dsimp only at hSw
       go_simp
       try with_reducible rfl
     try simp only [Act.put, pA, pB, pC]
     refine tkG 19 ⟨some 79, .load 27 (.tmp 6), 27, _, #[⟨18, .guard⟩], some (18, true)⟩ (v := ?_) ?_ (by assumption) ?_
     rotate_left
     · intro w hSw
       try dsimp only at hSw
       obtain ⟨⟨kp0, kp1, kp2⟩, ⟨kq0, kq1, kq2⟩, ⟨ks0, ks1, ks2⟩, ⟨kt0, kt1, kt2⟩, ⟨kx0, kx1, kx2⟩, ⟨ky0, ky1, ky2⟩, ⟨ka0, ka1, ka2⟩, ⟨kb0, kb1, kb2⟩⟩ := hSw
       go_simp
       try with_reducible rfl
     try simp only [Act.put, pA, pB, pC]
     refine tkG 20 ⟨some 80, .load 27 (.tmp 2), 27, _, #[⟨18, .guard⟩], some (18, true)⟩ (v := ?_) ?_ (by assumption) ?_
     rotate_left
     · intro w hSw
       try dsimp only at hSw
       obtain ⟨⟨kp0, kp1, kp2⟩, ⟨kq0, kq1, kq2⟩, ⟨ks0, ks1, ks2⟩, ⟨kt0, kt1, kt2⟩, ⟨kx0, kx1, kx2⟩, ⟨ky0, ky1, ky2⟩, ⟨ka0, ka1, ka2⟩, ⟨kb0, kb1, kb2⟩⟩ := hSw
       go_simp
       try with_reducible rfl
     try simp only [Act.put, pA, pB, pC]
     refine onG 21 ⟨some 81, .call { callee := Callee.value (Operand.func 24), args := #[.tmp 79, .tmp 80], argTypes := #[27, 27] }, 4, _, #[⟨19, .data⟩, ⟨20, .data⟩, ⟨18, .chain⟩, ⟨18, .guard⟩], some (18, true)⟩ (fun K hK => ?_)
     go_simp
     refine (sameR H310.out (.tail _ (.tail _ (.tail _ (.tail _ (.tail _ (.head _)))))) HLNa.out (.tail _ (.tail _ (.tail _ (.tail _ (.tail _ (.tail _ (.tail _ (.head _)))))))) HLNa.out (v := true) (sameB_self _ _ _)).mono ?_
     rintro e w311 ⟨rfl, h⟩
     have H311 := Lib.hid h
     clear h
     try dsimp only
     refine hK.out _ _ ?_ (fun hHeld => ?_)
     · intro _
       try dsimp only
       have h := H311.out
       exact ⟨h.cells (.tail _ (.tail _ (.tail _ (.head _)))), h.cells (.tail _ (.tail _ (.head _))), h.cells (.tail _ (.head _)), h.cells (.head _), h.cells (.tail _ (.tail _ (.tail _ (.tail _ (.tail _ (.head _)))))), h.cells (.tail _ (.tail _ (.tail _ (.tail _ (.head _))))), h.cells (.tail _ (.tail _ (.tail _ (.tail _ (.tail _ (.tail _ (.tail _ (.head _)))))))), h.cells (.tail _ (.tail _ (.tail _ (.tail _ (.tail _ (.tail _ (.head _)))))))⟩
     clear hK K
     try simp only [Act.put, pA, pB, pC]
     have hHeld := hHeld (by kernel_rfl)
     refine puG 22 ⟨some 82, .pick (.tmp 78) (.tmp 81) (Operand.const (Value.bool false)), 4, _, #[⟨18, .data⟩, ⟨21, .data⟩], none⟩ (v := ?_) ?_ (fun _ => by assumption) ?_
     rotate_left
     · intro w hSw
       try dsimp only at hSw
       go_simp
       try with_reducible rfl
     try simp only [Act.put, pA, pB, pC]
     refine puG 23 ⟨some 83, .move (.tmp 82), 4, _, #[⟨22, .data⟩, ⟨21, .chain⟩], none⟩ (v := ?_) ?_ (fun _ => by assumption) ?_
     rotate_left
     · intro w hSw
       try dsimp only at hSw
       go_simp
       try with_reducible rfl
     try simp only [Act.put, pA, pB, pC]
     refine tkG 24 ⟨some 84, .load 27 (.tmp 7), 27, _, #[⟨23, .guard⟩], some (23, true)⟩ (v := ?_) ?_ (by assumption) ?_
     rotate_left
     · intro w hSw
       try dsimp only at hSw
       obtain ⟨⟨kp0, kp1, kp2⟩, ⟨kq0, kq1, kq2⟩, ⟨ks0, ks1, ks2⟩, ⟨kt0, kt1, kt2⟩, ⟨kx0, kx1, kx2⟩, ⟨ky0, ky1, ky2⟩, ⟨ka0, ka1, ka2⟩, ⟨kb0, kb1, kb2⟩⟩ := hSw
       go_simp
       try with_reducible rfl
     try simp only [Act.put, pA, pB, pC]
     refine tkG 25 ⟨some 85, .load 27 (.tmp 3), 27, _, #[⟨23, .guard⟩], some (23, true)⟩ (v := ?_) ?_ (by assumption) ?_
     rotate_left
     · intro w hSw
       try dsimp only at hSw
       obtain ⟨⟨kp0, kp1, kp2⟩, ⟨kq0, kq1, kq2⟩, ⟨ks0, ks1, ks2⟩, ⟨kt0, kt1, kt2⟩, ⟨kx0, kx1, kx2⟩, ⟨ky0, ky1, ky2⟩, ⟨ka0, ka1, ka2⟩, ⟨kb0, kb1, kb2⟩⟩ := hSw
       go_simp
       try with_reducible rfl
     try simp only [Act.put, pA, pB, pC]
     refine onG 26 ⟨some 86, .call { callee := Callee.value (Operand.func 24), args := #[.tmp 84, .tmp 85], argTypes := #[27, 27] }, 4, _, #[⟨24, .data⟩, ⟨25, .data⟩, ⟨23, .chain⟩, ⟨23, .guard⟩], some (23, true)⟩ (fun K hK => ?_)
     go_simp
     refine (sameR H311.out (.tail _ (.tail _ (.tail _ (.tail _ (.head _))))) HLNb.out (.tail _ (.tail _ (.tail _ (.tail _ (.tail _ (.tail _ (.head _))))))) HLNb.out (v := true) (sameB_self _ _ _)).mono ?_
     rintro e w312 ⟨rfl, h⟩
     have H312 := Lib.hid h
     clear h
     try dsimp only
     refine hK.out _ _ ?_ (fun hHeld => ?_)
     · intro _
       try dsimp only
       have h := H312.out
       exact ⟨h.cells (.tail _ (.tail _ (.tail _ (.head _)))), h.cells (.tail _ (.tail _ (.head _))), h.cells (.tail _ (.head _)), h.cells (.head _), h.cells (.tail _ (.tail _ (.tail _ (.tail _ (.tail _ (.head _)))))), h.cells (.tail _ (.tail _ (.tail _ (.tail _ (.head _))))), h.cells (.tail _ (.tail _ (.tail _ (.tail _ (.tail _ (.tail _ (.tail _ (.head _)))))))), h.cells (.tail _ (.tail _ (.tail _ (.tail _ (.tail _ (.tail _ (.head _)))))))⟩
     clear hK K
     try simp only [Act.put, pA, pB, pC]
     have hHeld := hHeld (by kernel_rfl)
     refine puG 27 ⟨some 87, .pick (.tmp 83) (.tmp 86) (Operand.const (Value.bool false)), 4, _, #[⟨23, .data⟩, ⟨26, .data⟩], none⟩ (v := ?_) ?_ (fun _ => by assumption) ?_
     rotate_left
     · intro w hSw
       try dsimp only at hSw
       go_simp
       try with_reducible rfl
     try simp only [Act.put, pA, pB, pC]
     refine puG 28 ⟨some 88, .move (.tmp 87), 4, _, #[⟨27, .data⟩, ⟨26, .chain⟩], none⟩ (v := ?_) ?_ (fun _ => by assumption) ?_
     rotate_left
     · intro w hSw
       try dsimp only at hSw
       go_simp
       try with_reducible rfl
     try simp only [Act.put, pA, pB, pC]
     refine tkG 29 ⟨some 89, .load 27 (.tmp 2), 27, _, #[⟨28, .guard⟩], some (28, true)⟩ (v := ?_) ?_ (by assumption) ?_
     rotate_left
     · intro w hSw
       try dsimp only at hSw
       obtain ⟨⟨kp0, kp1, kp2⟩, ⟨kq0, kq1, kq2⟩, ⟨ks0, ks1, ks2⟩, ⟨kt0, kt1, kt2⟩, ⟨kx0, kx1, kx2⟩, ⟨ky0, ky1, ky2⟩, ⟨ka0, ka1, ka2⟩, ⟨kb0, kb1, kb2⟩⟩ := hSw
       go_simp
       try with_reducible rfl
     try simp only [Act.put, pA, pB, pC]
     refine tkG 30 ⟨some 90, .load 27 (.tmp 3), 27, _, #[⟨28, .guard⟩], some (28, true)⟩ (v := ?_) ?_ (by assumption) ?_
     rotate_left
     · intro w hSw
       try dsimp only at hSw
       obtain ⟨⟨kp0, kp1, kp2⟩, ⟨kq0, kq1, kq2⟩, ⟨ks0, ks1, ks2⟩, ⟨kt0, kt1, kt2⟩, ⟨kx0, kx1, kx2⟩, ⟨ky0, ky1, ky2⟩, ⟨ka0, ka1, ka2⟩, ⟨kb0, kb1, kb2⟩⟩ := hSw
       go_simp
       try with_reducible rfl
     try simp only [Act.put, pA, pB, pC]
     refine tkG 32 ⟨some 92, .load 27 (.tmp 2), 27, _, #[⟨28, .guard⟩], some (28, true)⟩ (v := ?_) ?_ (by assumption) ?_
     rotate_left
     · intro w hSw
       try dsimp only at hSw
       obtain ⟨⟨kp0, kp1, kp2⟩, ⟨kq0, kq1, kq2⟩, ⟨ks0, ks1, ks2⟩, ⟨kt0, kt1, kt2⟩, ⟨kx0, kx1, kx2⟩, ⟨ky0, ky1, ky2⟩, ⟨ka0, ka1, ka2⟩, ⟨kb0, kb1, kb2⟩⟩ := hSw
       go_simp
       try with_reducible rfl
     try simp only [Act.put, pA, pB, pC]
     refine tkG 34 ⟨some 94, .load 27 (.tmp 3), 27, _, #[⟨28, .guard⟩], some (28, true)⟩ (v := ?_) ?_ (by assumption) ?_
     rotate_left
     · intro w hSw
       try dsimp only at hSw
       obtain ⟨⟨kp0, kp1, kp2⟩, ⟨kq0, kq1, kq2⟩, ⟨ks0, ks1, ks2⟩, ⟨kt0, kt1, kt2⟩, ⟨kx0, kx1, kx2⟩, ⟨ky0, ky1, ky2⟩, ⟨ka0, ka1, ka2⟩, ⟨kb0, kb1, kb2⟩⟩ := hSw
       go_simp
       try with_reducible rfl
     try simp only [Act.put, pA, pB, pC]
     refine onG 31 ⟨some 91, .call { callee := Callee.value (Operand.func 24), args := #[.tmp 89, .tmp 90], argTypes := #[27, 27] }, 4, _, #[⟨29, .data⟩, ⟨30, .data⟩, ⟨28, .chain⟩, ⟨28, .guard⟩], some (28, true)⟩ (fun K hK => ?_)
     go_simp
     refine (sameR H312.out (.tail _ (.tail _ (.tail _ (.tail _ (.tail _ (.tail _ (.tail _ (.head _)))))))) HLNa.out (.tail _ (.tail _ (.tail _ (.tail _ (.tail _ (.tail _ (.head _))))))) HLNb.out (v := sameB Ra Ca Rb Cb la lb) rfl).mono ?_
     rintro e w313 ⟨rfl, h⟩
     have H313 := Lib.hid h
     clear h
     try dsimp only
     refine hK.out _ _ ?_ (fun hHeld => ?_)
     · intro _
       try dsimp only
       have h := H313.out
       exact ⟨h.cells (.tail _ (.tail _ (.tail _ (.head _)))), h.cells (.tail _ (.tail _ (.head _))), h.cells (.tail _ (.head _)), h.cells (.head _), h.cells (.tail _ (.tail _ (.tail _ (.tail _ (.tail _ (.head _)))))), h.cells (.tail _ (.tail _ (.tail _ (.tail _ (.head _))))), h.cells (.tail _ (.tail _ (.tail _ (.tail _ (.tail _ (.tail _ (.tail _ (.head _)))))))), h.cells (.tail _ (.tail _ (.tail _ (.tail _ (.tail _ (.tail _ (.head _)))))))⟩
     clear hK K
     try simp only [Act.put, pA, pB, pC]
     have hHeld := hHeld (by kernel_rfl)
     refine onG 33 ⟨some 93, .call { callee := Callee.value (Operand.func 20), args := #[.tmp 92], argTypes := #[27] }, 38, _, #[⟨32, .data⟩, ⟨31, .chain⟩, ⟨28, .guard⟩], some (28, true)⟩ (fun K hK => ?_)
     go_simp
     refine (plainR H313.out ).mono ?_
     rintro e w314 ⟨rfl, h⟩
     have H314 := Lib.hid h
     clear h
     try dsimp only
     refine hK.out _ _ ?_ (fun hHeld => ?_)
     · intro _
       try dsimp only
       have h := H314.out
       exact ⟨h.cells (.tail _ (.tail _ (.tail _ (.head _)))), h.cells (.tail _ (.tail _ (.head _))), h.cells (.tail _ (.head _)), h.cells (.head _), h.cells (.tail _ (.tail _ (.tail _ (.tail _ (.tail _ (.head _)))))), h.cells (.tail _ (.tail _ (.tail _ (.tail _ (.head _))))), h.cells (.tail _ (.tail _ (.tail _ (.tail _ (.tail _ (.tail _ (.tail _ (.head _)))))))), h.cells (.tail _ (.tail _ (.tail _ (.tail _ (.tail _ (.tail _ (.head _)))))))⟩
     clear hK K
     try simp only [Act.put, pA, pB, pC]
     have hHeld := hHeld (by kernel_rfl)
     refine onG 35 ⟨some 95, .call { callee := Callee.value (Operand.func 20), args := #[.tmp 94], argTypes := #[27] }, 38, _, #[⟨34, .data⟩, ⟨33, .chain⟩, ⟨28, .guard⟩], some (28, true)⟩ (fun K hK => ?_)
     go_simp
     refine (plainR H314.out ).mono ?_
     rintro e w315 ⟨rfl, h⟩
     have H315 := Lib.hid h
     clear h
     try dsimp only
     refine hK.out _ _ ?_ (fun hHeld => ?_)
     · intro _
       try dsimp only
       have h := H315.out
       exact ⟨h.cells (.tail _ (.tail _ (.tail _ (.head _)))), h.cells (.tail _ (.tail _ (.head _))), h.cells (.tail _ (.head _)), h.cells (.head _), h.cells (.tail _ (.tail _ (.tail _ (.tail _ (.tail _ (.head _)))))), h.cells (.tail _ (.tail _ (.tail _ (.tail _ (.head _))))), h.cells (.tail _ (.tail _ (.tail _ (.tail _ (.tail _ (.tail _ (.tail _ (.head _)))))))), h.cells (.tail _ (.tail _ (.tail _ (.tail _ (.tail _ (.tail _ (.head _)))))))⟩
     clear hK K
     try simp only [Act.put, pA, pB, pC]
     have hHeld := hHeld (by kernel_rfl)
     refine onG 36 ⟨some 96, .call { callee := Callee.value (Operand.func 25), args := #[.tmp 93, .tmp 95], argTypes := #[38, 38] }, 4, _, #[⟨33, .data⟩, ⟨35, .data⟩, ⟨35, .chain⟩, ⟨28, .guard⟩], some (28, true)⟩ (fun K hK => ?_)
     go_simp
     refine (rsameR H315.out (.tail _ (.tail _ (.tail _ (.tail _ (.tail _ (.tail _ (.tail _ (.head _)))))))) HLNa.out (.tail _ (.tail _ (.tail _ (.tail _ (.tail _ (.tail _ (.head _))))))) HLNb.out (v := sameB Ra Ca Rb Cb la lb) rfl).mono ?_
     rintro e w316 ⟨rfl, h⟩
     have H316 := Lib.hid h
     clear h
     try dsimp only
     refine hK.out _ _ ?_ (fun hHeld => ?_)
     · intro _
       try dsimp only
       have h := H316.out
       exact ⟨h.cells (.tail _ (.tail _ (.tail _ (.head _)))), h.cells (.tail _ (.tail _ (.head _))), h.cells (.tail _ (.head _)), h.cells (.head _), h.cells (.tail _ (.tail _ (.tail _ (.tail _ (.tail _ (.head _)))))), h.cells (.tail _ (.tail _ (.tail _ (.tail _ (.head _))))), h.cells (.tail _ (.tail _ (.tail _ (.tail _ (.tail _ (.tail _ (.tail _ (.head _)))))))), h.cells (.tail _ (.tail _ (.tail _ (.tail _ (.tail _ (.tail _ (.head _)))))))⟩
     clear hK K
     try simp only [Act.put, pA, pB, pC]
     have hHeld := hHeld (by kernel_rfl)
     refine puG 37 ⟨some 97, .binOp BinOp.eql 4 (.tmp 91) (.tmp 96) 4, 4, _, #[⟨31, .data⟩, ⟨36, .data⟩, ⟨28, .guard⟩], some (28, true)⟩ (v := ?_) ?_ (fun _ => by assumption) ?_
     rotate_left
     · intro w hSw
       try dsimp only at hSw
       go_simp
       try with_reducible rfl
     try simp only [Act.put, pA, pB, pC]
     refine puG 38 ⟨some 98, .pick (.tmp 88) (.tmp 97) (Operand.const (Value.bool false)), 4, _, #[⟨28, .data⟩, ⟨37, .data⟩], none⟩ (v := ?_) ?_ (fun _ => by assumption) ?_
     rotate_left
     · intro w hSw
       try dsimp only at hSw
       go_simp
       try with_reducible rfl
     try simp only [Act.put, pA, pB, pC]
     refine puG 39 ⟨some 99, .move (.tmp 98), 4, _, #[⟨38, .data⟩, ⟨36, .chain⟩], none⟩ (v := ?_) ?_ (fun _ => by assumption) ?_
     rotate_left
     · intro w hSw
       try dsimp only at hSw
       go_simp
       try with_reducible rfl
     try simp only [Act.put, pA, pB, pC]
     refine onG 40 ⟨some 100, .call { callee := Callee.value (Operand.func 11), args := #[], argTypes := #[] }, 4, _, #[⟨39, .chain⟩, ⟨39, .guard⟩], some (39, true)⟩ (fun K hK => ?_)
     go_simp
     refine (works_any _).mono ?_
     rintro e w317 ⟨rfl, hb⟩
     have H317 := Lib.hid (MS.keep H316.out hb)
     clear hb
     try dsimp only
     refine hK.out _ _ ?_ (fun hHeld => ?_)
     · intro _
       try dsimp only
       have h := H317.out
       exact ⟨h.cells (.tail _ (.tail _ (.tail _ (.head _)))), h.cells (.tail _ (.tail _ (.head _))), h.cells (.tail _ (.head _)), h.cells (.head _), h.cells (.tail _ (.tail _ (.tail _ (.tail _ (.tail _ (.head _)))))), h.cells (.tail _ (.tail _ (.tail _ (.tail _ (.head _))))), h.cells (.tail _ (.tail _ (.tail _ (.tail _ (.tail _ (.tail _ (.tail _ (.head _)))))))), h.cells (.tail _ (.tail _ (.tail _ (.tail _ (.tail _ (.tail _ (.head _)))))))⟩
     clear hK K
     try simp only [Act.put, pA, pB, pC]
     have hHeld := hHeld (by kernel_rfl)
     refine puG 41 ⟨some 101, .pick (.tmp 99) (.tmp 100) (Operand.const (Value.bool false)), 4, _, #[⟨39, .data⟩, ⟨40, .data⟩], none⟩ (v := ?_) ?_ (fun _ => by assumption) ?_
     rotate_left
     · intro w hSw
       try dsimp only at hSw
       go_simp
       try with_reducible rfl
     try simp only [Act.put, pA, pB, pC]
     refine puG 42 ⟨some 4, .assign (.tmp 101), 4, _, #[⟨41, .data⟩, ⟨40, .chain⟩, ⟨0, .phase⟩, ⟨1, .phase⟩, ⟨2, .phase⟩, ⟨3, .phase⟩, ⟨4, .phase⟩, ⟨5, .phase⟩, ⟨6, .phase⟩, ⟨7, .phase⟩, ⟨8, .phase⟩, ⟨9, .phase⟩, ⟨10, .phase⟩, ⟨11, .phase⟩, ⟨12, .phase⟩, ⟨13, .phase⟩, ⟨14, .phase⟩, ⟨15, .phase⟩, ⟨16, .phase⟩, ⟨17, .phase⟩, ⟨18, .phase⟩, ⟨19, .phase⟩, ⟨20, .phase⟩, ⟨21, .phase⟩, ⟨22, .phase⟩, ⟨23, .phase⟩, ⟨24, .phase⟩, ⟨25, .phase⟩, ⟨26, .phase⟩, ⟨27, .phase⟩, ⟨28, .phase⟩, ⟨29, .phase⟩, ⟨30, .phase⟩, ⟨31, .phase⟩, ⟨32, .phase⟩, ⟨33, .phase⟩, ⟨34, .phase⟩, ⟨35, .phase⟩, ⟨36, .phase⟩, ⟨37, .phase⟩, ⟨38, .phase⟩, ⟨39, .phase⟩, ⟨40, .phase⟩, ⟨41, .phase⟩], none⟩ (v := ?_) ?_ (fun _ => by assumption) ?_
     rotate_left
     · intro w hSw
       try dsimp only at hSw
       go_simp
       try with_reducible rfl
     try simp only [Act.put, pA, pB, pC]
     refine wpAnyG_done (by kernel_rfl) ?_ _
     refine NoPanic.normal ?_
     go_wp2_with fail
     go_ret
     exact ⟨rfl, H317.out.below⟩
end Go.Proofs.Ythdapoipfnnaeaa.MxW
/- The law MatrixTwo: its walk. -/
namespace Go.Proofs.Ythdapoipfnnaeaa.MxW
open Go.RowKit Go.Shelf Mem Gf FdW Mx Rng
open PlW (In)
set_option linter.unusedVariables false
set_option linter.unusedSectionVars false
attribute [local go_sem] Oper.semAt_some wide_fn
set_option maxRecDepth 100000 in
set_option maxHeartbeats 4000000 in
theorem two_out0 (w : World)  (Ra Ca : Int) (A : Option Addr) (la : List UInt8) (na ca : Nat) (hla : la.length = na) (hA : Bytes w w.heap.size A la) (hca : la.length ≤ ca) (Rb Cb : Int) (B : Option Addr) (lb : List UInt8) (nb cb : Nat) (hlb : lb.length = nb) (hB : Bytes w w.heap.size B lb) (hcb : lb.length ≤ cb) (hsa : smallB 12 Ra Ca na = false) :
    Calls Try.prog 4 #[.agg #[.int .i64 Ra, .int .i64 Ca, .slice A na ca], .agg #[.int .i64 Rb, .int .i64 Cb, .slice B nb cb]] w fun e w' => e = .returned (.bool true) ∧ Below w.heap.size w w' := by
  have H0 := Lib.hid (((MS.start w).arg hA hca).arg hB hcb)
  have HLNa := Lib.hid hla
  have HLNb := Lib.hid hlb
  have HSa := Lib.hid hsa
  clear hA hca hla hB hcb hlb hsa
  go_enter Try.func4, Try.ntmps4
  have L1 := Lib.hid (show MS _ _ _ ((w.heap.size, #[.int .i64 Ra, .int .i64 Ca, .slice A na ca]) :: _) (w.alloc (.cells #[.int .i64 Ra, .int .i64 Ca, .slice A na ca] 27)) from by have h := H0.out.put #[.int .i64 Ra, .int .i64 Ca, .slice A na ca]; (try simp only [World.size_alloc] at h); exact h)
  have L2 := Lib.hid (show MS _ _ _ ((w.heap.size + 1, #[.int .i64 Rb, .int .i64 Cb, .slice B nb cb]) :: _) ((w.alloc (.cells #[.int .i64 Ra, .int .i64 Ca, .slice A na ca] 27)).alloc (.cells #[.int .i64 Rb, .int .i64 Cb, .slice B nb cb] 27)) from by have h := L1.out.put #[.int .i64 Rb, .int .i64 Cb, .slice B nb cb]; (try simp only [World.size_alloc] at h); exact h)
  obtain ⟨a3, b3, d3⟩ := L2.out.cells (.tail _ (.head _))
  go_wp2_with fail
  clear a3 b3 d3
  have H1 := L2
  clear L1 L2
  generalize ((w.alloc (.cells #[.int .i64 Ra, .int .i64 Ca, .slice A na ca] 27)).alloc (.cells #[.int .i64 Rb, .int .i64 Cb, .slice B nb cb] 27)) = w1 at *
  refine (smallR H1.out 12 (by decide) (v := false) HSa.out).mono ?_
  rintro e w2 ⟨rfl, h⟩
  have H2 := Lib.hid h
  clear h
  go_wp2_with fail
  refine (works_any _).mono ?_
  rintro e w3 ⟨rfl, hb⟩
  have H3 := Lib.hid (MS.keep H2.out hb)
  clear hb
  go_wp2_with fail
  go_ret
  exact ⟨rfl, H3.out.below⟩
set_option maxRecDepth 100000 in
set_option maxHeartbeats 4000000 in
theorem two_out1 (w : World)  (Ra Ca : Int) (A : Option Addr) (la : List UInt8) (na ca : Nat) (hla : la.length = na) (hA : Bytes w w.heap.size A la) (hca : la.length ≤ ca) (Rb Cb : Int) (B : Option Addr) (lb : List UInt8) (nb cb : Nat) (hlb : lb.length = nb) (hB : Bytes w w.heap.size B lb) (hcb : lb.length ≤ cb) (hsa : smallB 12 Ra Ca na = true) (hsb : smallB 12 Rb Cb nb = false) :
    Calls Try.prog 4 #[.agg #[.int .i64 Ra, .int .i64 Ca, .slice A na ca], .agg #[.int .i64 Rb, .int .i64 Cb, .slice B nb cb]] w fun e w' => e = .returned (.bool true) ∧ Below w.heap.size w w' := by
  have H0 := Lib.hid (((MS.start w).arg hA hca).arg hB hcb)
  have HLNa := Lib.hid hla
  have HLNb := Lib.hid hlb
  have HSa := Lib.hid hsa
  have HSb := Lib.hid hsb
  clear hA hca hla hB hcb hlb hsa hsb
  go_enter Try.func4, Try.ntmps4
  have L1 := Lib.hid (show MS _ _ _ ((w.heap.size, #[.int .i64 Ra, .int .i64 Ca, .slice A na ca]) :: _) (w.alloc (.cells #[.int .i64 Ra, .int .i64 Ca, .slice A na ca] 27)) from by have h := H0.out.put #[.int .i64 Ra, .int .i64 Ca, .slice A na ca]; (try simp only [World.size_alloc] at h); exact h)
  have L2 := Lib.hid (show MS _ _ _ ((w.heap.size + 1, #[.int .i64 Rb, .int .i64 Cb, .slice B nb cb]) :: _) ((w.alloc (.cells #[.int .i64 Ra, .int .i64 Ca, .slice A na ca] 27)).alloc (.cells #[.int .i64 Rb, .int .i64 Cb, .slice B nb cb] 27)) from by have h := L1.out.put #[.int .i64 Rb, .int .i64 Cb, .slice B nb cb]; (try simp only [World.size_alloc] at h); exact h)
  obtain ⟨a3, b3, d3⟩ := L2.out.cells (.tail _ (.head _))
  go_wp2_with fail
  clear a3 b3 d3
  have H1 := L2
  clear L1 L2
  generalize ((w.alloc (.cells #[.int .i64 Ra, .int .i64 Ca, .slice A na ca] 27)).alloc (.cells #[.int .i64 Rb, .int .i64 Cb, .slice B nb cb] 27)) = w1 at *
  refine (smallR H1.out 12 (by decide) (v := true) HSa.out).mono ?_
  rintro e w2 ⟨rfl, h⟩
  have H2 := Lib.hid h
  clear h
  obtain ⟨a4, b4, d4⟩ := H2.out.cells (.head _)
  go_wp2_with fail
  clear a4 b4 d4
  refine (smallR H2.out 12 (by decide) (v := false) HSb.out).mono ?_
  rintro e w3 ⟨rfl, h⟩
  have H3 := Lib.hid h
  clear h
  go_wp2_with fail
  refine (works_any _).mono ?_
  rintro e w4 ⟨rfl, hb⟩
  have H4 := Lib.hid (MS.keep H3.out hb)
  clear hb
  go_wp2_with fail
  go_ret
  exact ⟨rfl, H4.out.below⟩
theorem two_law (w : World) (Ra Ca : Int) (A : Option Addr) (la : List UInt8) (ca : Nat) (ga : Open.MtOk w Ra Ca A la ca) (Rb Cb : Int) (B : Option Addr) (lb : List UInt8) (cb : Nat) (gb : Open.MtOk w Rb Cb B lb cb) :
    Calls Try.prog 4 #[.agg #[.int .i64 Ra, .int .i64 Ca, .slice A la.length ca], .agg #[.int .i64 Rb, .int .i64 Cb, .slice B lb.length cb]] w fun e w' => e = .returned (.bool true) ∧ Below w.heap.size w w' := by
  cases hsa : smallB 12 Ra Ca la.length with
  | false => exact two_out0 w Ra Ca A la _ ca rfl ga.row ga.le Rb Cb B lb _ cb rfl gb.row gb.le hsa
  | true =>
  cases hsb : smallB 12 Rb Cb lb.length with
  | false => exact two_out1 w Ra Ca A la _ ca rfl ga.row ga.le Rb Cb B lb _ cb rfl gb.row gb.le hsa hsb
  | true =>
  have k1 := of_decide_eq_true hsa
  have k2 := of_decide_eq_true hsb
  obtain ⟨P1, P2, pn, lp, pe, hmu⟩ := mulE (R1 := Ra) (C1 := Ca) (R2 := Rb) (C2 := Cb) (a := la) (b := lb) rfl rfl (by omega)
  obtain ⟨S1, S2, sn, ls, se, hso⟩ := solE (R1 := Ra) (C1 := Ca) (R2 := Rb) (C2 := Cb) (a := la) (b := lb) rfl rfl (by omega)
  exact two_in w Ra Ca A la _ ca rfl ga.row ga.le Rb Cb B lb _ cb rfl gb.row gb.le hsa hsb P1 P2 pn lp pe hmu S1 S2 sn ls se hso
end Go.Proofs.Ythdapoipfnnaeaa.MxW
/- The law MatrixTwo of chapter 05 holds for every input. It has no conditions. -/
namespace Go.Proofs.Ythdapoipfnnaeaa.lawMatrixTwo
open Go.ChangeShapes Go.WideShapes Go.ChangeAt Go.RowKit
open Go.ChangeMaps (open_string shut_string)

theorem own : ownKnob Try.prog.godebug = none := by kernel_rfl
theorem laidOut : laidOutB Try.prog = true := by kernel_rfl

set_option maxRecDepth 100000 in
theorem lifted (os : Os) (started : os.Started) (H : Type) (enc : TypeId × Value → H) :
    ReturnsInHanded {} Try.checked os 4 .any (Rows.matrixTwoSpec.pre6 enc Try.prog Try.f4 Rows.matrixTwoRow.domain false) (Rows.matrixTwoSpec.post enc Try.prog Try.f4 false true false false) := by
  refine returnsInHanded_of_change (C := Try.checked) own started (by kernel_rfl) Try.func4
    (ChangeSpec.witness6 (enc := enc) (C := Try.checked) false ⟨#[], #[.agg #[.int .i64 0, .int .i64 0, .slice none 0 0], .agg #[.int .i64 0, .int .i64 0, .slice none 0 0]], []⟩ 8 (by kernel_rfl) (by kernel_rfl) (by kernel_rfl) (by kernel_rfl)) ?_
  intro W base args ds gs before hval0 hW hcnd _
  have hval : ∀ (j : Nat) t v, Try.f4.params[j]? = some t → args[j]? = some v → Value.okWide Try.prog W .any base t v := hval0
  have hW' := hW
  obtain ⟨p, q, hA0, hV, rfl, hfz, hnd⟩ := hW
  have hA : DataW.TrodAll enc Try.prog W 0 (fun _ => true) true Try.f4.params.toList args.toList ds p := hA0
  rw [Try.params4] at hA hval
  obtain ⟨v0, vs0, d0, ds0, p0, q0, hargs, rfl, rfl, h0, r0⟩ := trodAll_cons hA
  obtain ⟨v1, vs1, d1, ds1, p1, q1, rfl, rfl, rfl, h1, r1⟩ := trodAll_cons r0
  obtain ⟨rfl, rfl, rfl⟩ := trodAll_nil r1
  obtain rfl : args = #[v0, v1] := by cases args; simp_all
  obtain ⟨rfl, rfl⟩ := trodVars_none hV
  have k0 := h0
  have lt0 : ∀ x ∈ p0, x.block < W.heap.size := by obtain ⟨m, hm⟩ := k0; exact DataW.trod_lt m _ _ _ hm
  have k1 := h1
  have lt1 : ∀ x ∈ p1, x.block < W.heap.size := by obtain ⟨m, hm⟩ := k1; exact DataW.trod_lt m _ _ _ hm
  obtain ⟨R0, C0, A0, l0, c0, rfl, hg0⟩ := Open.open_matrix Try.underlying27 (by kernel_rfl) (by kernel_rfl) Try.underlying3 Try.underlying3 Try.underlying22 Try.underlying5 (by kernel_rfl) (hval 0 27 v0 rfl rfl) h0
  obtain ⟨R1, C1, A1, l1, c1, rfl, hg1⟩ := Open.open_matrix Try.underlying27 (by kernel_rfl) (by kernel_rfl) Try.underlying3 Try.underlying3 Try.underlying22 Try.underlying5 (by kernel_rfl) (hval 1 27 v1 rfl rfl) h1
  clear hA0 hval0
  refine (MxW.two_law W R0 C0 A0 l0 c0 hg0 R1 C1 A1 l1 c1 hg1).mono fun e W' ⟨he, bel⟩ => ?_
  subst he
  exact ⟨_, rfl, _, _, _, [], _, [], hW', trodAll_mk1 (shut_bool Try.underlying4 _), (trodAll_cons_mk (Below.trod laidOut (by kernel_rfl) (of_decide_eq_true (by kernel_rfl)) k0 bel lt0) (trodAll_cons_mk (Below.trod laidOut (by kernel_rfl) (of_decide_eq_true (by kernel_rfl)) k1 bel lt1) trodAll_mk0)), rfl, bel.frame _, fun h => by cases h⟩

theorem over : Rows.matrixTwoRow.holds Try.pinned (OpenSpec.ofChange Rows.matrixTwoSpec) :=
  OpenClaim.holds_of_wide 4 Try.f4 rfl rfl rfl rfl rfl rfl rfl ⟨rfl, rfl, rfl, rfl, rfl⟩ rfl rfl rfl rfl rfl (by kernel_rfl) Try.func4 (by kernel_rfl)
    (of_decide_eq_true (by kernel_rfl)) (by unfold Func.isWrapper; rw [if_neg (by decide +kernel)]; exact ⟨rfl, rfl⟩)
    (fun os started H enc _ => lifted os started H enc)

theorem proved : Rows.MatrixTwoSaid := over
#print axioms proved
end Go.Proofs.Ythdapoipfnnaeaa.lawMatrixTwo
