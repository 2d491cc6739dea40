/- The law MatrixPacks: its walk. -/
import Derived.Test.YthdapoipfnnaeaaTwo
import Derived.Test.YthdapoipfnnaeaaOpenMx
import Derived.Test.YthdapoipfnnaeaaMxPl
import Derived.Test.YthdapoipfnnaeaaMxLawProducts
namespace Go.Proofs.Ythdapoipfnnaeaa.MxW
open Go.RowKit Go.Shelf Mem Gf FdW Mx Rng
open PlW (In)
set_option linter.unusedVariables false
set_option linter.unusedSectionVars false
attribute [local go_sem] Oper.semAt_some wide_fn
theorem MS.less {w0 w : World} {p : Option Nat} {R R' : List Rw} {X X' : List (Nat × Array Value)} (h : MS w0 p R X w) (hr : ∀ r ∈ R', r ∈ R) (hx : ∀ x ∈ X', x ∈ X) : MS w0 p R' X' w := ⟨h.below, h.fld, fun r k => h.row r (hr r k), fun x k => h.box x (hx x k)⟩
set_option maxRecDepth 100000 in
set_option maxHeartbeats 4000000 in
theorem packs_out0 (w : World)  (B : Option Addr) (lb : List UInt8) (nb cb : Nat) (hlb : lb.length = nb) (hB : Bytes w w.heap.size B lb) (hcb : lb.length ≤ cb) (hmb : cb ≤ maxLen) (Rm Cm : Int) (M : Option Addr) (lm : List UInt8) (nm cm : Nat) (hlm : lm.length = nm) (hM : Bytes w w.heap.size M lm) (hcm : lm.length ≤ cm) (h1 : (55 : Int) < (nb : Int)) :
    Calls Try.prog 9 #[.slice B nb cb, .agg #[.int .i64 Rm, .int .i64 Cm, .slice M nm cm]] w fun e w' => e = .returned (.bool true) ∧ Below w.heap.size w w' := by
  have H0 := Lib.hid ((MS.start w).arg hM hcm)
  have HLNm := Lib.hid hlm
  skip
  clear hM hcm hlm
  go_enter Try.func9, Try.ntmps9
  have L1 := Lib.hid (show MS _ _ _ ((w.heap.size, #[.int .i64 Rm, .int .i64 Cm, .slice M nm cm]) :: _) (w.alloc (.cells #[.int .i64 Rm, .int .i64 Cm, .slice M nm cm] 27)) from by have h := H0.out.put #[.int .i64 Rm, .int .i64 Cm, .slice M nm cm]; (try simp only [World.size_alloc] at h); exact h)
  go_wp2_with fail
  have H1 := L1
  clear L1
  generalize (w.alloc (.cells #[.int .i64 Rm, .int .i64 Cm, .slice M nm cm] 27)) = w1 at *
  refine (works_any _).mono ?_
  rintro e w2 ⟨rfl, hb⟩
  have H2 := Lib.hid (MS.keep H1.out hb)
  clear hb
  go_wp2_with fail
  go_ret
  exact ⟨rfl, H2.out.below⟩
set_option maxRecDepth 100000 in
set_option maxHeartbeats 4000000 in
theorem packs_out1 (w : World)  (B : Option Addr) (lb : List UInt8) (nb cb : Nat) (hlb : lb.length = nb) (hB : Bytes w w.heap.size B lb) (hcb : lb.length ≤ cb) (hmb : cb ≤ maxLen) (Rm Cm : Int) (M : Option Addr) (lm : List UInt8) (nm cm : Nat) (hlm : lm.length = nm) (hM : Bytes w w.heap.size M lm) (hcm : lm.length ≤ cm) (h1 : ¬ (55 : Int) < (nb : Int)) (hs : smallB 8 Rm Cm nm = false) :
    Calls Try.prog 9 #[.slice B nb cb, .agg #[.int .i64 Rm, .int .i64 Cm, .slice M nm cm]] w fun e w' => e = .returned (.bool true) ∧ Below w.heap.size w w' := by
  have H0 := Lib.hid ((MS.start w).arg hM hcm)
  have HLNm := Lib.hid hlm
  have HSm := Lib.hid hs
  clear hM hcm hlm hs
  go_enter Try.func9, Try.ntmps9
  have L1 := Lib.hid (show MS _ _ _ ((w.heap.size, #[.int .i64 Rm, .int .i64 Cm, .slice M nm cm]) :: _) (w.alloc (.cells #[.int .i64 Rm, .int .i64 Cm, .slice M nm cm] 27)) from by have h := H0.out.put #[.int .i64 Rm, .int .i64 Cm, .slice M nm cm]; (try simp only [World.size_alloc] at h); exact h)
  obtain ⟨a2, b2, d2⟩ := L1.out.cells (.head _)
  go_wp2_with fail
  clear a2 b2 d2
  have H1 := L1
  clear L1
  generalize (w.alloc (.cells #[.int .i64 Rm, .int .i64 Cm, .slice M nm cm] 27)) = w1 at *
  refine (smallR H1.out 8 (by decide) (v := false) HSm.out).mono ?_
  rintro e w2 ⟨rfl, h⟩
  have H2 := Lib.hid h
  clear h
  go_wp2_with fail
  refine (works_any _).mono ?_
  rintro e w3 ⟨rfl, hb⟩
  have H3 := Lib.hid (MS.keep H2.out hb)
  clear hb
  go_wp2_with fail
  go_ret
  exact ⟨rfl, H3.out.below⟩
set_option maxRecDepth 100000 in
set_option maxHeartbeats 4000000 in
theorem packs_in (w : World)  (B : Option Addr) (lb : List UInt8) (nb cb : Nat) (hlb : lb.length = nb) (hB : Bytes w w.heap.size B lb) (hcb : lb.length ≤ cb) (hmb : cb ≤ maxLen) (Rm Cm : Int) (M : Option Addr) (lm : List UInt8) (nm cm : Nat) (hlm : lm.length = nm) (hM : Bytes w w.heap.size M lm) (hcm : lm.length ≤ cm) (h1 : ¬ (55 : Int) < (nb : Int)) (hs : smallB 8 Rm Cm nm = true) :
    Calls Try.prog 9 #[.slice B nb cb, .agg #[.int .i64 Rm, .int .i64 Cm, .slice M nm cm]] w fun e w' => e = .returned (.bool true) ∧ Below w.heap.size w w' := by
  have H0 := Lib.hid (((MS.start w).arg hM hcm).arg hB hcb)
  have HLNm := Lib.hid hlm
  have HLNb := Lib.hid (And.intro hlb hmb)
  have HSm := Lib.hid hs
  clear hM hcm hlm hB hcb hlb hmb hs
  go_enter Try.func9, Try.ntmps9
  have L1 := Lib.hid (show MS _ _ _ ((w.heap.size, #[.int .i64 Rm, .int .i64 Cm, .slice M nm cm]) :: _) (w.alloc (.cells #[.int .i64 Rm, .int .i64 Cm, .slice M nm cm] 27)) from by have h := H0.out.put #[.int .i64 Rm, .int .i64 Cm, .slice M nm cm]; (try simp only [World.size_alloc] at h); exact h)
  obtain ⟨a2, b2, d2⟩ := L1.out.cells (.head _)
  go_wp2_with fail
  clear a2 b2 d2
  have H1 := L1
  clear L1
  generalize (w.alloc (.cells #[.int .i64 Rm, .int .i64 Cm, .slice M nm cm] 27)) = w1 at *
  refine (smallR H1.out 8 (by decide) (v := true) HSm.out).mono ?_
  rintro e w2 ⟨rfl, h⟩
  have H2 := Lib.hid h
  clear h
  go_wp2_with fail
  go_loopw [5] (fun i wr => ∃ k : Nat, i = .int .i64 (k : Int) ∧ k ≤ 11 ∧ MS w none [⟨B, lb, cb⟩, ⟨M, lm, cm⟩] [(w.heap.size, #[.int .i64 Rm, .int .i64 Cm, .slice M nm cm])] wr) (fun i _ => 11 - (intOf i).toNat)
  case atStart => exact ⟨0, rfl, Nat.zero_le _, H2.out⟩
  case round =>
    obtain ⟨k, rfl, hk, h⟩ := hrel
    have H90 := Lib.hid h
    clear h H2
    obtain ⟨w90, rfl⟩ : ∃ w90 : World, w90 = wr := ⟨_, rfl⟩
    have hk0 : (0 : Int) ≤ (k : Int) := by omega
    by_cases hk1 : (k : Int) ≤ 10
    · obtain ⟨q, hq⟩ : ∃ q, k * (k + 1) = q := ⟨_, rfl⟩
      have hq1 : (k : Int) * ((k : Int) + 1) = (q : Int) := by rw [← hq]; simp
      have hq9 : q ≤ 110 := by rw [← hq]; exact Nat.mul_le_mul (by omega : k ≤ 10) (by omega : k + 1 ≤ 11)
      have hq2 : q % 2 = 0 := by rw [← hq]; rcases Nat.mod_two_eq_zero_or_one k with e | e <;> rw [Nat.mul_mod, Nat.add_mod, e]
      have HQ := Lib.hid (And.intro hq (And.intro hq2 hq9))
      have e1 : IntKind.i64.wrap ((k : Int) + 1) = (k : Int) + 1 := by rw [IntWalk.i64_in _ (by omega)]
      have e2 : IntKind.i64.wrap ((k : Int) * ((k : Int) + 1)) = (q : Int) := by rw [hq1, IntWalk.i64_in _ (by omega)]
      have e3 : (q : Int).tdiv 2 = ((q / 2 : Nat) : Int) := by rw [Int.tdiv_eq_ediv_of_nonneg (by omega)]; omega
      have e4 : IntKind.i64.wrap ((q / 2 : Nat) : Int) = ((q / 2 : Nat) : Int) := by rw [IntWalk.i64_in _ (by omega)]
      obtain ⟨h2, hh2⟩ : ∃ h2, q / 2 = h2 := ⟨_, rfl⟩
      rw [hh2] at e3 e4
      have HH := Lib.hid hh2
      clear hq hq1 hq2 hq9 hh2
      by_cases hnb : nb = h2
      · subst hnb
        have H2 := Lib.hid (show 2 * nb = k * (k + 1) from by have h1 := HH.out; have h2 := HQ.out; omega)
        have HK := Lib.hid (show k ≤ 10 from by omega)
        have HO := Lib.hid (show lb.length = offS k k from by have h1 := offS_len k; have h2 := H2.out; have h3 := HLNb.out.1; omega)
        go_wp2_with fail
        refine (symR H90.out (r := k) (.head _) HLNb.out.2 HLNb.out.1 rfl (by have := HK.out; omega) H2.out (k * k) rfl rfl).mono ?_
        rintro e w91 ⟨A91, c91, rfl, h⟩
        have H91 := Lib.hid h
        clear h
        have L3 := Lib.hid (show MS _ _ _ ((w91.heap.size, #[.int .i64 (k : Int), .int .i64 (k : Int), .slice A91 (k * k) c91]) :: _) (w91.alloc (.cells #[.int .i64 (k : Int), .int .i64 (k : Int), .slice A91 (k * k) c91] 27)) from by have h := H91.out.put #[.int .i64 (k : Int), .int .i64 (k : Int), .slice A91 (k * k) c91]; (try simp only [World.size_alloc] at h); exact h)
        obtain ⟨a4, b4, d4⟩ := L3.out.cells (.head _)
        go_wp2_with fail
        clear a4 b4 d4
        have H92 := L3
        clear L3
        generalize (w91.alloc (.cells #[.int .i64 (k : Int), .int .i64 (k : Int), .slice A91 (k * k) c91] 27)) = w92 at *
        refine (turnR H92.out (r := k) (c := k) (.head _) rfl ⟨rfl, rfl⟩ (by have := HK.out; omega) rfl k k (k * k) ⟨rfl, rfl, rfl⟩ (l := flat k k (symM k lb)) (flat_congr fun i _ j _ => symM_turn k lb i j)).mono ?_
        rintro e w93 ⟨A93, c93, rfl, h⟩
        have H93 := Lib.hid h
        clear h
        have L5 := Lib.hid (show MS _ _ _ ((w93.heap.size, #[.int .i64 (k : Int), .int .i64 (k : Int), .slice A93 (k * k) c93]) :: _) (w93.alloc (.cells #[.int .i64 (k : Int), .int .i64 (k : Int), .slice A93 (k * k) c93] 27)) from by have h := H93.out.put #[.int .i64 (k : Int), .int .i64 (k : Int), .slice A93 (k * k) c93]; (try simp only [World.size_alloc] at h); exact h)
        obtain ⟨a6, b6, d6⟩ := L5.out.cells (.tail _ (.head _))
        go_wp2_with fail
        clear a6 b6 d6
        have H94 := L5
        clear L5
        generalize (w93.alloc (.cells #[.int .i64 (k : Int), .int .i64 (k : Int), .slice A93 (k * k) c93] 27)) = w94 at *
        refine (packdR H94.out (r := k) (.tail _ (.head _)) rfl ⟨rfl, rfl⟩ (by have := HK.out; omega) rfl (flat_congr fun i _ j _ => symM_turn k lb i j) nb (by rw [← HLNb.out.1]; exact HO.out) (l := lb) (packS_back HO.out)).mono ?_
        rintro e w95 ⟨A95, c95, rfl, h⟩
        have H95 := Lib.hid h
        clear h
        obtain ⟨a7, b7, d7⟩ := H95.out.cells (.tail _ (.head _))
        obtain ⟨a8, b8, d8⟩ := H95.out.cells (.head _)
        go_wp2_with fail
        clear a7 b7 d7 a8 b8 d8
        refine (sameR H95.out (.tail _ (.tail _ (.head _))) (flat_len _ _ _) (.tail _ (.head _)) (flat_len _ _ _) (v := true) (sameB_self _ _ _)).mono ?_
        rintro e w96 ⟨rfl, h⟩
        have H96 := Lib.hid h
        clear h
        go_wp2_with fail
        refine (sameBytesR H96.out (.head _) HLNb.out.1 (.tail _ (.tail _ (.tail _ (.head _)))) HLNb.out.1 (v := true) (decide_eq_true rfl)).mono ?_
        rintro e w' ⟨rfl, rfl⟩
        go_wp2_with fail
        go_roundw
        case rel => exact ⟨k + 1, rfl, by omega, H96.out.less (by simp) (by simp)⟩
        case measure => simp [intOf]; omega
      · have hnb2 : ((nb : Int) == (h2 : Int)) = false := by simp; omega
        have HN := Lib.hid (show (nb : Int) ≠ (k : Int) * ((k : Int) + 1) / 2 from by
          have h1 := HH.out; have h2 := HQ.out
          have h3 : (k : Int) * ((k : Int) + 1) = (q : Int) := by rw [← h2.1]; simp
          rw [h3]; omega)
        clear hnb
        go_wp2_with fail
        refine (sym0R H90.out (by omega) HN.out).mono ?_
        rintro e w91 ⟨rfl, h⟩
        have H91 := Lib.hid h
        clear h
        have L3 := Lib.hid (show MS _ _ _ ((w91.heap.size, #[.int .i64 0, .int .i64 0, .slice none 0 0]) :: _) (w91.alloc (.cells #[.int .i64 0, .int .i64 0, .slice none 0 0] 27)) from by have h := H91.out.put #[.int .i64 0, .int .i64 0, .slice none 0 0]; (try simp only [World.size_alloc] at h); exact h)
        go_wp2_with fail
        have H92 := L3
        clear L3
        generalize (w91.alloc (.cells #[.int .i64 0, .int .i64 0, .slice none 0 0] 27)) = w92 at *
        go_roundw
        case rel => exact ⟨k + 1, rfl, by omega, H92.out.less (by simp) (by simp)⟩
        case measure => simp [intOf]; omega
    · cases hr : rightB Rm Cm nm with
      | false =>
        have HR := Lib.hid hr
        clear hr
        obtain ⟨a3, b3, d3⟩ := H90.out.cells (.head _)
        go_wp2_with fail
        clear a3 b3 d3
        refine (turn0R H90.out HR.out).mono ?_
        rintro e w91 ⟨rfl, h⟩
        have H91 := Lib.hid h
        clear h
        have L4 := Lib.hid (show MS _ _ _ ((w91.heap.size, #[.int .i64 0, .int .i64 0, .slice none 0 0]) :: _) (w91.alloc (.cells #[.int .i64 0, .int .i64 0, .slice none 0 0] 27)) from by have h := H91.out.put #[.int .i64 0, .int .i64 0, .slice none 0 0]; (try simp only [World.size_alloc] at h); exact h)
        go_wp2_with fail
        have H92 := L4
        clear L4
        generalize (w91.alloc (.cells #[.int .i64 0, .int .i64 0, .slice none 0 0] 27)) = w92 at *
        refine (works_any _).mono ?_
        rintro e w93 ⟨rfl, hb⟩
        have H93 := Lib.hid (MS.keep H92.out hb)
        clear hb
        go_wp2_with fail
        go_ret
        exact ⟨rfl, H93.out.below⟩
      | true =>
        obtain ⟨r, c, rfl, rfl, hr6, hc6, rfl⟩ := right_nat hr
        have HD := Lib.hid (show r ≤ 8 ∧ c ≤ 8 from by have h := of_decide_eq_true HSm.out; omega)
        have HM := Lib.hid (show lm = flat r c (ent lm c) from (flat_ent HLNm.out).symm)
        clear hr hr6 hc6
        obtain ⟨a3, b3, d3⟩ := H90.out.cells (.head _)
        go_wp2_with fail
        clear a3 b3 d3
        refine (turnR H90.out (r := r) (c := c) (.tail _ (.head _)) rfl ⟨rfl, rfl⟩ (by have := HD.out; omega) HM.out c r (c * r) ⟨rfl, rfl, rfl⟩ rfl).mono ?_
        rintro e w91 ⟨A91, c91, rfl, h⟩
        have H91 := Lib.hid h
        clear h
        have L4 := Lib.hid (show MS _ _ _ ((w91.heap.size, #[.int .i64 (c : Int), .int .i64 (r : Int), .slice A91 (c * r) c91]) :: _) (w91.alloc (.cells #[.int .i64 (c : Int), .int .i64 (r : Int), .slice A91 (c * r) c91] 27)) from by have h := H91.out.put #[.int .i64 (c : Int), .int .i64 (r : Int), .slice A91 (c * r) c91]; (try simp only [World.size_alloc] at h); exact h)
        go_wp2_with fail
        have H92 := L4
        clear L4
        generalize (w91.alloc (.cells #[.int .i64 (c : Int), .int .i64 (r : Int), .slice A91 (c * r) c91] 27)) = w92 at *
        refine wp_region_noPanic ?_
        refine wp_heldG (fun w' => (w'.cell? ⟨w.heap.size, 0, none⟩ = some (.int .i64 (r : Int)) ∧ w'.cell? ⟨w.heap.size, 1, none⟩ = some (.int .i64 (c : Int)) ∧ w'.cell? ⟨w.heap.size, 2, none⟩ = some (.slice M (r * c) cm)) ∧ (w'.cell? ⟨w91.heap.size, 0, none⟩ = some (.int .i64 (c : Int)) ∧ w'.cell? ⟨w91.heap.size, 1, none⟩ = some (.int .i64 (r : Int)) ∧ w'.cell? ⟨w91.heap.size, 2, none⟩ = some (.slice A91 (c * r) c91))) [8] (by kernel_rfl) ?hs0 ?rg0
        case hs0 =>
          have h := H92.out.keep (nextN (Mem.start w92) 1)
          exact ⟨h.cells (.tail _ (.head _)), h.cells (.head _)⟩
        case rg0 =>
        intro hHeld
        have HD92 := Lib.hid (show MS _ _ _ _ w92.drew from H92.out.keep (nextN (Mem.start w92) 1))
        generalize w92.drew = wd92 at *
        refine wpAnyG_take (i := 1) (oi := { dst := some 84, op := Op.load 27 (Operand.tmp 3), type := 27, pos := _, after := #[], guard := none }) (v := ?_) rfl (by kernel_rfl) (by kernel_rfl) (by kernel_rfl) (by kernel_rfl) (fun _ _ _ h => h) (Or.inl ⟨by rfl, ?_⟩) (by assumption) ?_
        rotate_left
        · intro w hSw
          try dsimp only at hSw
          obtain ⟨⟨k0, k1, k2⟩, ⟨l0, l1, l2⟩⟩ := hSw
          go_simp
          try with_reducible rfl
        try simp only [Act.put, List.setIfInBounds_toArray, List.set_cons_zero, List.set_cons_succ]
        refine wpAnyG_take (i := 2) (oi := { dst := some 85, op := Op.load 27 (Operand.tmp 12), type := 27, pos := _, after := #[], guard := none }) (v := ?_) rfl (by kernel_rfl) (by kernel_rfl) (by kernel_rfl) (by kernel_rfl) (fun _ _ _ h => h) (Or.inl ⟨by rfl, ?_⟩) (by assumption) ?_
        rotate_left
        · intro w hSw
          try dsimp only at hSw
          obtain ⟨⟨k0, k1, k2⟩, ⟨l0, l1, l2⟩⟩ := hSw
          go_simp
          try with_reducible rfl
        try simp only [Act.put, List.setIfInBounds_toArray, List.set_cons_zero, List.set_cons_succ]
        refine wpAnyG_two (i := 0) (j := 7) (o := { dst := some 83, op := Op.call { callee := Callee.value (Operand.func 12), args := #[], argTypes := #[] }, type := 24, pos := _, after := #[], guard := none }) (u := { dst := some 14, op := Op.alloc 27, type := 0, pos := _, after := #[], guard := none }) (by kernel_rfl) rfl rfl (fun K hK => ?_) (fun K hK => ?_)
        · skip
          go_simp
          refine (newR HD92.out).mono ?_
          rintro e w93 ⟨rfl, h⟩
          have H93 := Lib.hid h
          clear h
          try dsimp only
          refine hK.out _ _ ?_ (fun hHeld => ?_)
          · intro _
            try dsimp only
            have h := H93.out
            exact ⟨h.cells (.tail _ (.head _)), h.cells (.head _)⟩
          clear hK K
          try simp only [Act.put, List.setIfInBounds_toArray, List.set_cons_zero, List.set_cons_succ]
          have hHeld := hHeld (by kernel_rfl)
          refine wpAnyG_two (i := 3) (j := 7) (o := { dst := some 86, op := Op.call { callee := Callee.value (Operand.func 18), args := #[Operand.tmp 83, Operand.tmp 84, Operand.tmp 85], argTypes := #[24, 27, 27] }, type := 32, pos := _, after := #[{ on := 0, ground := Ground.data }, { on := 1, ground := Ground.data }, { on := 2, ground := Ground.data }, { on := 0, ground := Ground.chain }], guard := none }) (u := { dst := some 14, op := Op.alloc 27, type := 0, pos := _, after := #[], guard := none }) (by kernel_rfl) rfl rfl (fun K hK => ?_) (fun K hK => ?_)
          · skip
            go_simp
            refine (mulR H93.out (r := r) (c := c) (d := r) (.tail _ (.tail _ (.head _))) (.head _) rfl rfl ⟨rfl, rfl, rfl, rfl⟩ (by have := HD.out; omega) HM.out rfl r r (r * r) ⟨rfl, rfl, rfl⟩ rfl).mono ?_
            rintro e w94 ⟨A94, c94, rfl, h⟩
            have H94 := Lib.hid h
            clear h
            try dsimp only
            refine hK.out _ _ ?_ (fun hHeld => ?_)
            · intro _
              try dsimp only
              have h := H94.out
              exact ⟨h.cells (.tail _ (.head _)), h.cells (.head _)⟩
            clear hK K
            try simp only [Act.put, List.setIfInBounds_toArray, List.set_cons_zero, List.set_cons_succ]
            have hHeld := hHeld (by kernel_rfl)
            refine wpAnyG_pure (i := 4) (oi := { dst := some 82, op := Op.move (Operand.tmp 86), type := 32, pos := _, after := #[{ on := 3, ground := Ground.data }], guard := none }) (v := ?_) rfl (by kernel_rfl) (by kernel_rfl) (by kernel_rfl) (by kernel_rfl) (fun _ _ _ h => h) (Or.inl ⟨by rfl, ?_⟩) (fun _ => by assumption) ?_
            rotate_left
            · intro w hSw
              try dsimp only at hSw
              go_simp
              try with_reducible rfl
            try simp only [Act.put, List.setIfInBounds_toArray, List.set_cons_zero, List.set_cons_succ]
            refine wpAnyG_pure (i := 5) (oi := { dst := some 87, op := Op.extract (Operand.tmp 82) 0, type := 27, pos := _, after := #[{ on := 4, ground := Ground.data }], guard := none }) (v := ?_) rfl (by kernel_rfl) (by kernel_rfl) (by kernel_rfl) (by kernel_rfl) (fun _ _ _ h => h) (Or.inl ⟨by rfl, ?_⟩) (fun _ => by assumption) ?_
            rotate_left
            · intro w hSw
              try dsimp only at hSw
              go_simp
              try with_reducible rfl
            try simp only [Act.put, List.setIfInBounds_toArray, List.set_cons_zero, List.set_cons_succ]
            refine wpAnyG_pure (i := 6) (oi := { dst := some 88, op := Op.extract (Operand.tmp 82) 1, type := 29, pos := _, after := #[{ on := 4, ground := Ground.data }, { on := 8, ground := Ground.gcOnly Departure.lateStores }], guard := none }) (v := ?_) rfl (by kernel_rfl) (by kernel_rfl) (by kernel_rfl) (by kernel_rfl) (fun _ _ _ h => h) (Or.inl ⟨by rfl, ?_⟩) (fun _ => by assumption) ?_
            rotate_left
            · intro w hSw
              try dsimp only at hSw
              go_simp
              try with_reducible rfl
            try simp only [Act.put, List.setIfInBounds_toArray, List.set_cons_zero, List.set_cons_succ]
            refine wpAnyG_one (i := 7) (o := { dst := some 14, op := Op.alloc 27, type := 0, pos := _, after := #[], guard := none }) (by kernel_rfl) rfl (fun K hK => ?_)
            refine step_new (P := Try.prog) _ ⟨rfl, rfl, rfl⟩ newMx ?_
            have H95 := Lib.hid (H94.out.put #[.int .i64 0, .int .i64 0, .slice none 0 0])
            have HB95 := Lib.hid (And.intro H94.out.below.size H94.out.far)
            obtain ⟨g95, hg95⟩ : ∃ x, w94.heap.size = x := ⟨_, rfl⟩
            rw [hg95] at H95 HB95 ⊢
            clear hg95
            generalize w94.alloc (.cells #[.int .i64 0, .int .i64 0, .slice none 0 0] 27) = w95 at *
            try dsimp only
            refine hK.out _ _ ?_ (fun hHeld => ?_)
            · intro _
              try dsimp only
              have h := H95.out
              exact ⟨h.cells (.tail _ (.tail _ (.head _))), h.cells (.tail _ (.head _))⟩
            clear hK K
            try simp only [Act.put, List.setIfInBounds_toArray, List.set_cons_zero, List.set_cons_succ]
            have hHeld := hHeld (by kernel_rfl)
            refine wpAnyG_one (i := 8) (o := { dst := none, op := Op.store 27 (Operand.tmp 14) (Operand.tmp 87), type := 0, pos := _, after := #[{ on := 7, ground := Ground.data }, { on := 5, ground := Ground.data }, { on := 3, ground := Ground.chain }, { on := 0, ground := Ground.phase }, { on := 1, ground := Ground.phase }, { on := 2, ground := Ground.phase }, { on := 3, ground := Ground.phase }, { on := 4, ground := Ground.phase }, { on := 5, ground := Ground.phase }, { on := 6, ground := Ground.textOnly Departure.lateStores }, { on := 7, ground := Ground.phase }], guard := none }) (by kernel_rfl) rfl (fun K hK => ?_)
            obtain ⟨⟨z0, z1, z2⟩, f0, f1, f2⟩ := cells3 (H95.out.box _ (.head _)).1
            go_simp
            have H96 := Lib.hid (H95.out.set HB95.out.1 HB95.out.2 (.int .i64 (r : Int)) (.int .i64 (r : Int)) (.slice A94 (r * r) c94))
            clear z0 z1 z2 f0 f1 f2 HB95
            generalize ((w95.setCell ⟨g95, 0, none⟩ (.int .i64 (r : Int))).setCell ⟨g95, 1, none⟩ (.int .i64 (r : Int))).setCell ⟨g95, 2, none⟩ (.slice A94 (r * r) c94) = w96 at *
            try dsimp only
            refine hK.out _ _ ?_ (fun hHeld => ?_)
            · exact fun h => (st_no (by kernel_rfl) h).elim
            clear hK K
            try simp only [Act.put, List.setIfInBounds_toArray, List.set_cons_zero, List.set_cons_succ]
            clear hHeld
            refine wpAnyG_pure (i := 9) (oi := { dst := some 15, op := Op.assign (Operand.tmp 88), type := 29, pos := _, after := #[{ on := 6, ground := Ground.data }, { on := 8, ground := Ground.chain }, { on := 0, ground := Ground.phase }, { on := 1, ground := Ground.phase }, { on := 2, ground := Ground.phase }, { on := 3, ground := Ground.phase }, { on := 4, ground := Ground.phase }, { on := 5, ground := Ground.phase }, { on := 6, ground := Ground.phase }, { on := 7, ground := Ground.phase }, { on := 8, ground := Ground.phase }], guard := none }) (v := ?_) rfl (by kernel_rfl) (by kernel_rfl) (by kernel_rfl) (by kernel_rfl) (fun _ _ _ h => h) (Or.inl ⟨by rfl, ?_⟩) (fun h => (st_no (by kernel_rfl) h).elim) ?_
            rotate_left
            · intro w hSw
              try dsimp only at hSw
              go_simp
              try with_reducible rfl
            try simp only [Act.put, List.setIfInBounds_toArray, List.set_cons_zero, List.set_cons_succ]
            refine wpAnyG_done (by kernel_rfl) ?_ _
            refine NoPanic.normal ?_
            obtain ⟨a5, b5, d5⟩ := H96.out.cells (.head _)
            go_wp2_with fail
            clear a5 b5 d5
            refine (packdR H96.out (r := r) (.head _) rfl ⟨rfl, rfl⟩ (by have := HD.out; omega) rfl (gram_sym c r (ent lm c)) _ rfl rfl).mono ?_
            rintro e w97 ⟨A97, c97, rfl, h⟩
            have H97 := Lib.hid h
            clear h
            go_wp2_with fail
            refine (works_any _).mono ?_
            rintro e w98 ⟨rfl, hb⟩
            have H98 := Lib.hid (MS.keep H97.out hb)
            clear hb
            go_wp2_with fail
            go_ret
            exact ⟨rfl, H98.out.below⟩
          · skip
            refine step_new (P := Try.prog) _ ⟨rfl, rfl, rfl⟩ newMx ?_
            have H94 := Lib.hid (H93.out.put #[.int .i64 0, .int .i64 0, .slice none 0 0])
            have HB94 := Lib.hid (And.intro H93.out.below.size H93.out.far)
            obtain ⟨g94, hg94⟩ : ∃ x, w93.heap.size = x := ⟨_, rfl⟩
            rw [hg94] at H94 HB94 ⊢
            clear hg94
            generalize w93.alloc (.cells #[.int .i64 0, .int .i64 0, .slice none 0 0] 27) = w94 at *
            try dsimp only
            refine hK.out _ _ ?_ (fun hHeld => ?_)
            · intro _
              try dsimp only
              have h := H94.out
              exact ⟨h.cells (.tail _ (.tail _ (.head _))), h.cells (.tail _ (.head _))⟩
            clear hK K
            try simp only [Act.put, List.setIfInBounds_toArray, List.set_cons_zero, List.set_cons_succ]
            have hHeld := hHeld (by kernel_rfl)
            refine wpAnyG_one (i := 3) (o := { dst := some 86, op := Op.call { callee := Callee.value (Operand.func 18), args := #[Operand.tmp 83, Operand.tmp 84, Operand.tmp 85], argTypes := #[24, 27, 27] }, type := 32, pos := _, after := #[{ on := 0, ground := Ground.data }, { on := 1, ground := Ground.data }, { on := 2, ground := Ground.data }, { on := 0, ground := Ground.chain }], guard := none }) (by kernel_rfl) rfl (fun K hK => ?_)
            go_simp
            refine (mulR H94.out (r := r) (c := c) (d := r) (.tail _ (.tail _ (.head _))) (.head _) rfl rfl ⟨rfl, rfl, rfl, rfl⟩ (by have := HD.out; omega) HM.out rfl r r (r * r) ⟨rfl, rfl, rfl⟩ rfl).mono ?_
            rintro e w95 ⟨A95, c95, rfl, h⟩
            have H95 := Lib.hid h
            clear h
            try dsimp only
            refine hK.out _ _ ?_ (fun hHeld => ?_)
            · intro _
              try dsimp only
              have h := H95.out
              exact ⟨h.cells (.tail _ (.tail _ (.head _))), h.cells (.tail _ (.head _))⟩
            clear hK K
            try simp only [Act.put, List.setIfInBounds_toArray, List.set_cons_zero, List.set_cons_succ]
            have hHeld := hHeld (by kernel_rfl)
            refine wpAnyG_pure (i := 4) (oi := { dst := some 82, op := Op.move (Operand.tmp 86), type := 32, pos := _, after := #[{ on := 3, ground := Ground.data }], guard := none }) (v := ?_) rfl (by kernel_rfl) (by kernel_rfl) (by kernel_rfl) (by kernel_rfl) (fun _ _ _ h => h) (Or.inl ⟨by rfl, ?_⟩) (fun _ => by assumption) ?_
            rotate_left
            · intro w hSw
              try dsimp only at hSw
              go_simp
              try with_reducible rfl
            try simp only [Act.put, List.setIfInBounds_toArray, List.set_cons_zero, List.set_cons_succ]
            refine wpAnyG_pure (i := 5) (oi := { dst := some 87, op := Op.extract (Operand.tmp 82) 0, type := 27, pos := _, after := #[{ on := 4, ground := Ground.data }], guard := none }) (v := ?_) rfl (by kernel_rfl) (by kernel_rfl) (by kernel_rfl) (by kernel_rfl) (fun _ _ _ h => h) (Or.inl ⟨by rfl, ?_⟩) (fun _ => by assumption) ?_
            rotate_left
            · intro w hSw
              try dsimp only at hSw
              go_simp
              try with_reducible rfl
            try simp only [Act.put, List.setIfInBounds_toArray, List.set_cons_zero, List.set_cons_succ]
            refine wpAnyG_pure (i := 6) (oi := { dst := some 88, op := Op.extract (Operand.tmp 82) 1, type := 29, pos := _, after := #[{ on := 4, ground := Ground.data }, { on := 8, ground := Ground.gcOnly Departure.lateStores }], guard := none }) (v := ?_) rfl (by kernel_rfl) (by kernel_rfl) (by kernel_rfl) (by kernel_rfl) (fun _ _ _ h => h) (Or.inl ⟨by rfl, ?_⟩) (fun _ => by assumption) ?_
            rotate_left
            · intro w hSw
              try dsimp only at hSw
              go_simp
              try with_reducible rfl
            try simp only [Act.put, List.setIfInBounds_toArray, List.set_cons_zero, List.set_cons_succ]
            refine wpAnyG_one (i := 8) (o := { dst := none, op := Op.store 27 (Operand.tmp 14) (Operand.tmp 87), type := 0, pos := _, after := #[{ on := 7, ground := Ground.data }, { on := 5, ground := Ground.data }, { on := 3, ground := Ground.chain }, { on := 0, ground := Ground.phase }, { on := 1, ground := Ground.phase }, { on := 2, ground := Ground.phase }, { on := 3, ground := Ground.phase }, { on := 4, ground := Ground.phase }, { on := 5, ground := Ground.phase }, { on := 6, ground := Ground.textOnly Departure.lateStores }, { on := 7, ground := Ground.phase }], guard := none }) (by kernel_rfl) rfl (fun K hK => ?_)
            obtain ⟨⟨z0, z1, z2⟩, f0, f1, f2⟩ := cells3 (H95.out.box _ (.head _)).1
            go_simp
            have H96 := Lib.hid (H95.out.set HB94.out.1 HB94.out.2 (.int .i64 (r : Int)) (.int .i64 (r : Int)) (.slice A95 (r * r) c95))
            clear z0 z1 z2 f0 f1 f2 HB94
            generalize ((w95.setCell ⟨g94, 0, none⟩ (.int .i64 (r : Int))).setCell ⟨g94, 1, none⟩ (.int .i64 (r : Int))).setCell ⟨g94, 2, none⟩ (.slice A95 (r * r) c95) = w96 at *
            try dsimp only
            refine hK.out _ _ ?_ (fun hHeld => ?_)
            · exact fun h => (st_no (by kernel_rfl) h).elim
            clear hK K
            try simp only [Act.put, List.setIfInBounds_toArray, List.set_cons_zero, List.set_cons_succ]
            clear hHeld
            refine wpAnyG_pure (i := 9) (oi := { dst := some 15, op := Op.assign (Operand.tmp 88), type := 29, pos := _, after := #[{ on := 6, ground := Ground.data }, { on := 8, ground := Ground.chain }, { on := 0, ground := Ground.phase }, { on := 1, ground := Ground.phase }, { on := 2, ground := Ground.phase }, { on := 3, ground := Ground.phase }, { on := 4, ground := Ground.phase }, { on := 5, ground := Ground.phase }, { on := 6, ground := Ground.phase }, { on := 7, ground := Ground.phase }, { on := 8, ground := Ground.phase }], guard := none }) (v := ?_) rfl (by kernel_rfl) (by kernel_rfl) (by kernel_rfl) (by kernel_rfl) (fun _ _ _ h => h) (Or.inl ⟨by rfl, ?_⟩) (fun h => (st_no (by kernel_rfl) h).elim) ?_
            rotate_left
            · intro w hSw
              try dsimp only at hSw
              go_simp
              try with_reducible rfl
            try simp only [Act.put, List.setIfInBounds_toArray, List.set_cons_zero, List.set_cons_succ]
            refine wpAnyG_done (by kernel_rfl) ?_ _
            refine NoPanic.normal ?_
            obtain ⟨a5, b5, d5⟩ := H96.out.cells (.head _)
            go_wp2_with fail
            clear a5 b5 d5
            refine (packdR H96.out (r := r) (.head _) rfl ⟨rfl, rfl⟩ (by have := HD.out; omega) rfl (gram_sym c r (ent lm c)) _ rfl rfl).mono ?_
            rintro e w97 ⟨A97, c97, rfl, h⟩
            have H97 := Lib.hid h
            clear h
            go_wp2_with fail
            refine (works_any _).mono ?_
            rintro e w98 ⟨rfl, hb⟩
            have H98 := Lib.hid (MS.keep H97.out hb)
            clear hb
            go_wp2_with fail
            go_ret
            exact ⟨rfl, H98.out.below⟩
        · skip
          refine step_new (P := Try.prog) _ ⟨rfl, rfl, rfl⟩ newMx ?_
          have H93 := Lib.hid (HD92.out.put #[.int .i64 0, .int .i64 0, .slice none 0 0])
          have HB93 := Lib.hid (And.intro HD92.out.below.size HD92.out.far)
          obtain ⟨g93, hg93⟩ : ∃ x, wd92.heap.size = x := ⟨_, rfl⟩
          rw [hg93] at H93 HB93 ⊢
          clear hg93
          generalize wd92.alloc (.cells #[.int .i64 0, .int .i64 0, .slice none 0 0] 27) = w93 at *
          try dsimp only
          refine hK.out _ _ ?_ (fun hHeld => ?_)
          · intro _
            try dsimp only
            have h := H93.out
            exact ⟨h.cells (.tail _ (.tail _ (.head _))), h.cells (.tail _ (.head _))⟩
          clear hK K
          try simp only [Act.put, List.setIfInBounds_toArray, List.set_cons_zero, List.set_cons_succ]
          have hHeld := hHeld (by kernel_rfl)
          refine wpAnyG_one (i := 0) (o := { dst := some 83, op := Op.call { callee := Callee.value (Operand.func 12), args := #[], argTypes := #[] }, type := 24, pos := _, after := #[], guard := none }) (by kernel_rfl) rfl (fun K hK => ?_)
          go_simp
          refine (newR H93.out).mono ?_
          rintro e w94 ⟨rfl, h⟩
          have H94 := Lib.hid h
          clear h
          try dsimp only
          refine hK.out _ _ ?_ (fun hHeld => ?_)
          · intro _
            try dsimp only
            have h := H94.out
            exact ⟨h.cells (.tail _ (.tail _ (.head _))), h.cells (.tail _ (.head _))⟩
          clear hK K
          try simp only [Act.put, List.setIfInBounds_toArray, List.set_cons_zero, List.set_cons_succ]
          have hHeld := hHeld (by kernel_rfl)
          refine wpAnyG_one (i := 3) (o := { dst := some 86, op := Op.call { callee := Callee.value (Operand.func 18), args := #[Operand.tmp 83, Operand.tmp 84, Operand.tmp 85], argTypes := #[24, 27, 27] }, type := 32, pos := _, after := #[{ on := 0, ground := Ground.data }, { on := 1, ground := Ground.data }, { on := 2, ground := Ground.data }, { on := 0, ground := Ground.chain }], guard := none }) (by kernel_rfl) rfl (fun K hK => ?_)
          go_simp
          refine (mulR H94.out (r := r) (c := c) (d := r) (.tail _ (.tail _ (.head _))) (.head _) rfl rfl ⟨rfl, rfl, rfl, rfl⟩ (by have := HD.out; omega) HM.out rfl r r (r * r) ⟨rfl, rfl, rfl⟩ rfl).mono ?_
          rintro e w95 ⟨A95, c95, rfl, h⟩
          have H95 := Lib.hid h
          clear h
          try dsimp only
          refine hK.out _ _ ?_ (fun hHeld => ?_)
          · intro _
            try dsimp only
            have h := H95.out
            exact ⟨h.cells (.tail _ (.tail _ (.head _))), h.cells (.tail _ (.head _))⟩
          clear hK K
          try simp only [Act.put, List.setIfInBounds_toArray, List.set_cons_zero, List.set_cons_succ]
          have hHeld := hHeld (by kernel_rfl)
          refine wpAnyG_pure (i := 4) (oi := { dst := some 82, op := Op.move (Operand.tmp 86), type := 32, pos := _, after := #[{ on := 3, ground := Ground.data }], guard := none }) (v := ?_) rfl (by kernel_rfl) (by kernel_rfl) (by kernel_rfl) (by kernel_rfl) (fun _ _ _ h => h) (Or.inl ⟨by rfl, ?_⟩) (fun _ => by assumption) ?_
          rotate_left
          · intro w hSw
            try dsimp only at hSw
            go_simp
            try with_reducible rfl
          try simp only [Act.put, List.setIfInBounds_toArray, List.set_cons_zero, List.set_cons_succ]
          refine wpAnyG_pure (i := 5) (oi := { dst := some 87, op := Op.extract (Operand.tmp 82) 0, type := 27, pos := _, after := #[{ on := 4, ground := Ground.data }], guard := none }) (v := ?_) rfl (by kernel_rfl) (by kernel_rfl) (by kernel_rfl) (by kernel_rfl) (fun _ _ _ h => h) (Or.inl ⟨by rfl, ?_⟩) (fun _ => by assumption) ?_
          rotate_left
          · intro w hSw
            try dsimp only at hSw
            go_simp
            try with_reducible rfl
          try simp only [Act.put, List.setIfInBounds_toArray, List.set_cons_zero, List.set_cons_succ]
          refine wpAnyG_pure (i := 6) (oi := { dst := some 88, op := Op.extract (Operand.tmp 82) 1, type := 29, pos := _, after := #[{ on := 4, ground := Ground.data }, { on := 8, ground := Ground.gcOnly Departure.lateStores }], guard := none }) (v := ?_) rfl (by kernel_rfl) (by kernel_rfl) (by kernel_rfl) (by kernel_rfl) (fun _ _ _ h => h) (Or.inl ⟨by rfl, ?_⟩) (fun _ => by assumption) ?_
          rotate_left
          · intro w hSw
            try dsimp only at hSw
            go_simp
            try with_reducible rfl
          try simp only [Act.put, List.setIfInBounds_toArray, List.set_cons_zero, List.set_cons_succ]
          refine wpAnyG_one (i := 8) (o := { dst := none, op := Op.store 27 (Operand.tmp 14) (Operand.tmp 87), type := 0, pos := _, after := #[{ on := 7, ground := Ground.data }, { on := 5, ground := Ground.data }, { on := 3, ground := Ground.chain }, { on := 0, ground := Ground.phase }, { on := 1, ground := Ground.phase }, { on := 2, ground := Ground.phase }, { on := 3, ground := Ground.phase }, { on := 4, ground := Ground.phase }, { on := 5, ground := Ground.phase }, { on := 6, ground := Ground.textOnly Departure.lateStores }, { on := 7, ground := Ground.phase }], guard := none }) (by kernel_rfl) rfl (fun K hK => ?_)
          obtain ⟨⟨z0, z1, z2⟩, f0, f1, f2⟩ := cells3 (H95.out.box _ (.head _)).1
          go_simp
          have H96 := Lib.hid (H95.out.set HB93.out.1 HB93.out.2 (.int .i64 (r : Int)) (.int .i64 (r : Int)) (.slice A95 (r * r) c95))
          clear z0 z1 z2 f0 f1 f2 HB93
          generalize ((w95.setCell ⟨g93, 0, none⟩ (.int .i64 (r : Int))).setCell ⟨g93, 1, none⟩ (.int .i64 (r : Int))).setCell ⟨g93, 2, none⟩ (.slice A95 (r * r) c95) = w96 at *
          try dsimp only
          refine hK.out _ _ ?_ (fun hHeld => ?_)
          · exact fun h => (st_no (by kernel_rfl) h).elim
          clear hK K
          try simp only [Act.put, List.setIfInBounds_toArray, List.set_cons_zero, List.set_cons_succ]
          clear hHeld
          refine wpAnyG_pure (i := 9) (oi := { dst := some 15, op := Op.assign (Operand.tmp 88), type := 29, pos := _, after := #[{ on := 6, ground := Ground.data }, { on := 8, ground := Ground.chain }, { on := 0, ground := Ground.phase }, { on := 1, ground := Ground.phase }, { on := 2, ground := Ground.phase }, { on := 3, ground := Ground.phase }, { on := 4, ground := Ground.phase }, { on := 5, ground := Ground.phase }, { on := 6, ground := Ground.phase }, { on := 7, ground := Ground.phase }, { on := 8, ground := Ground.phase }], guard := none }) (v := ?_) rfl (by kernel_rfl) (by kernel_rfl) (by kernel_rfl) (by kernel_rfl) (fun _ _ _ h => h) (Or.inl ⟨by rfl, ?_⟩) (fun h => (st_no (by kernel_rfl) h).elim) ?_
          rotate_left
          · intro w hSw
            try dsimp only at hSw
            go_simp
            try with_reducible rfl
          try simp only [Act.put, List.setIfInBounds_toArray, List.set_cons_zero, List.set_cons_succ]
          refine wpAnyG_done (by kernel_rfl) ?_ _
          refine NoPanic.normal ?_
          obtain ⟨a5, b5, d5⟩ := H96.out.cells (.head _)
          go_wp2_with fail
          clear a5 b5 d5
          refine (packdR H96.out (r := r) (.head _) rfl ⟨rfl, rfl⟩ (by have := HD.out; omega) rfl (gram_sym c r (ent lm c)) _ rfl rfl).mono ?_
          rintro e w97 ⟨A97, c97, rfl, h⟩
          have H97 := Lib.hid h
          clear h
          go_wp2_with fail
          refine (works_any _).mono ?_
          rintro e w98 ⟨rfl, hb⟩
          have H98 := Lib.hid (MS.keep H97.out hb)
          clear hb
          go_wp2_with fail
          go_ret
          exact ⟨rfl, H98.out.below⟩
theorem packs_law (w : World) (B : Option Addr) (lb : List UInt8) (cb : Nat) (hle : lb.length ≤ cb) (hmx : cb ≤ maxLen) (hB : Bytes w w.heap.size B lb) (Rm Cm : Int) (M : Option Addr) (lm : List UInt8) (cm : Nat) (gm : Open.MtOk w Rm Cm M lm cm) :
    Calls Try.prog 9 #[.slice B lb.length cb, .agg #[.int .i64 Rm, .int .i64 Cm, .slice M lm.length cm]] w fun e w' => e = .returned (.bool true) ∧ Below w.heap.size w w' := by
  by_cases h1 : (55 : Int) < (lb.length : Int)
  · exact packs_out0 w B lb _ cb rfl hB hle hmx Rm Cm M lm _ cm rfl gm.row gm.le h1
  · cases hs : smallB 8 Rm Cm lm.length with
    | false => exact packs_out1 w B lb _ cb rfl hB hle hmx Rm Cm M lm _ cm rfl gm.row gm.le h1 hs
    | true => exact packs_in w B lb _ cb rfl hB hle hmx Rm Cm M lm _ cm rfl gm.row gm.le h1 hs
end Go.Proofs.Ythdapoipfnnaeaa.MxW
