/- The law DiskCalls: its walk. -/
import Derived.Test.YtjpelifafmkdpaaDkDo2
namespace Go.Proofs.Ytjpelifafmkdpaa.DkW
open Go.RowKit Go.Shelf Mem Rng
set_option linter.unusedVariables false

theorem lit4 (w : World) : Bytes (w.alloc (.cells #[.int .u8 108, .int .u8 111, .int .u8 115, .int .u8 116] 5 (4, 5))) (w.alloc (.cells #[.int .u8 108, .int .u8 111, .int .u8 115, .int .u8 116] 5 (4, 5))).heap.size (some ⟨w.heap.size, 0, none⟩) [108, 111, 115, 116] := Bytes.new w [108, 111, 115, 116] 5 (4, 5) _ rfl _ (by simp)
theorem lit92 (w : World) : Bytes (w.alloc (.cells #[.int .u8 9, .int .u8 255] 5)) (w.alloc (.cells #[.int .u8 9, .int .u8 255] 5)).heap.size (some ⟨w.heap.size, 0, none⟩) [9, 255] := Bytes.new w [9, 255] 5 (0, 0) _ rfl _ (by simp)
set_option maxRecDepth 100000 in
set_option maxHeartbeats 8000000 in
theorem calls_any (w : World) (K : Int) (A : Option Addr) (l : List Open.OneD) (c : Nat) (hcl : l.length ≤ c) (hmx : c ≤ maxLen) (hF : Cells w w.heap.size A (l.flatMap Open.OneD.cells)) (hg : ∀ x ∈ l, x.good w) :
    Calls Try.prog 7 #[.int .i64 K, .slice A l.length c] w fun e w' => e = .returned (.bool true) ∧ Below w.heap.size w w' := by
  have hcv := fun (w : World) (C : Array Value) (n c : Nat) => Lib.run_convert_bytes_const (P := Try.prog) w 23 5 C n c Try.underlying23 Try.underlying5
  have HSl := Lib.hid (few_any w A l c hF (by unfold maxLen at hmx; omega))
  obtain ⟨n, hn⟩ : ∃ n, l.length = n := ⟨_, rfl⟩
  rw [hn] at HSl
  rw [hn]
  have HL := Lib.hid (And.intro hn (And.intro hF hg))
  clear hn hF hg hcl hmx
  go_enter Try.func7, Try.ntmps7
  go_wp2_with fail
  refine HSl.out.mono ?_
  rintro e w' ⟨⟨b, rfl, hs⟩, rfl⟩
  cases b with
  | false =>
    clear hs
    go_wp2_with fail
    refine (works_any w).mono ?_
    rintro e w9 ⟨rfl, hb⟩
    have H9 := Lib.hid hb
    clear hb
    go_wp2_with fail
    go_ret
    exact ⟨rfl, H9.out⟩
  | true =>
    have HS1 := Lib.hid (hs rfl)
    have hn60 : (n : Int) ≤ 60 := by have h1 := HS1.out.1; have h2 := HL.out.1; omega
    clear hs
    by_cases h20 : 20 < K
    · go_wp2_with fail
      refine (works_any w).mono ?_
      rintro e w9 ⟨rfl, hb⟩
      have H9 := Lib.hid hb
      clear hb
      go_wp2_with fail
      go_ret
      exact ⟨rfl, H9.out⟩
    · obtain ⟨nb, hnb⟩ : ∃ nb, (min 4096 (max 0 K)).toNat = nb := ⟨_, rfl⟩
      have HNB := Lib.hid hnb
      clear hnb
      go_wp2_with fail
      refine (dnew (DSt.start w) K).mono ?_
      rintro e w1 ⟨p0, rfl, h, hb⟩
      rw [HNB.out] at h
      have H1 := Lib.hid (show DSt w [(p0, DS.new nb)] (fun _ => False) w1 from h)
      clear h hb
      go_wp2_with fail
      refine (rnew_any w1 K).mono ?_
      rintro e w2 ⟨G, q, rfl, h1, h2, hb⟩
      rw [HNB.out] at h1
      have H2 := Lib.hid (LSd.start H1.out h1 h2 hb)
      clear h1 h2 hb
      go_wp2_with fail
      go_loopw [5, 7] (fun d i wr => ∃ (j p : Nat) (s : DS), d = .pointer (some ⟨p, 0, none⟩) ∧ i = .int .i64 (j : Int) ∧ j ≤ n ∧ LSd w [(p, s)] q s (fun _ => False) wr ∧ s.steps ≤ j) (fun _ i _ => n - (intOf i).toNat)
      case atStart => exact ⟨0, p0, DS.new nb, rfl, rfl, Nat.zero_le _, H2.out, Nat.le_refl _⟩
      case round =>
        obtain ⟨j, p, s, rfl, rfl, hj, hL, hst⟩ := hrel
        obtain ⟨w3, rfl⟩ : ∃ w3 : World, w3 = wr := ⟨_, rfl⟩
        have H3 := Lib.hid (And.intro hL hst)
        clear hL hst H1 H2
        have hj0 : (0 : Int) ≤ (j : Int) := by omega
        by_cases hjn : j < n
        · have hj1 : (j : Int) < (n : Int) := by omega
          obtain ⟨x, hx⟩ : ∃ x, l[j]? = some x := ⟨l[j]'(by rw [HL.out.1]; exact hjn), List.getElem?_eq_getElem _⟩
          obtain ⟨b, off, rfl, hbl, hc0, hc1, hc2, hc3⟩ := Open.dcall_at HL.out.2.1 hx
          have hgd := HL.out.2.2 x (List.mem_of_getElem? hx)
          have hx300 := HS1.out.2 x (List.mem_of_getElem? hx)
          obtain ⟨xm, hxm⟩ : ∃ xm, x.b.length = xm := ⟨_, rfl⟩
          rw [hxm] at hc3
          have hcw : ∀ w', Below w.heap.size w w' → w'.cell? ⟨b, off + j * 4, none⟩ = some (.int .u8 (x.k.toNat : Int)) ∧ w'.cell? ⟨b, off + j * 4 + 1, none⟩ = some (.int .i64 x.i) ∧ w'.cell? ⟨b, off + j * 4 + 2, none⟩ = some (.int .i64 x.n) ∧ w'.cell? ⟨b, off + j * 4 + 3, none⟩ = some (.slice x.A xm x.c) := fun w' hb => ⟨(hb.cell (p := ⟨b, _, none⟩) hbl).trans hc0, (hb.cell (p := ⟨b, _, none⟩) hbl).trans hc1, (hb.cell (p := ⟨b, _, none⟩) hbl).trans hc2, (hb.cell (p := ⟨b, _, none⟩) hbl).trans hc3⟩
          have hk3 := (hcw w3 H3.out.1.below).1
          have HCW := Lib.hid hcw
          have HX := Lib.hid (And.intro hgd (And.intro hx300 hxm))
          have hk0 : (0 : Int) ≤ (x.k.toNat : Int) := by omega
          clear hx hc0 hc1 hc2 hc3 hcw hgd hx300 hxm hbl
          by_cases hk6 : x.k.toNat = 6
          · have hk6e : ((x.k.toNat : Int) == 6) = true := by simp [hk6]
            clear hk6
            go_wp2_with fail
            refine (lcopy H3.out.1 (i := 0) rfl).mono ?_
            rintro e w4 ⟨p2, rfl, h⟩
            have H4 := Lib.hid (show LSd w [(p, s), (p2, s)] q s (fun _ => False) _ from LSd.keep h (nextA (Mem.start w4) (.cells #[.int .u8 108, .int .u8 111, .int .u8 115, .int .u8 116] 5 (4, 5))))
            have hk4 := (HCW.out w4 (LSd.below h)).2.1
            have HLT := Lib.hid (lit4 w4)
            clear h hk3
            go_wp2_with fail
            refine (lwrite H4.out (i := 0) rfl x.i HX.out.1.1 _ [108, 111, 115, 116] 4 4 rfl HLT.out (by have := H3.out.2; omega)).mono ?_
            rintro e w5 ⟨rfl, h, f⟩
            obtain ⟨s5, hs5⟩ : ∃ s5, (s.write x.i [108, 111, 115, 116]).1 = s5 := ⟨_, rfl⟩
            rw [hs5] at h
            have hst5 : s5.steps ≤ s.steps + 1 := by rw [← hs5]; exact DS.write_steps s _ _
            have H5 := Lib.hid (And.intro (show LSd w [(p, s5), (p2, s)] q s (fun _ => False) w5 from h) hst5)
            clear h f HLT hk4 hs5 hst5
            go_wp2_with fail
            refine (lsync H5.out.1 (i := 0) rfl (by have h1 := H5.out.2; have h2 := H3.out.2; omega)).mono ?_
            rintro e w6 ⟨rfl, h, f⟩
            obtain ⟨s6, hs6⟩ : ∃ s6, s5.sync.1 = s6 := ⟨_, rfl⟩
            rw [hs6] at h
            have H6 := Lib.hid (show LSd w [(p, s6), (p2, s)] q s (fun _ => False) w6 from h)
            clear h f hs6
            go_wp2_with fail
            refine (lcrash H6.out (i := 0) rfl).mono ?_
            rintro e w7 ⟨rfl, h, f⟩
            have H7 := Lib.hid (show LSd w [(p, s6.crash), (p2, s)] q s (fun _ => False) _ from LSd.keep h (nextA (Mem.start w7) (.cells #[.int .u8 9, .int .u8 255] 5)))
            have HLT := Lib.hid (lit92 w7)
            clear h f
            go_wp2_with fail
            refine (lon H7.out (i := 0) rfl _ [9, 255] 2 2 rfl HLT.out (by decide)).mono ?_
            rintro e w9 ⟨rfl, h, f⟩
            have H9 := Lib.hid (LSd.pick (show LSd w [(p, s6.crash.on [9, 255]), (p2, s)] q s (fun _ => False) w9 from h) (i := 1) rfl)
            clear h f HLT
            have HT := Lib.hid (HCW.out w9.drew (nextN H9.out.below 1))
            have HDO := Lib.hid (does_any (w := w9.drew) (H9.out.keep (nextN (Mem.start w9) 1)) (by have := H3.out.2; omega) x HX.out.1.2.2.1 HX.out.2.1 HX.out.1.1 HX.out.1.2.1 xm HX.out.2.2)
            go_wp2_with fail
            --HELD ca14a
            refine wp_region_noPanic ?_
            refine wp_heldG (fun w' => w'.cell? ⟨b, off + j * 4, none⟩ = some (.int .u8 (x.k.toNat : Int)) ∧ w'.cell? ⟨b, off + j * 4 + 1, none⟩ = some (.int .i64 x.i) ∧ w'.cell? ⟨b, off + j * 4 + 2, none⟩ = some (.int .i64 x.n) ∧ w'.cell? ⟨b, off + j * 4 + 3, none⟩ = some (.slice x.A xm x.c)) [] (by kernel_rfl) ?hs0 ?rg0
            case hs0 =>
              exact HT.out
            case rg0 =>
            intro hHeld
            refine wpAnyG_pure (i := 0) (oi := { dst := some 52, op := Op.move (Operand.tmp 5), type := 28, pos := _, after := #[], guard := none }) (v := ?_) rfl (by kernel_rfl) (by kernel_rfl) (by kernel_rfl) (by kernel_rfl) (fun _ _ _ h => h) (Or.inl ⟨by rfl, ?_⟩) (fun _ => by assumption) ?_
            rotate_left
            · intro w hSw
              try dsimp only at hSw
              go_simp
              try with_reducible rfl
            try simp only [Act.put, List.setIfInBounds_toArray, List.set_cons_zero, List.set_cons_succ]
            refine wpAnyG_pure (i := 1) (oi := { dst := some 53, op := Op.move (Operand.tmp 6), type := 49, pos := _, after := #[], guard := none }) (v := ?_) rfl (by kernel_rfl) (by kernel_rfl) (by kernel_rfl) (by kernel_rfl) (fun _ _ _ h => h) (Or.inl ⟨by rfl, ?_⟩) (fun _ => by assumption) ?_
            rotate_left
            · intro w hSw
              try dsimp only at hSw
              go_simp
              try with_reducible rfl
            try simp only [Act.put, List.setIfInBounds_toArray, List.set_cons_zero, List.set_cons_succ]
            refine wpAnyG_pure (i := 2) (oi := { dst := some 54, op := Op.move (Operand.tmp 1), type := 47, pos := _, after := #[], guard := none }) (v := ?_) rfl (by kernel_rfl) (by kernel_rfl) (by kernel_rfl) (by kernel_rfl) (fun _ _ _ h => h) (Or.inl ⟨by rfl, ?_⟩) (fun _ => by assumption) ?_
            rotate_left
            · intro w hSw
              try dsimp only at hSw
              go_simp
              try with_reducible rfl
            try simp only [Act.put, List.setIfInBounds_toArray, List.set_cons_zero, List.set_cons_succ]
            refine wpAnyG_pure (i := 3) (oi := { dst := some 55, op := Op.move (Operand.tmp 7), type := 3, pos := _, after := #[], guard := none }) (v := ?_) rfl (by kernel_rfl) (by kernel_rfl) (by kernel_rfl) (by kernel_rfl) (fun _ _ _ h => h) (Or.inl ⟨by rfl, ?_⟩) (fun _ => by assumption) ?_
            rotate_left
            · intro w hSw
              try dsimp only at hSw
              go_simp
              try with_reducible rfl
            try simp only [Act.put, List.setIfInBounds_toArray, List.set_cons_zero, List.set_cons_succ]
            refine wpAnyG_pure (i := 4) (oi := { dst := some 56, op := Op.indexAddr 47 (Operand.tmp 54) (Operand.tmp 55), type := 0, pos := _, after := #[{ on := 2, ground := Ground.data }, { on := 3, ground := Ground.data }], guard := none }) (v := ?_) rfl (by kernel_rfl) (by kernel_rfl) (by kernel_rfl) (by kernel_rfl) (fun _ _ _ h => h) (Or.inl ⟨by rfl, ?_⟩) (fun _ => by assumption) ?_
            rotate_left
            · intro w hSw
              try dsimp only at hSw
              go_simp
              try with_reducible rfl
            try simp only [Act.put, List.setIfInBounds_toArray, List.set_cons_zero, List.set_cons_succ]
            refine wpAnyG_take (i := 5) (oi := { dst := some 57, op := Op.load 52 (Operand.tmp 56), type := 52, pos := _, after := #[{ on := 4, ground := Ground.data }], guard := none }) (v := ?_) rfl (by kernel_rfl) (by kernel_rfl) (by kernel_rfl) (by kernel_rfl) (fun _ _ _ h => h) (Or.inl ⟨by rfl, ?_⟩) (by assumption) ?_
            rotate_left
            · intro w hSw
              try dsimp only at hSw
              go_simp
              try with_reducible rfl
            try simp only [Act.put, List.setIfInBounds_toArray, List.set_cons_zero, List.set_cons_succ]
            refine wpAnyG_one (i := 6) (o := { dst := some 58, op := Op.call { callee := Callee.value (Operand.func 27), args := #[Operand.tmp 52, Operand.tmp 53, Operand.tmp 57], argTypes := #[28, 49, 52] }, type := 4, pos := _, after := #[{ on := 0, ground := Ground.data }, { on := 1, ground := Ground.data }, { on := 5, ground := Ground.data }], guard := none }) (by kernel_rfl) rfl (fun K hK => ?_)
            go_simp
            refine HDO.out.mono ?_
            rintro e w8 ⟨rfl, t, h8, hst8⟩
            obtain ⟨Aq, cq, cq0, cq1, cq3⟩ := h8.cells
            have H8 := Lib.hid (And.intro h8 (And.intro hst8 (And.intro cq0 (And.intro cq1 cq3))))
            clear h8 hst8 cq0 cq1 cq3
            try dsimp only
            refine hK.out _ _ ?_ (fun hHeld => ?_)
            · intro _
              try dsimp only
              exact HCW.out _ H8.out.1.below
            clear hK K
            try simp only [Act.put, List.setIfInBounds_toArray, List.set_cons_zero, List.set_cons_succ]
            have hHeld := hHeld (by kernel_rfl)
            refine wpAnyG_more (T' := fun w' => (w'.cell? ⟨b, off + j * 4, none⟩ = some (.int .u8 (x.k.toNat : Int)) ∧ w'.cell? ⟨b, off + j * 4 + 1, none⟩ = some (.int .i64 x.i) ∧ w'.cell? ⟨b, off + j * 4 + 2, none⟩ = some (.int .i64 x.n) ∧ w'.cell? ⟨b, off + j * 4 + 3, none⟩ = some (.slice x.A xm x.c)) ∧ w'.cell? ⟨q, 0, none⟩ = some (.slice Aq t.n cq) ∧ w'.cell? ⟨q, 1, none⟩ = some (.int .i64 (t.steps : Int)) ∧ w'.cell? ⟨q, 3, none⟩ = some (.bool t.off)) (fun _ h => h.1) _ _ _ _ ?_
            have hHeld := And.intro hHeld H8.out.2.2
            refine wpAnyG_pure (i := 7) (oi := { dst := some 59, op := Op.unOp UnOp.not 4 (Operand.tmp 58), type := 4, pos := _, after := #[{ on := 6, ground := Ground.data }], guard := none }) (v := ?_) rfl (by kernel_rfl) (by kernel_rfl) (by kernel_rfl) (by kernel_rfl) (fun _ _ _ h => h) (Or.inl ⟨by rfl, ?_⟩) (fun _ => by assumption) ?_
            rotate_left
            · intro w hSw
              try dsimp only at hSw
              go_simp
              try with_reducible rfl
            try simp only [Act.put, List.setIfInBounds_toArray, List.set_cons_zero, List.set_cons_succ]
            refine wpAnyG_pure (i := 8) (oi := { dst := some 60, op := Op.move (Operand.tmp 59), type := 4, pos := _, after := #[{ on := 7, ground := Ground.data }, { on := 6, ground := Ground.chain }], guard := none }) (v := ?_) rfl (by kernel_rfl) (by kernel_rfl) (by kernel_rfl) (by kernel_rfl) (fun _ _ _ h => h) (Or.inl ⟨by rfl, ?_⟩) (fun _ => by assumption) ?_
            rotate_left
            · intro w hSw
              try dsimp only at hSw
              go_simp
              try with_reducible rfl
            try simp only [Act.put, List.setIfInBounds_toArray, List.set_cons_zero, List.set_cons_succ]
            refine wpAnyG_pure (i := 9) (oi := { dst := some 61, op := Op.move (Operand.tmp 5), type := 28, pos := _, after := #[{ on := 8, ground := Ground.guard }], guard := some (8, false) }) (v := ?_) rfl (by kernel_rfl) (by kernel_rfl) (by kernel_rfl) (by kernel_rfl) (fun _ _ _ h => h) (Or.inl ⟨by rfl, ?_⟩) (fun _ => by assumption) ?_
            rotate_left
            · intro w hSw
              try dsimp only at hSw
              go_simp
              try with_reducible rfl
            try simp only [Act.put, List.setIfInBounds_toArray, List.set_cons_zero, List.set_cons_succ]
            refine wpAnyG_pure (i := 11) (oi := { dst := some 63, op := Op.move (Operand.tmp 6), type := 49, pos := _, after := #[{ on := 8, ground := Ground.guard }], guard := some (8, false) }) (v := ?_) rfl (by kernel_rfl) (by kernel_rfl) (by kernel_rfl) (by kernel_rfl) (fun _ _ _ h => h) (Or.inl ⟨by rfl, ?_⟩) (fun _ => by assumption) ?_
            rotate_left
            · intro w hSw
              try dsimp only at hSw
              go_simp
              try with_reducible rfl
            try simp only [Act.put, List.setIfInBounds_toArray, List.set_cons_zero, List.set_cons_succ]
            refine wpAnyG_pure (i := 12) (oi := { dst := some 64, op := Op.nilCheck (Operand.tmp 63), type := 0, pos := _, after := #[{ on := 11, ground := Ground.data }, { on := 8, ground := Ground.guard }], guard := some (8, false) }) (v := ?_) rfl (by kernel_rfl) (by kernel_rfl) (by kernel_rfl) (by kernel_rfl) (fun _ _ _ h => h) (Or.inl ⟨by rfl, ?_⟩) (fun _ => by assumption) ?_
            rotate_left
            · intro w hSw
              try dsimp only at hSw
              go_simp
              try with_reducible rfl
            try simp only [Act.put, List.setIfInBounds_toArray, List.set_cons_zero, List.set_cons_succ]
            refine wpAnyG_pure (i := 13) (oi := { dst := some 65, op := Op.fieldAddr 56 (Operand.tmp 64) 0, type := 0, pos := _, after := #[{ on := 12, ground := Ground.data }, { on := 8, ground := Ground.guard }], guard := some (8, false) }) (v := ?_) rfl (by kernel_rfl) (by kernel_rfl) (by kernel_rfl) (by kernel_rfl) (fun _ _ _ h => h) (Or.inl ⟨by rfl, ?_⟩) (fun _ => by assumption) ?_
            rotate_left
            · intro w hSw
              try dsimp only at hSw
              go_simp
              try with_reducible rfl
            try simp only [Act.put, List.setIfInBounds_toArray, List.set_cons_zero, List.set_cons_succ]
            refine wpAnyG_take (i := 14) (oi := { dst := some 66, op := Op.load 54 (Operand.tmp 65), type := 54, pos := _, after := #[{ on := 13, ground := Ground.data }, { on := 8, ground := Ground.guard }], guard := some (8, false) }) (v := ?_) rfl (by kernel_rfl) (by kernel_rfl) (by kernel_rfl) (by kernel_rfl) (fun _ _ _ h => h) (Or.inl ⟨by rfl, ?_⟩) (by assumption) ?_
            rotate_left
            · intro w hSw
              try dsimp only at hSw
              go_simp
              try with_reducible rfl
            try simp only [Act.put, List.setIfInBounds_toArray, List.set_cons_zero, List.set_cons_succ]
            refine wpAnyG_pure (i := 15) (oi := { dst := some 67, op := Op.call { callee := Callee.builtin Builtin.len, args := #[Operand.tmp 66], argTypes := #[54] }, type := 3, pos := _, after := #[{ on := 14, ground := Ground.data }, { on := 8, ground := Ground.guard }], guard := some (8, false) }) (v := ?_) rfl (by kernel_rfl) (by kernel_rfl) (by kernel_rfl) (by kernel_rfl) (fun _ _ _ h => h) (Or.inl ⟨by rfl, ?_⟩) (fun _ => by assumption) ?_
            rotate_left
            · intro w hSw
              try dsimp only at hSw
              go_simp
              try with_reducible rfl
            try simp only [Act.put, List.setIfInBounds_toArray, List.set_cons_zero, List.set_cons_succ]
            refine wpAnyG_one (i := 10) (o := { dst := some 62, op := Op.call { callee := Callee.value (Operand.func 28), args := #[Operand.tmp 61], argTypes := #[28] }, type := 3, pos := _, after := #[{ on := 9, ground := Ground.data }, { on := 8, ground := Ground.chain }, { on := 8, ground := Ground.guard }], guard := some (8, false) }) (by kernel_rfl) rfl (fun K hK => ?_)
            go_simp
            refine (lblocks H8.out.1 (i := 0) rfl).mono ?_
            rintro e w' ⟨rfl, rfl⟩
            try dsimp only
            refine hK.out _ _ ?_ (fun hHeld => ?_)
            · intro _
              try dsimp only
              exact hHeld
            clear hK K
            try simp only [Act.put, List.setIfInBounds_toArray, List.set_cons_zero, List.set_cons_succ]
            have hHeld := hHeld (by kernel_rfl)
            refine wpAnyG_pure (i := 16) (oi := { dst := some 68, op := Op.binOp BinOp.neq 3 (Operand.tmp 62) (Operand.tmp 67) 3, type := 4, pos := _, after := #[{ on := 10, ground := Ground.data }, { on := 15, ground := Ground.data }, { on := 8, ground := Ground.guard }], guard := some (8, false) }) (v := ?_) rfl (by kernel_rfl) (by kernel_rfl) (by kernel_rfl) (by kernel_rfl) (fun _ _ _ h => h) (Or.inl ⟨by rfl, ?_⟩) (fun _ => by assumption) ?_
            rotate_left
            · intro w hSw
              try dsimp only at hSw
              go_simp
              try with_reducible rfl
            try simp only [Act.put, List.setIfInBounds_toArray, List.set_cons_zero, List.set_cons_succ]
            refine wpAnyG_pure (i := 17) (oi := { dst := some 69, op := Op.pick (Operand.tmp 60) (Operand.const (Value.bool true)) (Operand.tmp 68), type := 4, pos := _, after := #[{ on := 8, ground := Ground.data }, { on := 16, ground := Ground.data }], guard := none }) (v := ?_) rfl (by kernel_rfl) (by kernel_rfl) (by kernel_rfl) (by kernel_rfl) (fun _ _ _ h => h) (Or.inl ⟨by rfl, ?_⟩) (fun _ => by assumption) ?_
            rotate_left
            · intro w hSw
              try dsimp only at hSw
              go_simp
              try with_reducible rfl
            try simp only [Act.put, List.setIfInBounds_toArray, List.set_cons_zero, List.set_cons_succ]
            refine wpAnyG_pure (i := 18) (oi := { dst := some 70, op := Op.move (Operand.tmp 69), type := 4, pos := _, after := #[{ on := 17, ground := Ground.data }, { on := 10, ground := Ground.chain }], guard := none }) (v := ?_) rfl (by kernel_rfl) (by kernel_rfl) (by kernel_rfl) (by kernel_rfl) (fun _ _ _ h => h) (Or.inl ⟨by rfl, ?_⟩) (fun _ => by assumption) ?_
            rotate_left
            · intro w hSw
              try dsimp only at hSw
              go_simp
              try with_reducible rfl
            try simp only [Act.put, List.setIfInBounds_toArray, List.set_cons_zero, List.set_cons_succ]
            refine wpAnyG_pure (i := 19) (oi := { dst := some 71, op := Op.move (Operand.tmp 5), type := 28, pos := _, after := #[{ on := 18, ground := Ground.guard }], guard := some (18, false) }) (v := ?_) rfl (by kernel_rfl) (by kernel_rfl) (by kernel_rfl) (by kernel_rfl) (fun _ _ _ h => h) (Or.inl ⟨by rfl, ?_⟩) (fun _ => by assumption) ?_
            rotate_left
            · intro w hSw
              try dsimp only at hSw
              go_simp
              try with_reducible rfl
            try simp only [Act.put, List.setIfInBounds_toArray, List.set_cons_zero, List.set_cons_succ]
            refine wpAnyG_pure (i := 21) (oi := { dst := some 73, op := Op.move (Operand.tmp 6), type := 49, pos := _, after := #[{ on := 18, ground := Ground.guard }], guard := some (18, false) }) (v := ?_) rfl (by kernel_rfl) (by kernel_rfl) (by kernel_rfl) (by kernel_rfl) (fun _ _ _ h => h) (Or.inl ⟨by rfl, ?_⟩) (fun _ => by assumption) ?_
            rotate_left
            · intro w hSw
              try dsimp only at hSw
              go_simp
              try with_reducible rfl
            try simp only [Act.put, List.setIfInBounds_toArray, List.set_cons_zero, List.set_cons_succ]
            refine wpAnyG_pure (i := 22) (oi := { dst := some 74, op := Op.nilCheck (Operand.tmp 73), type := 0, pos := _, after := #[{ on := 21, ground := Ground.data }, { on := 18, ground := Ground.guard }], guard := some (18, false) }) (v := ?_) rfl (by kernel_rfl) (by kernel_rfl) (by kernel_rfl) (by kernel_rfl) (fun _ _ _ h => h) (Or.inl ⟨by rfl, ?_⟩) (fun _ => by assumption) ?_
            rotate_left
            · intro w hSw
              try dsimp only at hSw
              go_simp
              try with_reducible rfl
            try simp only [Act.put, List.setIfInBounds_toArray, List.set_cons_zero, List.set_cons_succ]
            refine wpAnyG_pure (i := 23) (oi := { dst := some 75, op := Op.fieldAddr 56 (Operand.tmp 74) 1, type := 0, pos := _, after := #[{ on := 22, ground := Ground.data }, { on := 18, ground := Ground.guard }], guard := some (18, false) }) (v := ?_) rfl (by kernel_rfl) (by kernel_rfl) (by kernel_rfl) (by kernel_rfl) (fun _ _ _ h => h) (Or.inl ⟨by rfl, ?_⟩) (fun _ => by assumption) ?_
            rotate_left
            · intro w hSw
              try dsimp only at hSw
              go_simp
              try with_reducible rfl
            try simp only [Act.put, List.setIfInBounds_toArray, List.set_cons_zero, List.set_cons_succ]
            refine wpAnyG_take (i := 24) (oi := { dst := some 76, op := Op.load 2 (Operand.tmp 75), type := 2, pos := _, after := #[{ on := 23, ground := Ground.data }, { on := 18, ground := Ground.guard }], guard := some (18, false) }) (v := ?_) rfl (by kernel_rfl) (by kernel_rfl) (by kernel_rfl) (by kernel_rfl) (fun _ _ _ h => h) (Or.inl ⟨by rfl, ?_⟩) (by assumption) ?_
            rotate_left
            · intro w hSw
              try dsimp only at hSw
              go_simp
              try with_reducible rfl
            try simp only [Act.put, List.setIfInBounds_toArray, List.set_cons_zero, List.set_cons_succ]
            refine wpAnyG_one (i := 20) (o := { dst := some 72, op := Op.call { callee := Callee.value (Operand.func 24), args := #[Operand.tmp 71], argTypes := #[28] }, type := 2, pos := _, after := #[{ on := 19, ground := Ground.data }, { on := 18, ground := Ground.chain }, { on := 18, ground := Ground.guard }], guard := some (18, false) }) (by kernel_rfl) rfl (fun K hK => ?_)
            go_simp
            refine (lsteps H8.out.1 (i := 0) rfl).mono ?_
            rintro e w' ⟨rfl, rfl⟩
            try dsimp only
            refine hK.out _ _ ?_ (fun hHeld => ?_)
            · intro _
              try dsimp only
              exact hHeld
            clear hK K
            try simp only [Act.put, List.setIfInBounds_toArray, List.set_cons_zero, List.set_cons_succ]
            have hHeld := hHeld (by kernel_rfl)
            refine wpAnyG_pure (i := 25) (oi := { dst := some 77, op := Op.binOp BinOp.neq 2 (Operand.tmp 72) (Operand.tmp 76) 2, type := 4, pos := _, after := #[{ on := 20, ground := Ground.data }, { on := 24, ground := Ground.data }, { on := 18, ground := Ground.guard }], guard := some (18, false) }) (v := ?_) rfl (by kernel_rfl) (by kernel_rfl) (by kernel_rfl) (by kernel_rfl) (fun _ _ _ h => h) (Or.inl ⟨by rfl, ?_⟩) (fun _ => by assumption) ?_
            rotate_left
            · intro w hSw
              try dsimp only at hSw
              go_simp
              try with_reducible rfl
            try simp only [Act.put, List.setIfInBounds_toArray, List.set_cons_zero, List.set_cons_succ]
            refine wpAnyG_pure (i := 26) (oi := { dst := some 78, op := Op.pick (Operand.tmp 70) (Operand.const (Value.bool true)) (Operand.tmp 77), type := 4, pos := _, after := #[{ on := 18, ground := Ground.data }, { on := 25, ground := Ground.data }], guard := none }) (v := ?_) rfl (by kernel_rfl) (by kernel_rfl) (by kernel_rfl) (by kernel_rfl) (fun _ _ _ h => h) (Or.inl ⟨by rfl, ?_⟩) (fun _ => by assumption) ?_
            rotate_left
            · intro w hSw
              try dsimp only at hSw
              go_simp
              try with_reducible rfl
            try simp only [Act.put, List.setIfInBounds_toArray, List.set_cons_zero, List.set_cons_succ]
            refine wpAnyG_pure (i := 27) (oi := { dst := some 79, op := Op.move (Operand.tmp 78), type := 4, pos := _, after := #[{ on := 26, ground := Ground.data }, { on := 20, ground := Ground.chain }], guard := none }) (v := ?_) rfl (by kernel_rfl) (by kernel_rfl) (by kernel_rfl) (by kernel_rfl) (fun _ _ _ h => h) (Or.inl ⟨by rfl, ?_⟩) (fun _ => by assumption) ?_
            rotate_left
            · intro w hSw
              try dsimp only at hSw
              go_simp
              try with_reducible rfl
            try simp only [Act.put, List.setIfInBounds_toArray, List.set_cons_zero, List.set_cons_succ]
            refine wpAnyG_pure (i := 28) (oi := { dst := some 80, op := Op.move (Operand.tmp 5), type := 28, pos := _, after := #[{ on := 27, ground := Ground.guard }], guard := some (27, false) }) (v := ?_) rfl (by kernel_rfl) (by kernel_rfl) (by kernel_rfl) (by kernel_rfl) (fun _ _ _ h => h) (Or.inl ⟨by rfl, ?_⟩) (fun _ => by assumption) ?_
            rotate_left
            · intro w hSw
              try dsimp only at hSw
              go_simp
              try with_reducible rfl
            try simp only [Act.put, List.setIfInBounds_toArray, List.set_cons_zero, List.set_cons_succ]
            refine wpAnyG_pure (i := 30) (oi := { dst := some 82, op := Op.move (Operand.tmp 6), type := 49, pos := _, after := #[{ on := 27, ground := Ground.guard }], guard := some (27, false) }) (v := ?_) rfl (by kernel_rfl) (by kernel_rfl) (by kernel_rfl) (by kernel_rfl) (fun _ _ _ h => h) (Or.inl ⟨by rfl, ?_⟩) (fun _ => by assumption) ?_
            rotate_left
            · intro w hSw
              try dsimp only at hSw
              go_simp
              try with_reducible rfl
            try simp only [Act.put, List.setIfInBounds_toArray, List.set_cons_zero, List.set_cons_succ]
            refine wpAnyG_one (i := 29) (o := { dst := some 81, op := Op.call { callee := Callee.value (Operand.func 18), args := #[Operand.tmp 80], argTypes := #[28] }, type := 3, pos := _, after := #[{ on := 28, ground := Ground.data }, { on := 27, ground := Ground.chain }, { on := 27, ground := Ground.guard }], guard := some (27, false) }) (by kernel_rfl) rfl (fun K hK => ?_)
            go_simp
            refine (lopen H8.out.1 (i := 0) rfl).mono ?_
            rintro e w' ⟨rfl, rfl⟩
            try dsimp only
            refine hK.out _ _ ?_ (fun hHeld => ?_)
            · intro _
              try dsimp only
              exact hHeld
            clear hK K
            try simp only [Act.put, List.setIfInBounds_toArray, List.set_cons_zero, List.set_cons_succ]
            have hHeld := hHeld (by kernel_rfl)
            refine wpAnyG_one (i := 31) (o := { dst := some 83, op := Op.call { callee := Callee.value (Operand.func 29), args := #[Operand.tmp 82], argTypes := #[49] }, type := 3, pos := _, after := #[{ on := 30, ground := Ground.data }, { on := 29, ground := Ground.chain }, { on := 27, ground := Ground.guard }], guard := some (27, false) }) (by kernel_rfl) rfl (fun K hK => ?_)
            go_simp
            refine (lropen H8.out.1).mono ?_
            rintro e w' ⟨rfl, rfl⟩
            try dsimp only
            refine hK.out _ _ ?_ (fun hHeld => ?_)
            · intro _
              try dsimp only
              exact hHeld
            clear hK K
            try simp only [Act.put, List.setIfInBounds_toArray, List.set_cons_zero, List.set_cons_succ]
            have hHeld := hHeld (by kernel_rfl)
            refine wpAnyG_pure (i := 32) (oi := { dst := some 84, op := Op.binOp BinOp.neq 3 (Operand.tmp 81) (Operand.tmp 83) 3, type := 4, pos := _, after := #[{ on := 29, ground := Ground.data }, { on := 31, ground := Ground.data }, { on := 27, ground := Ground.guard }], guard := some (27, false) }) (v := ?_) rfl (by kernel_rfl) (by kernel_rfl) (by kernel_rfl) (by kernel_rfl) (fun _ _ _ h => h) (Or.inl ⟨by rfl, ?_⟩) (fun _ => by assumption) ?_
            rotate_left
            · intro w hSw
              try dsimp only at hSw
              go_simp
              try with_reducible rfl
            try simp only [Act.put, List.setIfInBounds_toArray, List.set_cons_zero, List.set_cons_succ]
            refine wpAnyG_pure (i := 33) (oi := { dst := some 85, op := Op.pick (Operand.tmp 79) (Operand.const (Value.bool true)) (Operand.tmp 84), type := 4, pos := _, after := #[{ on := 27, ground := Ground.data }, { on := 32, ground := Ground.data }], guard := none }) (v := ?_) rfl (by kernel_rfl) (by kernel_rfl) (by kernel_rfl) (by kernel_rfl) (fun _ _ _ h => h) (Or.inl ⟨by rfl, ?_⟩) (fun _ => by assumption) ?_
            rotate_left
            · intro w hSw
              try dsimp only at hSw
              go_simp
              try with_reducible rfl
            try simp only [Act.put, List.setIfInBounds_toArray, List.set_cons_zero, List.set_cons_succ]
            refine wpAnyG_pure (i := 34) (oi := { dst := some 86, op := Op.move (Operand.tmp 85), type := 4, pos := _, after := #[{ on := 33, ground := Ground.data }, { on := 31, ground := Ground.chain }], guard := none }) (v := ?_) rfl (by kernel_rfl) (by kernel_rfl) (by kernel_rfl) (by kernel_rfl) (fun _ _ _ h => h) (Or.inl ⟨by rfl, ?_⟩) (fun _ => by assumption) ?_
            rotate_left
            · intro w hSw
              try dsimp only at hSw
              go_simp
              try with_reducible rfl
            try simp only [Act.put, List.setIfInBounds_toArray, List.set_cons_zero, List.set_cons_succ]
            refine wpAnyG_pure (i := 35) (oi := { dst := some 87, op := Op.move (Operand.tmp 5), type := 28, pos := _, after := #[{ on := 34, ground := Ground.guard }], guard := some (34, false) }) (v := ?_) rfl (by kernel_rfl) (by kernel_rfl) (by kernel_rfl) (by kernel_rfl) (fun _ _ _ h => h) (Or.inl ⟨by rfl, ?_⟩) (fun _ => by assumption) ?_
            rotate_left
            · intro w hSw
              try dsimp only at hSw
              go_simp
              try with_reducible rfl
            try simp only [Act.put, List.setIfInBounds_toArray, List.set_cons_zero, List.set_cons_succ]
            refine wpAnyG_pure (i := 37) (oi := { dst := some 89, op := Op.move (Operand.tmp 6), type := 49, pos := _, after := #[{ on := 34, ground := Ground.guard }], guard := some (34, false) }) (v := ?_) rfl (by kernel_rfl) (by kernel_rfl) (by kernel_rfl) (by kernel_rfl) (fun _ _ _ h => h) (Or.inl ⟨by rfl, ?_⟩) (fun _ => by assumption) ?_
            rotate_left
            · intro w hSw
              try dsimp only at hSw
              go_simp
              try with_reducible rfl
            try simp only [Act.put, List.setIfInBounds_toArray, List.set_cons_zero, List.set_cons_succ]
            refine wpAnyG_pure (i := 38) (oi := { dst := some 90, op := Op.nilCheck (Operand.tmp 89), type := 0, pos := _, after := #[{ on := 37, ground := Ground.data }, { on := 34, ground := Ground.guard }], guard := some (34, false) }) (v := ?_) rfl (by kernel_rfl) (by kernel_rfl) (by kernel_rfl) (by kernel_rfl) (fun _ _ _ h => h) (Or.inl ⟨by rfl, ?_⟩) (fun _ => by assumption) ?_
            rotate_left
            · intro w hSw
              try dsimp only at hSw
              go_simp
              try with_reducible rfl
            try simp only [Act.put, List.setIfInBounds_toArray, List.set_cons_zero, List.set_cons_succ]
            refine wpAnyG_pure (i := 39) (oi := { dst := some 91, op := Op.fieldAddr 56 (Operand.tmp 90) 3, type := 0, pos := _, after := #[{ on := 38, ground := Ground.data }, { on := 34, ground := Ground.guard }], guard := some (34, false) }) (v := ?_) rfl (by kernel_rfl) (by kernel_rfl) (by kernel_rfl) (by kernel_rfl) (fun _ _ _ h => h) (Or.inl ⟨by rfl, ?_⟩) (fun _ => by assumption) ?_
            rotate_left
            · intro w hSw
              try dsimp only at hSw
              go_simp
              try with_reducible rfl
            try simp only [Act.put, List.setIfInBounds_toArray, List.set_cons_zero, List.set_cons_succ]
            refine wpAnyG_take (i := 40) (oi := { dst := some 92, op := Op.load 4 (Operand.tmp 91), type := 4, pos := _, after := #[{ on := 39, ground := Ground.data }, { on := 34, ground := Ground.guard }], guard := some (34, false) }) (v := ?_) rfl (by kernel_rfl) (by kernel_rfl) (by kernel_rfl) (by kernel_rfl) (fun _ _ _ h => h) (Or.inl ⟨by rfl, ?_⟩) (by assumption) ?_
            rotate_left
            · intro w hSw
              try dsimp only at hSw
              go_simp
              try with_reducible rfl
            try simp only [Act.put, List.setIfInBounds_toArray, List.set_cons_zero, List.set_cons_succ]
            refine wpAnyG_one (i := 36) (o := { dst := some 88, op := Op.call { callee := Callee.value (Operand.func 19), args := #[Operand.tmp 87], argTypes := #[28] }, type := 4, pos := _, after := #[{ on := 35, ground := Ground.data }, { on := 34, ground := Ground.chain }, { on := 34, ground := Ground.guard }], guard := some (34, false) }) (by kernel_rfl) rfl (fun K hK => ?_)
            go_simp
            refine (loff H8.out.1 (i := 0) rfl).mono ?_
            rintro e w' ⟨rfl, rfl⟩
            try dsimp only
            refine hK.out _ _ ?_ (fun hHeld => ?_)
            · intro _
              try dsimp only
              exact hHeld
            clear hK K
            try simp only [Act.put, List.setIfInBounds_toArray, List.set_cons_zero, List.set_cons_succ]
            have hHeld := hHeld (by kernel_rfl)
            refine wpAnyG_pure (i := 41) (oi := { dst := some 93, op := Op.binOp BinOp.neq 4 (Operand.tmp 88) (Operand.tmp 92) 4, type := 4, pos := _, after := #[{ on := 36, ground := Ground.data }, { on := 40, ground := Ground.data }, { on := 34, ground := Ground.guard }], guard := some (34, false) }) (v := ?_) rfl (by kernel_rfl) (by kernel_rfl) (by kernel_rfl) (by kernel_rfl) (fun _ _ _ h => h) (Or.inl ⟨by rfl, ?_⟩) (fun _ => by assumption) ?_
            rotate_left
            · intro w hSw
              try dsimp only at hSw
              go_simp
              try with_reducible rfl
            try simp only [Act.put, List.setIfInBounds_toArray, List.set_cons_zero, List.set_cons_succ]
            refine wpAnyG_pure (i := 42) (oi := { dst := some 94, op := Op.pick (Operand.tmp 86) (Operand.const (Value.bool true)) (Operand.tmp 93), type := 4, pos := _, after := #[{ on := 34, ground := Ground.data }, { on := 41, ground := Ground.data }], guard := none }) (v := ?_) rfl (by kernel_rfl) (by kernel_rfl) (by kernel_rfl) (by kernel_rfl) (fun _ _ _ h => h) (Or.inl ⟨by rfl, ?_⟩) (fun _ => by assumption) ?_
            rotate_left
            · intro w hSw
              try dsimp only at hSw
              go_simp
              try with_reducible rfl
            try simp only [Act.put, List.setIfInBounds_toArray, List.set_cons_zero, List.set_cons_succ]
            refine wpAnyG_done (by kernel_rfl) ?_ _
            refine NoPanic.normal ?_
            --END ca14a
            go_wp2_with fail
            go_roundw
            case rel => exact ⟨j + 1, p2, t, rfl, rfl, hjn, H8.out.1, by have h1 := H8.out.2.1; have h2 := H3.out.2; omega⟩
            case measure => simp [intOf]; omega
          · have hk6e : ((x.k.toNat : Int) == 6) = false := by simp; omega
            have HT := Lib.hid (HCW.out w3.drew (nextN H3.out.1.below 1))
            have HDO := Lib.hid (does_any (w := w3.drew) (H3.out.1.keep (nextN (Mem.start w3) 1)) (by have := H3.out.2; omega) x HX.out.1.2.2.1 HX.out.2.1 HX.out.1.1 HX.out.1.2.1 xm HX.out.2.2)
            go_wp2_with fail
            clear hk3
            --HELD ca14b
            refine wp_region_noPanic ?_
            refine wp_heldG (fun w' => w'.cell? ⟨b, off + j * 4, none⟩ = some (.int .u8 (x.k.toNat : Int)) ∧ w'.cell? ⟨b, off + j * 4 + 1, none⟩ = some (.int .i64 x.i) ∧ w'.cell? ⟨b, off + j * 4 + 2, none⟩ = some (.int .i64 x.n) ∧ w'.cell? ⟨b, off + j * 4 + 3, none⟩ = some (.slice x.A xm x.c)) [] (by kernel_rfl) ?hs0 ?rg0
            case hs0 =>
              exact HT.out
            case rg0 =>
            intro hHeld
            refine wpAnyG_pure (i := 0) (oi := { dst := some 52, op := Op.move (Operand.tmp 5), type := 28, pos := _, after := #[], guard := none }) (v := ?_) rfl (by kernel_rfl) (by kernel_rfl) (by kernel_rfl) (by kernel_rfl) (fun _ _ _ h => h) (Or.inl ⟨by rfl, ?_⟩) (fun _ => by assumption) ?_
            rotate_left
            · intro w hSw
              try dsimp only at hSw
              go_simp
              try with_reducible rfl
            try simp only [Act.put, List.setIfInBounds_toArray, List.set_cons_zero, List.set_cons_succ]
            refine wpAnyG_pure (i := 1) (oi := { dst := some 53, op := Op.move (Operand.tmp 6), type := 49, pos := _, after := #[], guard := none }) (v := ?_) rfl (by kernel_rfl) (by kernel_rfl) (by kernel_rfl) (by kernel_rfl) (fun _ _ _ h => h) (Or.inl ⟨by rfl, ?_⟩) (fun _ => by assumption) ?_
            rotate_left
            · intro w hSw
              try dsimp only at hSw
              go_simp
              try with_reducible rfl
            try simp only [Act.put, List.setIfInBounds_toArray, List.set_cons_zero, List.set_cons_succ]
            refine wpAnyG_pure (i := 2) (oi := { dst := some 54, op := Op.move (Operand.tmp 1), type := 47, pos := _, after := #[], guard := none }) (v := ?_) rfl (by kernel_rfl) (by kernel_rfl) (by kernel_rfl) (by kernel_rfl) (fun _ _ _ h => h) (Or.inl ⟨by rfl, ?_⟩) (fun _ => by assumption) ?_
            rotate_left
            · intro w hSw
              try dsimp only at hSw
              go_simp
              try with_reducible rfl
            try simp only [Act.put, List.setIfInBounds_toArray, List.set_cons_zero, List.set_cons_succ]
            refine wpAnyG_pure (i := 3) (oi := { dst := some 55, op := Op.move (Operand.tmp 7), type := 3, pos := _, after := #[], guard := none }) (v := ?_) rfl (by kernel_rfl) (by kernel_rfl) (by kernel_rfl) (by kernel_rfl) (fun _ _ _ h => h) (Or.inl ⟨by rfl, ?_⟩) (fun _ => by assumption) ?_
            rotate_left
            · intro w hSw
              try dsimp only at hSw
              go_simp
              try with_reducible rfl
            try simp only [Act.put, List.setIfInBounds_toArray, List.set_cons_zero, List.set_cons_succ]
            refine wpAnyG_pure (i := 4) (oi := { dst := some 56, op := Op.indexAddr 47 (Operand.tmp 54) (Operand.tmp 55), type := 0, pos := _, after := #[{ on := 2, ground := Ground.data }, { on := 3, ground := Ground.data }], guard := none }) (v := ?_) rfl (by kernel_rfl) (by kernel_rfl) (by kernel_rfl) (by kernel_rfl) (fun _ _ _ h => h) (Or.inl ⟨by rfl, ?_⟩) (fun _ => by assumption) ?_
            rotate_left
            · intro w hSw
              try dsimp only at hSw
              go_simp
              try with_reducible rfl
            try simp only [Act.put, List.setIfInBounds_toArray, List.set_cons_zero, List.set_cons_succ]
            refine wpAnyG_take (i := 5) (oi := { dst := some 57, op := Op.load 52 (Operand.tmp 56), type := 52, pos := _, after := #[{ on := 4, ground := Ground.data }], guard := none }) (v := ?_) rfl (by kernel_rfl) (by kernel_rfl) (by kernel_rfl) (by kernel_rfl) (fun _ _ _ h => h) (Or.inl ⟨by rfl, ?_⟩) (by assumption) ?_
            rotate_left
            · intro w hSw
              try dsimp only at hSw
              go_simp
              try with_reducible rfl
            try simp only [Act.put, List.setIfInBounds_toArray, List.set_cons_zero, List.set_cons_succ]
            refine wpAnyG_one (i := 6) (o := { dst := some 58, op := Op.call { callee := Callee.value (Operand.func 27), args := #[Operand.tmp 52, Operand.tmp 53, Operand.tmp 57], argTypes := #[28, 49, 52] }, type := 4, pos := _, after := #[{ on := 0, ground := Ground.data }, { on := 1, ground := Ground.data }, { on := 5, ground := Ground.data }], guard := none }) (by kernel_rfl) rfl (fun K hK => ?_)
            go_simp
            refine HDO.out.mono ?_
            rintro e w8 ⟨rfl, t, h8, hst8⟩
            obtain ⟨Aq, cq, cq0, cq1, cq3⟩ := h8.cells
            have H8 := Lib.hid (And.intro h8 (And.intro hst8 (And.intro cq0 (And.intro cq1 cq3))))
            clear h8 hst8 cq0 cq1 cq3
            try dsimp only
            refine hK.out _ _ ?_ (fun hHeld => ?_)
            · intro _
              try dsimp only
              exact HCW.out _ H8.out.1.below
            clear hK K
            try simp only [Act.put, List.setIfInBounds_toArray, List.set_cons_zero, List.set_cons_succ]
            have hHeld := hHeld (by kernel_rfl)
            refine wpAnyG_more (T' := fun w' => (w'.cell? ⟨b, off + j * 4, none⟩ = some (.int .u8 (x.k.toNat : Int)) ∧ w'.cell? ⟨b, off + j * 4 + 1, none⟩ = some (.int .i64 x.i) ∧ w'.cell? ⟨b, off + j * 4 + 2, none⟩ = some (.int .i64 x.n) ∧ w'.cell? ⟨b, off + j * 4 + 3, none⟩ = some (.slice x.A xm x.c)) ∧ w'.cell? ⟨q, 0, none⟩ = some (.slice Aq t.n cq) ∧ w'.cell? ⟨q, 1, none⟩ = some (.int .i64 (t.steps : Int)) ∧ w'.cell? ⟨q, 3, none⟩ = some (.bool t.off)) (fun _ h => h.1) _ _ _ _ ?_
            have hHeld := And.intro hHeld H8.out.2.2
            refine wpAnyG_pure (i := 7) (oi := { dst := some 59, op := Op.unOp UnOp.not 4 (Operand.tmp 58), type := 4, pos := _, after := #[{ on := 6, ground := Ground.data }], guard := none }) (v := ?_) rfl (by kernel_rfl) (by kernel_rfl) (by kernel_rfl) (by kernel_rfl) (fun _ _ _ h => h) (Or.inl ⟨by rfl, ?_⟩) (fun _ => by assumption) ?_
            rotate_left
            · intro w hSw
              try dsimp only at hSw
              go_simp
              try with_reducible rfl
            try simp only [Act.put, List.setIfInBounds_toArray, List.set_cons_zero, List.set_cons_succ]
            refine wpAnyG_pure (i := 8) (oi := { dst := some 60, op := Op.move (Operand.tmp 59), type := 4, pos := _, after := #[{ on := 7, ground := Ground.data }, { on := 6, ground := Ground.chain }], guard := none }) (v := ?_) rfl (by kernel_rfl) (by kernel_rfl) (by kernel_rfl) (by kernel_rfl) (fun _ _ _ h => h) (Or.inl ⟨by rfl, ?_⟩) (fun _ => by assumption) ?_
            rotate_left
            · intro w hSw
              try dsimp only at hSw
              go_simp
              try with_reducible rfl
            try simp only [Act.put, List.setIfInBounds_toArray, List.set_cons_zero, List.set_cons_succ]
            refine wpAnyG_pure (i := 9) (oi := { dst := some 61, op := Op.move (Operand.tmp 5), type := 28, pos := _, after := #[{ on := 8, ground := Ground.guard }], guard := some (8, false) }) (v := ?_) rfl (by kernel_rfl) (by kernel_rfl) (by kernel_rfl) (by kernel_rfl) (fun _ _ _ h => h) (Or.inl ⟨by rfl, ?_⟩) (fun _ => by assumption) ?_
            rotate_left
            · intro w hSw
              try dsimp only at hSw
              go_simp
              try with_reducible rfl
            try simp only [Act.put, List.setIfInBounds_toArray, List.set_cons_zero, List.set_cons_succ]
            refine wpAnyG_pure (i := 11) (oi := { dst := some 63, op := Op.move (Operand.tmp 6), type := 49, pos := _, after := #[{ on := 8, ground := Ground.guard }], guard := some (8, false) }) (v := ?_) rfl (by kernel_rfl) (by kernel_rfl) (by kernel_rfl) (by kernel_rfl) (fun _ _ _ h => h) (Or.inl ⟨by rfl, ?_⟩) (fun _ => by assumption) ?_
            rotate_left
            · intro w hSw
              try dsimp only at hSw
              go_simp
              try with_reducible rfl
            try simp only [Act.put, List.setIfInBounds_toArray, List.set_cons_zero, List.set_cons_succ]
            refine wpAnyG_pure (i := 12) (oi := { dst := some 64, op := Op.nilCheck (Operand.tmp 63), type := 0, pos := _, after := #[{ on := 11, ground := Ground.data }, { on := 8, ground := Ground.guard }], guard := some (8, false) }) (v := ?_) rfl (by kernel_rfl) (by kernel_rfl) (by kernel_rfl) (by kernel_rfl) (fun _ _ _ h => h) (Or.inl ⟨by rfl, ?_⟩) (fun _ => by assumption) ?_
            rotate_left
            · intro w hSw
              try dsimp only at hSw
              go_simp
              try with_reducible rfl
            try simp only [Act.put, List.setIfInBounds_toArray, List.set_cons_zero, List.set_cons_succ]
            refine wpAnyG_pure (i := 13) (oi := { dst := some 65, op := Op.fieldAddr 56 (Operand.tmp 64) 0, type := 0, pos := _, after := #[{ on := 12, ground := Ground.data }, { on := 8, ground := Ground.guard }], guard := some (8, false) }) (v := ?_) rfl (by kernel_rfl) (by kernel_rfl) (by kernel_rfl) (by kernel_rfl) (fun _ _ _ h => h) (Or.inl ⟨by rfl, ?_⟩) (fun _ => by assumption) ?_
            rotate_left
            · intro w hSw
              try dsimp only at hSw
              go_simp
              try with_reducible rfl
            try simp only [Act.put, List.setIfInBounds_toArray, List.set_cons_zero, List.set_cons_succ]
            refine wpAnyG_take (i := 14) (oi := { dst := some 66, op := Op.load 54 (Operand.tmp 65), type := 54, pos := _, after := #[{ on := 13, ground := Ground.data }, { on := 8, ground := Ground.guard }], guard := some (8, false) }) (v := ?_) rfl (by kernel_rfl) (by kernel_rfl) (by kernel_rfl) (by kernel_rfl) (fun _ _ _ h => h) (Or.inl ⟨by rfl, ?_⟩) (by assumption) ?_
            rotate_left
            · intro w hSw
              try dsimp only at hSw
              go_simp
              try with_reducible rfl
            try simp only [Act.put, List.setIfInBounds_toArray, List.set_cons_zero, List.set_cons_succ]
            refine wpAnyG_pure (i := 15) (oi := { dst := some 67, op := Op.call { callee := Callee.builtin Builtin.len, args := #[Operand.tmp 66], argTypes := #[54] }, type := 3, pos := _, after := #[{ on := 14, ground := Ground.data }, { on := 8, ground := Ground.guard }], guard := some (8, false) }) (v := ?_) rfl (by kernel_rfl) (by kernel_rfl) (by kernel_rfl) (by kernel_rfl) (fun _ _ _ h => h) (Or.inl ⟨by rfl, ?_⟩) (fun _ => by assumption) ?_
            rotate_left
            · intro w hSw
              try dsimp only at hSw
              go_simp
              try with_reducible rfl
            try simp only [Act.put, List.setIfInBounds_toArray, List.set_cons_zero, List.set_cons_succ]
            refine wpAnyG_one (i := 10) (o := { dst := some 62, op := Op.call { callee := Callee.value (Operand.func 28), args := #[Operand.tmp 61], argTypes := #[28] }, type := 3, pos := _, after := #[{ on := 9, ground := Ground.data }, { on := 8, ground := Ground.chain }, { on := 8, ground := Ground.guard }], guard := some (8, false) }) (by kernel_rfl) rfl (fun K hK => ?_)
            go_simp
            refine (lblocks H8.out.1 (i := 0) rfl).mono ?_
            rintro e w' ⟨rfl, rfl⟩
            try dsimp only
            refine hK.out _ _ ?_ (fun hHeld => ?_)
            · intro _
              try dsimp only
              exact hHeld
            clear hK K
            try simp only [Act.put, List.setIfInBounds_toArray, List.set_cons_zero, List.set_cons_succ]
            have hHeld := hHeld (by kernel_rfl)
            refine wpAnyG_pure (i := 16) (oi := { dst := some 68, op := Op.binOp BinOp.neq 3 (Operand.tmp 62) (Operand.tmp 67) 3, type := 4, pos := _, after := #[{ on := 10, ground := Ground.data }, { on := 15, ground := Ground.data }, { on := 8, ground := Ground.guard }], guard := some (8, false) }) (v := ?_) rfl (by kernel_rfl) (by kernel_rfl) (by kernel_rfl) (by kernel_rfl) (fun _ _ _ h => h) (Or.inl ⟨by rfl, ?_⟩) (fun _ => by assumption) ?_
            rotate_left
            · intro w hSw
              try dsimp only at hSw
              go_simp
              try with_reducible rfl
            try simp only [Act.put, List.setIfInBounds_toArray, List.set_cons_zero, List.set_cons_succ]
            refine wpAnyG_pure (i := 17) (oi := { dst := some 69, op := Op.pick (Operand.tmp 60) (Operand.const (Value.bool true)) (Operand.tmp 68), type := 4, pos := _, after := #[{ on := 8, ground := Ground.data }, { on := 16, ground := Ground.data }], guard := none }) (v := ?_) rfl (by kernel_rfl) (by kernel_rfl) (by kernel_rfl) (by kernel_rfl) (fun _ _ _ h => h) (Or.inl ⟨by rfl, ?_⟩) (fun _ => by assumption) ?_
            rotate_left
            · intro w hSw
              try dsimp only at hSw
              go_simp
              try with_reducible rfl
            try simp only [Act.put, List.setIfInBounds_toArray, List.set_cons_zero, List.set_cons_succ]
            refine wpAnyG_pure (i := 18) (oi := { dst := some 70, op := Op.move (Operand.tmp 69), type := 4, pos := _, after := #[{ on := 17, ground := Ground.data }, { on := 10, ground := Ground.chain }], guard := none }) (v := ?_) rfl (by kernel_rfl) (by kernel_rfl) (by kernel_rfl) (by kernel_rfl) (fun _ _ _ h => h) (Or.inl ⟨by rfl, ?_⟩) (fun _ => by assumption) ?_
            rotate_left
            · intro w hSw
              try dsimp only at hSw
              go_simp
              try with_reducible rfl
            try simp only [Act.put, List.setIfInBounds_toArray, List.set_cons_zero, List.set_cons_succ]
            refine wpAnyG_pure (i := 19) (oi := { dst := some 71, op := Op.move (Operand.tmp 5), type := 28, pos := _, after := #[{ on := 18, ground := Ground.guard }], guard := some (18, false) }) (v := ?_) rfl (by kernel_rfl) (by kernel_rfl) (by kernel_rfl) (by kernel_rfl) (fun _ _ _ h => h) (Or.inl ⟨by rfl, ?_⟩) (fun _ => by assumption) ?_
            rotate_left
            · intro w hSw
              try dsimp only at hSw
              go_simp
              try with_reducible rfl
            try simp only [Act.put, List.setIfInBounds_toArray, List.set_cons_zero, List.set_cons_succ]
            refine wpAnyG_pure (i := 21) (oi := { dst := some 73, op := Op.move (Operand.tmp 6), type := 49, pos := _, after := #[{ on := 18, ground := Ground.guard }], guard := some (18, false) }) (v := ?_) rfl (by kernel_rfl) (by kernel_rfl) (by kernel_rfl) (by kernel_rfl) (fun _ _ _ h => h) (Or.inl ⟨by rfl, ?_⟩) (fun _ => by assumption) ?_
            rotate_left
            · intro w hSw
              try dsimp only at hSw
              go_simp
              try with_reducible rfl
            try simp only [Act.put, List.setIfInBounds_toArray, List.set_cons_zero, List.set_cons_succ]
            refine wpAnyG_pure (i := 22) (oi := { dst := some 74, op := Op.nilCheck (Operand.tmp 73), type := 0, pos := _, after := #[{ on := 21, ground := Ground.data }, { on := 18, ground := Ground.guard }], guard := some (18, false) }) (v := ?_) rfl (by kernel_rfl) (by kernel_rfl) (by kernel_rfl) (by kernel_rfl) (fun _ _ _ h => h) (Or.inl ⟨by rfl, ?_⟩) (fun _ => by assumption) ?_
            rotate_left
            · intro w hSw
              try dsimp only at hSw
              go_simp
              try with_reducible rfl
            try simp only [Act.put, List.setIfInBounds_toArray, List.set_cons_zero, List.set_cons_succ]
            refine wpAnyG_pure (i := 23) (oi := { dst := some 75, op := Op.fieldAddr 56 (Operand.tmp 74) 1, type := 0, pos := _, after := #[{ on := 22, ground := Ground.data }, { on := 18, ground := Ground.guard }], guard := some (18, false) }) (v := ?_) rfl (by kernel_rfl) (by kernel_rfl) (by kernel_rfl) (by kernel_rfl) (fun _ _ _ h => h) (Or.inl ⟨by rfl, ?_⟩) (fun _ => by assumption) ?_
            rotate_left
            · intro w hSw
              try dsimp only at hSw
              go_simp
              try with_reducible rfl
            try simp only [Act.put, List.setIfInBounds_toArray, List.set_cons_zero, List.set_cons_succ]
            refine wpAnyG_take (i := 24) (oi := { dst := some 76, op := Op.load 2 (Operand.tmp 75), type := 2, pos := _, after := #[{ on := 23, ground := Ground.data }, { on := 18, ground := Ground.guard }], guard := some (18, false) }) (v := ?_) rfl (by kernel_rfl) (by kernel_rfl) (by kernel_rfl) (by kernel_rfl) (fun _ _ _ h => h) (Or.inl ⟨by rfl, ?_⟩) (by assumption) ?_
            rotate_left
            · intro w hSw
              try dsimp only at hSw
              go_simp
              try with_reducible rfl
            try simp only [Act.put, List.setIfInBounds_toArray, List.set_cons_zero, List.set_cons_succ]
            refine wpAnyG_one (i := 20) (o := { dst := some 72, op := Op.call { callee := Callee.value (Operand.func 24), args := #[Operand.tmp 71], argTypes := #[28] }, type := 2, pos := _, after := #[{ on := 19, ground := Ground.data }, { on := 18, ground := Ground.chain }, { on := 18, ground := Ground.guard }], guard := some (18, false) }) (by kernel_rfl) rfl (fun K hK => ?_)
            go_simp
            refine (lsteps H8.out.1 (i := 0) rfl).mono ?_
            rintro e w' ⟨rfl, rfl⟩
            try dsimp only
            refine hK.out _ _ ?_ (fun hHeld => ?_)
            · intro _
              try dsimp only
              exact hHeld
            clear hK K
            try simp only [Act.put, List.setIfInBounds_toArray, List.set_cons_zero, List.set_cons_succ]
            have hHeld := hHeld (by kernel_rfl)
            refine wpAnyG_pure (i := 25) (oi := { dst := some 77, op := Op.binOp BinOp.neq 2 (Operand.tmp 72) (Operand.tmp 76) 2, type := 4, pos := _, after := #[{ on := 20, ground := Ground.data }, { on := 24, ground := Ground.data }, { on := 18, ground := Ground.guard }], guard := some (18, false) }) (v := ?_) rfl (by kernel_rfl) (by kernel_rfl) (by kernel_rfl) (by kernel_rfl) (fun _ _ _ h => h) (Or.inl ⟨by rfl, ?_⟩) (fun _ => by assumption) ?_
            rotate_left
            · intro w hSw
              try dsimp only at hSw
              go_simp
              try with_reducible rfl
            try simp only [Act.put, List.setIfInBounds_toArray, List.set_cons_zero, List.set_cons_succ]
            refine wpAnyG_pure (i := 26) (oi := { dst := some 78, op := Op.pick (Operand.tmp 70) (Operand.const (Value.bool true)) (Operand.tmp 77), type := 4, pos := _, after := #[{ on := 18, ground := Ground.data }, { on := 25, ground := Ground.data }], guard := none }) (v := ?_) rfl (by kernel_rfl) (by kernel_rfl) (by kernel_rfl) (by kernel_rfl) (fun _ _ _ h => h) (Or.inl ⟨by rfl, ?_⟩) (fun _ => by assumption) ?_
            rotate_left
            · intro w hSw
              try dsimp only at hSw
              go_simp
              try with_reducible rfl
            try simp only [Act.put, List.setIfInBounds_toArray, List.set_cons_zero, List.set_cons_succ]
            refine wpAnyG_pure (i := 27) (oi := { dst := some 79, op := Op.move (Operand.tmp 78), type := 4, pos := _, after := #[{ on := 26, ground := Ground.data }, { on := 20, ground := Ground.chain }], guard := none }) (v := ?_) rfl (by kernel_rfl) (by kernel_rfl) (by kernel_rfl) (by kernel_rfl) (fun _ _ _ h => h) (Or.inl ⟨by rfl, ?_⟩) (fun _ => by assumption) ?_
            rotate_left
            · intro w hSw
              try dsimp only at hSw
              go_simp
              try with_reducible rfl
            try simp only [Act.put, List.setIfInBounds_toArray, List.set_cons_zero, List.set_cons_succ]
            refine wpAnyG_pure (i := 28) (oi := { dst := some 80, op := Op.move (Operand.tmp 5), type := 28, pos := _, after := #[{ on := 27, ground := Ground.guard }], guard := some (27, false) }) (v := ?_) rfl (by kernel_rfl) (by kernel_rfl) (by kernel_rfl) (by kernel_rfl) (fun _ _ _ h => h) (Or.inl ⟨by rfl, ?_⟩) (fun _ => by assumption) ?_
            rotate_left
            · intro w hSw
              try dsimp only at hSw
              go_simp
              try with_reducible rfl
            try simp only [Act.put, List.setIfInBounds_toArray, List.set_cons_zero, List.set_cons_succ]
            refine wpAnyG_pure (i := 30) (oi := { dst := some 82, op := Op.move (Operand.tmp 6), type := 49, pos := _, after := #[{ on := 27, ground := Ground.guard }], guard := some (27, false) }) (v := ?_) rfl (by kernel_rfl) (by kernel_rfl) (by kernel_rfl) (by kernel_rfl) (fun _ _ _ h => h) (Or.inl ⟨by rfl, ?_⟩) (fun _ => by assumption) ?_
            rotate_left
            · intro w hSw
              try dsimp only at hSw
              go_simp
              try with_reducible rfl
            try simp only [Act.put, List.setIfInBounds_toArray, List.set_cons_zero, List.set_cons_succ]
            refine wpAnyG_one (i := 29) (o := { dst := some 81, op := Op.call { callee := Callee.value (Operand.func 18), args := #[Operand.tmp 80], argTypes := #[28] }, type := 3, pos := _, after := #[{ on := 28, ground := Ground.data }, { on := 27, ground := Ground.chain }, { on := 27, ground := Ground.guard }], guard := some (27, false) }) (by kernel_rfl) rfl (fun K hK => ?_)
            go_simp
            refine (lopen H8.out.1 (i := 0) rfl).mono ?_
            rintro e w' ⟨rfl, rfl⟩
            try dsimp only
            refine hK.out _ _ ?_ (fun hHeld => ?_)
            · intro _
              try dsimp only
              exact hHeld
            clear hK K
            try simp only [Act.put, List.setIfInBounds_toArray, List.set_cons_zero, List.set_cons_succ]
            have hHeld := hHeld (by kernel_rfl)
            refine wpAnyG_one (i := 31) (o := { dst := some 83, op := Op.call { callee := Callee.value (Operand.func 29), args := #[Operand.tmp 82], argTypes := #[49] }, type := 3, pos := _, after := #[{ on := 30, ground := Ground.data }, { on := 29, ground := Ground.chain }, { on := 27, ground := Ground.guard }], guard := some (27, false) }) (by kernel_rfl) rfl (fun K hK => ?_)
            go_simp
            refine (lropen H8.out.1).mono ?_
            rintro e w' ⟨rfl, rfl⟩
            try dsimp only
            refine hK.out _ _ ?_ (fun hHeld => ?_)
            · intro _
              try dsimp only
              exact hHeld
            clear hK K
            try simp only [Act.put, List.setIfInBounds_toArray, List.set_cons_zero, List.set_cons_succ]
            have hHeld := hHeld (by kernel_rfl)
            refine wpAnyG_pure (i := 32) (oi := { dst := some 84, op := Op.binOp BinOp.neq 3 (Operand.tmp 81) (Operand.tmp 83) 3, type := 4, pos := _, after := #[{ on := 29, ground := Ground.data }, { on := 31, ground := Ground.data }, { on := 27, ground := Ground.guard }], guard := some (27, false) }) (v := ?_) rfl (by kernel_rfl) (by kernel_rfl) (by kernel_rfl) (by kernel_rfl) (fun _ _ _ h => h) (Or.inl ⟨by rfl, ?_⟩) (fun _ => by assumption) ?_
            rotate_left
            · intro w hSw
              try dsimp only at hSw
              go_simp
              try with_reducible rfl
            try simp only [Act.put, List.setIfInBounds_toArray, List.set_cons_zero, List.set_cons_succ]
            refine wpAnyG_pure (i := 33) (oi := { dst := some 85, op := Op.pick (Operand.tmp 79) (Operand.const (Value.bool true)) (Operand.tmp 84), type := 4, pos := _, after := #[{ on := 27, ground := Ground.data }, { on := 32, ground := Ground.data }], guard := none }) (v := ?_) rfl (by kernel_rfl) (by kernel_rfl) (by kernel_rfl) (by kernel_rfl) (fun _ _ _ h => h) (Or.inl ⟨by rfl, ?_⟩) (fun _ => by assumption) ?_
            rotate_left
            · intro w hSw
              try dsimp only at hSw
              go_simp
              try with_reducible rfl
            try simp only [Act.put, List.setIfInBounds_toArray, List.set_cons_zero, List.set_cons_succ]
            refine wpAnyG_pure (i := 34) (oi := { dst := some 86, op := Op.move (Operand.tmp 85), type := 4, pos := _, after := #[{ on := 33, ground := Ground.data }, { on := 31, ground := Ground.chain }], guard := none }) (v := ?_) rfl (by kernel_rfl) (by kernel_rfl) (by kernel_rfl) (by kernel_rfl) (fun _ _ _ h => h) (Or.inl ⟨by rfl, ?_⟩) (fun _ => by assumption) ?_
            rotate_left
            · intro w hSw
              try dsimp only at hSw
              go_simp
              try with_reducible rfl
            try simp only [Act.put, List.setIfInBounds_toArray, List.set_cons_zero, List.set_cons_succ]
            refine wpAnyG_pure (i := 35) (oi := { dst := some 87, op := Op.move (Operand.tmp 5), type := 28, pos := _, after := #[{ on := 34, ground := Ground.guard }], guard := some (34, false) }) (v := ?_) rfl (by kernel_rfl) (by kernel_rfl) (by kernel_rfl) (by kernel_rfl) (fun _ _ _ h => h) (Or.inl ⟨by rfl, ?_⟩) (fun _ => by assumption) ?_
            rotate_left
            · intro w hSw
              try dsimp only at hSw
              go_simp
              try with_reducible rfl
            try simp only [Act.put, List.setIfInBounds_toArray, List.set_cons_zero, List.set_cons_succ]
            refine wpAnyG_pure (i := 37) (oi := { dst := some 89, op := Op.move (Operand.tmp 6), type := 49, pos := _, after := #[{ on := 34, ground := Ground.guard }], guard := some (34, false) }) (v := ?_) rfl (by kernel_rfl) (by kernel_rfl) (by kernel_rfl) (by kernel_rfl) (fun _ _ _ h => h) (Or.inl ⟨by rfl, ?_⟩) (fun _ => by assumption) ?_
            rotate_left
            · intro w hSw
              try dsimp only at hSw
              go_simp
              try with_reducible rfl
            try simp only [Act.put, List.setIfInBounds_toArray, List.set_cons_zero, List.set_cons_succ]
            refine wpAnyG_pure (i := 38) (oi := { dst := some 90, op := Op.nilCheck (Operand.tmp 89), type := 0, pos := _, after := #[{ on := 37, ground := Ground.data }, { on := 34, ground := Ground.guard }], guard := some (34, false) }) (v := ?_) rfl (by kernel_rfl) (by kernel_rfl) (by kernel_rfl) (by kernel_rfl) (fun _ _ _ h => h) (Or.inl ⟨by rfl, ?_⟩) (fun _ => by assumption) ?_
            rotate_left
            · intro w hSw
              try dsimp only at hSw
              go_simp
              try with_reducible rfl
            try simp only [Act.put, List.setIfInBounds_toArray, List.set_cons_zero, List.set_cons_succ]
            refine wpAnyG_pure (i := 39) (oi := { dst := some 91, op := Op.fieldAddr 56 (Operand.tmp 90) 3, type := 0, pos := _, after := #[{ on := 38, ground := Ground.data }, { on := 34, ground := Ground.guard }], guard := some (34, false) }) (v := ?_) rfl (by kernel_rfl) (by kernel_rfl) (by kernel_rfl) (by kernel_rfl) (fun _ _ _ h => h) (Or.inl ⟨by rfl, ?_⟩) (fun _ => by assumption) ?_
            rotate_left
            · intro w hSw
              try dsimp only at hSw
              go_simp
              try with_reducible rfl
            try simp only [Act.put, List.setIfInBounds_toArray, List.set_cons_zero, List.set_cons_succ]
            refine wpAnyG_take (i := 40) (oi := { dst := some 92, op := Op.load 4 (Operand.tmp 91), type := 4, pos := _, after := #[{ on := 39, ground := Ground.data }, { on := 34, ground := Ground.guard }], guard := some (34, false) }) (v := ?_) rfl (by kernel_rfl) (by kernel_rfl) (by kernel_rfl) (by kernel_rfl) (fun _ _ _ h => h) (Or.inl ⟨by rfl, ?_⟩) (by assumption) ?_
            rotate_left
            · intro w hSw
              try dsimp only at hSw
              go_simp
              try with_reducible rfl
            try simp only [Act.put, List.setIfInBounds_toArray, List.set_cons_zero, List.set_cons_succ]
            refine wpAnyG_one (i := 36) (o := { dst := some 88, op := Op.call { callee := Callee.value (Operand.func 19), args := #[Operand.tmp 87], argTypes := #[28] }, type := 4, pos := _, after := #[{ on := 35, ground := Ground.data }, { on := 34, ground := Ground.chain }, { on := 34, ground := Ground.guard }], guard := some (34, false) }) (by kernel_rfl) rfl (fun K hK => ?_)
            go_simp
            refine (loff H8.out.1 (i := 0) rfl).mono ?_
            rintro e w' ⟨rfl, rfl⟩
            try dsimp only
            refine hK.out _ _ ?_ (fun hHeld => ?_)
            · intro _
              try dsimp only
              exact hHeld
            clear hK K
            try simp only [Act.put, List.setIfInBounds_toArray, List.set_cons_zero, List.set_cons_succ]
            have hHeld := hHeld (by kernel_rfl)
            refine wpAnyG_pure (i := 41) (oi := { dst := some 93, op := Op.binOp BinOp.neq 4 (Operand.tmp 88) (Operand.tmp 92) 4, type := 4, pos := _, after := #[{ on := 36, ground := Ground.data }, { on := 40, ground := Ground.data }, { on := 34, ground := Ground.guard }], guard := some (34, false) }) (v := ?_) rfl (by kernel_rfl) (by kernel_rfl) (by kernel_rfl) (by kernel_rfl) (fun _ _ _ h => h) (Or.inl ⟨by rfl, ?_⟩) (fun _ => by assumption) ?_
            rotate_left
            · intro w hSw
              try dsimp only at hSw
              go_simp
              try with_reducible rfl
            try simp only [Act.put, List.setIfInBounds_toArray, List.set_cons_zero, List.set_cons_succ]
            refine wpAnyG_pure (i := 42) (oi := { dst := some 94, op := Op.pick (Operand.tmp 86) (Operand.const (Value.bool true)) (Operand.tmp 93), type := 4, pos := _, after := #[{ on := 34, ground := Ground.data }, { on := 41, ground := Ground.data }], guard := none }) (v := ?_) rfl (by kernel_rfl) (by kernel_rfl) (by kernel_rfl) (by kernel_rfl) (fun _ _ _ h => h) (Or.inl ⟨by rfl, ?_⟩) (fun _ => by assumption) ?_
            rotate_left
            · intro w hSw
              try dsimp only at hSw
              go_simp
              try with_reducible rfl
            try simp only [Act.put, List.setIfInBounds_toArray, List.set_cons_zero, List.set_cons_succ]
            refine wpAnyG_done (by kernel_rfl) ?_ _
            refine NoPanic.normal ?_
            --END ca14b
            go_wp2_with fail
            go_roundw
            case rel => exact ⟨j + 1, p, t, rfl, rfl, hjn, H8.out.1, by have h1 := H8.out.2.1; have h2 := H3.out.2; omega⟩
            case measure => simp [intOf]; omega
        · obtain rfl : n = j := by omega
          go_wp2_with fail
          refine (works_any w3).mono ?_
          rintro e w9 ⟨rfl, hb⟩
          have H9 := Lib.hid (next H3.out.1.below hb)
          clear hb
          go_wp2_with fail
          go_ret
          exact ⟨rfl, H9.out⟩
theorem calls_claim (w : World) (K : Int) (hK : -9223372036854775808 ≤ K ∧ K ≤ 9223372036854775807) (A : Option Addr) (l : List Open.OneD) (c : Nat) (hcl : l.length ≤ c) (hmx : c ≤ maxLen) (hF : Cells w w.heap.size A (l.flatMap Open.OneD.cells)) (hg : ∀ x ∈ l, x.good w) :
    Calls Try.prog 7 #[.int .i64 K, .slice A l.length c] w fun e w' => e = .returned (.bool true) ∧ Below w.heap.size w w' := calls_any w K A l c hcl hmx hF hg
end Go.Proofs.Ytjpelifafmkdpaa.DkW
