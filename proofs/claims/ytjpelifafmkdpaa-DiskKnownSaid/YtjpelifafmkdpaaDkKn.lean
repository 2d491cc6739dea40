/- The law DiskKnown: its walk. -/
import Derived.Test.YtjpelifafmkdpaaDkKm
namespace Go.Proofs.Ytjpelifafmkdpaa.DkW
open Go.RowKit Go.Shelf Mem Rng
set_option linter.unusedVariables false

theorem xor90 : ∀ k : Fin 256, bits BinOp.xor IntKind.u8 ((k.val : Nat) : Int) 90 = ((UInt8.ofNat (bits BinOp.xor IntKind.u8 ((k.val : Nat) : Int) 90).toNat).toNat : Int) := by decide +kernel
theorem xor90' (k : Nat) (hk : k < 256) : ∃ y : UInt8, bits BinOp.xor IntKind.u8 (k : Int) 90 = (y.toNat : Int) := ⟨_, xor90 ⟨k, hk⟩⟩
set_option maxRecDepth 100000 in
set_option maxHeartbeats 8000000 in
theorem known_any (w : World) : Calls Try.prog 8 #[] w fun e w' => e = .returned (.bool true) ∧ Below w.heap.size w w' := by
  have hcv := fun (w : World) (C : Array Value) (n c : Nat) => Lib.run_convert_bytes_const (P := Try.prog) w 23 5 C n c Try.underlying23 Try.underlying5
  obtain ⟨i0, hi0, hz0, hz1, hz2⟩ := info_parts u8inf
  have HI0 := Lib.hid (And.intro hi0 (And.intro hz0 (And.intro hz1 hz2)))
  clear hi0 hz0 hz1 hz2
  go_enter Try.func8, Try.ntmps8
  go_wp2_with ((with_reducible show wpList _ _ _ ((⟨some 10, _, _, _, _, _⟩ : Oper) :: _) _ _); refine wpList_mk rfl _ _ _ rfl 5 i0 1 (.int .u8 0) Try.underlying23 HI0.out.1 HI0.out.2.1 HI0.out.2.2.1 HI0.out.2.2.2 rfl 256 256 rfl rfl rfl (by decide) (by unfold maxLen; decide) 256 rfl ?_)
  go_loopw [2] (fun i wr => ∃ (k : Nat) (fl : List UInt8), i = .int .i64 (k : Int) ∧ k ≤ 256 ∧ fl.length = 256 ∧ Row wr w.heap.size (some ⟨w.heap.size, 0, none⟩) (fl.map u8v) ∧ Below w.heap.size w wr) (fun i _ => 256 - (intOf i).toNat)
  case atStart => exact ⟨0, List.replicate 256 0, rfl, Nat.zero_le _, List.length_replicate, by have := (own_mk w 256 (.int .u8 0) 5 (by unfold maxLen; decide) (Nat.le_refl _)).row; rwa [show List.replicate 256 (Value.int .u8 0) = (List.replicate 256 (0 : UInt8)).map u8v from by rw [List.map_replicate]; rfl] at this, nextA (Mem.start w) _⟩
  case round =>
    obtain ⟨k, fl, rfl, hk, hfl, hr, hb⟩ := hrel
    have HB := Lib.hid (And.intro hb hfl)
    clear hb
    have hk0 : (0 : Int) ≤ (k : Int) := by omega
    by_cases hk2 : k < 256
    · have hk1 : (k : Int) < 256 := by omega
      obtain ⟨g, e, _, _, hc, hz, hu⟩ := hr.at_ (k := k) (by rw [List.length_map, hfl]; exact hk2)
      injection e with e; injection e with e; subst e
      obtain ⟨v0, hv0⟩ : ∃ v0, (fl.map u8v)[k]'(by rw [List.length_map, hfl]; exact hk2) = v0 := ⟨_, rfl⟩
      rw [hv0] at hc
      have HU := Lib.hid hu
      clear hr hv0 hu
      go_wp2_with fail
      obtain ⟨y, hy⟩ := xor90' k hk2
      go_roundw
      case rel =>
        refine ⟨k + 1, fl.set k y, rfl, hk2, by rw [List.length_set]; exact HB.out.2, ?_, HB.out.1.setCell (Nat.le_refl _) _⟩
        rw [hy, List.map_set]
        exact HU.out _
      case measure => simp [intOf]; omega
    · obtain rfl : k = 256 := by omega
      rw [show ((256 : Nat) : Int) = (256 : Int) from rfl]
      have HR := Lib.hid hr
      clear hr hfl
      go_wp2_with fail
      obtain ⟨g, hg⟩ : ∃ g, w.heap.size = g := ⟨_, rfl⟩
      obtain ⟨ga, hga⟩ : ∃ ga, wr.heap.size = ga := ⟨_, rfl⟩
      obtain ⟨gp, hgp⟩ : ∃ gp, wr.heap.size + 1 = gp := ⟨_, rfl⟩
      obtain ⟨w4, hw4⟩ : ∃ w4 : World, w4 = (wr.alloc (.cells #[.int .u8 97, .int .u8 98] 5 (2, 3))).alloc (.cells #[.int .u8 0, .slice (some ⟨w.heap.size, 0, none⟩) 256 256, .int .u8 1, .slice (some ⟨wr.heap.size, 0, none⟩) 2 2, .int .u8 0, .slice none 0 0, .int .u8 3, .slice (some ⟨w.heap.size, 0, none⟩) 255 256] 27) := ⟨_, rfl⟩
      have HW4 := Lib.hid (show Below wr.heap.size wr w4 from by rw [hw4]; exact nextA (nextA (Mem.start wr) _) _)
      have HP := Lib.hid (show fl.length = 256 ∧ Bytes w4 w4.heap.size (some ⟨w.heap.size, 0, none⟩) fl ∧ Bytes w4 w4.heap.size (some ⟨wr.heap.size, 0, none⟩) [97, 98] ∧ Below w.heap.size w w4 ∧ Cells w4 w4.heap.size (some ⟨wr.heap.size + 1, 0, none⟩) ((KP w.heap.size wr.heap.size fl).flatMap Open.OneP.cells) from by
        refine ⟨HB.out.2, rowB (HR.out.keep HW4.out), ?_, next HB.out.1 HW4.out, ?_⟩
        · rw [hw4]
          exact (Bytes.below (lit2 wr 97 98) (nextA (Mem.start _) _)).up (nextA (Mem.start _) _).size
        · have hbk := Blk.new (wr.alloc (.cells #[.int .u8 97, .int .u8 98] 5 (2, 3))) 27 #[.int .u8 0, .slice (some ⟨w.heap.size, 0, none⟩) 256 256, .int .u8 1, .slice (some ⟨wr.heap.size, 0, none⟩) 2 2, .int .u8 0, .slice none 0 0, .int .u8 3, .slice (some ⟨w.heap.size, 0, none⟩) 255 256]
          rw [← hw4, World.size_alloc] at hbk
          exact cells_blk hbk (by unfold KP; simp [Open.OneP.cells, u8v, HB.out.2]))
      have HG := Lib.hid (And.intro hg (And.intro hga hgp))
      rw [hg, hgp, hga] at HP
      rw [← hw4]
      rw [hg, hgp, hga]
      clear hw4 hg hga hgp HR HB HW4
      go_loopw [4] (fun i wr => ∃ f : Nat, i = .int .i64 (f : Int) ∧ f ≤ 256 ∧ Below w4.heap.size w4 wr) (fun i _ => 256 - (intOf i).toNat)
      case atStart => exact ⟨0, rfl, Nat.zero_le _, Mem.start w4⟩
      case round =>
        obtain ⟨f, rfl, hf, hb⟩ := hrel
        obtain ⟨wf, rfl⟩ : ∃ wf : World, wf = wr := ⟨_, rfl⟩
        have HB4 := Lib.hid hb
        clear hb
        have hf0 : (0 : Int) ≤ (f : Int) := by omega
        by_cases hf2 : f < 256
        · have hf1 : (f : Int) < 256 := by omega
          obtain ⟨r4, hr4⟩ : ∃ r4, f % 4 = r4 := ⟨_, rfl⟩
          obtain ⟨f7, hf7⟩ : ∃ f7, f * 7 % 256 = f7 := ⟨_, rfl⟩
          have ht4 : (f : Int).tmod 4 = (r4 : Int) := by rw [Int.tmod_eq_emod_of_nonneg (by omega)]; omega
          have hr40 : (0 : Int) ≤ (r4 : Int) := by omega
          have hr44 : (r4 : Int) ≤ 4 := by omega
          have hw1 : IntKind.u8.wrap (f : Int) = (f : Int) := IntWalk.u8_in _ (by omega)
          have hf256 : (f : Int) ≤ 256 := by omega
          have hw2 : IntKind.i64.wrap ((f : Int) * 7) = (f : Int) * 7 := IntWalk.i64_in _ (by omega)
          have hw3 : IntKind.u8.wrap ((f : Int) * 7) = (f7 : Int) := by show ((f : Int) * 7) % 256 = (f7 : Int); omega
          have hf7l : f7 < 256 := by omega
          clear hr4 hf7
          go_wp2_with fail
          obtain ⟨w5, hw5⟩ : ∃ w5 : World, w5 = wf.drew := ⟨_, rfl⟩
          have HB45 := Lib.hid (show Below w4.heap.size w4 w5 from by rw [hw5]; exact nextN HB4.out 1)
          have HB0 := Lib.hid (Mem.start w5)
          refine wp_region_noPanic ?_
          refine wp_heldG (fun _ => True) [] (by kernel_rfl) ?hs0 ?rg0
          case hs0 => trivial
          case rg0 =>
          intro hHeld
          rw [← hw5]
          clear hw5
          --KN10
          refine wpAnyG_pure (i := 0) (oi := { dst := some 35, op := Op.move (Operand.tmp 3), type := 22, pos := _, after := #[], guard := none }) (v := ?_) rfl (by kernel_rfl) (by kernel_rfl) (by kernel_rfl) (by kernel_rfl) (fun _ _ _ h => h) (Or.inl ⟨by rfl, ?_⟩) (fun _ => trivial) ?_
          rotate_left
          · intro w hSw
            go_simp
            try with_reducible rfl
          try simp only [Act.put, List.setIfInBounds_toArray, List.set_cons_zero, List.set_cons_succ]
          refine wpAnyG_pure (i := 1) (oi := { dst := some 36, op := Op.move (Operand.tmp 4), type := 3, pos := _, after := #[], guard := none }) (v := ?_) rfl (by kernel_rfl) (by kernel_rfl) (by kernel_rfl) (by kernel_rfl) (fun _ _ _ h => h) (Or.inl ⟨by rfl, ?_⟩) (fun _ => trivial) ?_
          rotate_left
          · intro w hSw
            go_simp
            try with_reducible rfl
          try simp only [Act.put, List.setIfInBounds_toArray, List.set_cons_zero, List.set_cons_succ]
          refine wpAnyG_pure (i := 2) (oi := { dst := some 37, op := Op.binOp BinOp.rem 3 (Operand.tmp 36) (Operand.const (Value.int IntKind.i64 4)) 3, type := 3, pos := _, after := #[{ on := 1, ground := Ground.data }], guard := none }) (v := ?_) rfl (by kernel_rfl) (by kernel_rfl) (by kernel_rfl) (by kernel_rfl) (fun _ _ _ h => h) (Or.inl ⟨by rfl, ?_⟩) (fun _ => trivial) ?_
          rotate_left
          · intro w hSw
            go_simp
            try with_reducible rfl
          try simp only [Act.put, List.setIfInBounds_toArray, List.set_cons_zero, List.set_cons_succ]
          refine wpAnyG_pure (i := 3) (oi := { dst := some 38, op := Op.slice 22 (Operand.tmp 35) none (some (Operand.tmp 37)) none, type := 22, pos := _, after := #[{ on := 0, ground := Ground.data }, { on := 2, ground := Ground.data }], guard := none }) (v := ?_) rfl (by kernel_rfl) (by kernel_rfl) (by kernel_rfl) (by kernel_rfl) (fun _ _ _ h => h) (Or.inl ⟨by rfl, ?_⟩) (fun _ => trivial) ?_
          rotate_left
          · intro w hSw
            go_simp
            try with_reducible rfl
          try simp only [Act.put, List.setIfInBounds_toArray, List.set_cons_zero, List.set_cons_succ]
          refine wpAnyG_pure (i := 4) (oi := { dst := some 39, op := Op.move (Operand.tmp 1), type := 23, pos := _, after := #[], guard := none }) (v := ?_) rfl (by kernel_rfl) (by kernel_rfl) (by kernel_rfl) (by kernel_rfl) (fun _ _ _ h => h) (Or.inl ⟨by rfl, ?_⟩) (fun _ => trivial) ?_
          rotate_left
          · intro w hSw
            go_simp
            try with_reducible rfl
          try simp only [Act.put, List.setIfInBounds_toArray, List.set_cons_zero, List.set_cons_succ]
          refine wpAnyG_pure (i := 5) (oi := { dst := some 40, op := Op.move (Operand.tmp 4), type := 3, pos := _, after := #[], guard := none }) (v := ?_) rfl (by kernel_rfl) (by kernel_rfl) (by kernel_rfl) (by kernel_rfl) (fun _ _ _ h => h) (Or.inl ⟨by rfl, ?_⟩) (fun _ => trivial) ?_
          rotate_left
          · intro w hSw
            go_simp
            try with_reducible rfl
          try simp only [Act.put, List.setIfInBounds_toArray, List.set_cons_zero, List.set_cons_succ]
          refine wpAnyG_pure (i := 6) (oi := { dst := some 41, op := Op.slice 23 (Operand.tmp 39) none (some (Operand.tmp 40)) none, type := 23, pos := _, after := #[{ on := 4, ground := Ground.data }, { on := 5, ground := Ground.data }], guard := none }) (v := ?_) rfl (by kernel_rfl) (by kernel_rfl) (by kernel_rfl) (by kernel_rfl) (fun _ _ _ h => h) (Or.inl ⟨by rfl, ?_⟩) (fun _ => trivial) ?_
          rotate_left
          · intro w hSw
            go_simp
            try with_reducible rfl
          try simp only [Act.put, List.setIfInBounds_toArray, List.set_cons_zero, List.set_cons_succ]
          refine wpAnyG_pure (i := 7) (oi := { dst := some 42, op := Op.build 27 #[(0, Operand.const (Value.int IntKind.u8 0)), (1, Operand.tmp 41)], type := 27, pos := _, after := #[{ on := 6, ground := Ground.data }], guard := none }) (v := ?_) rfl (by kernel_rfl) (by kernel_rfl) (by kernel_rfl) (by kernel_rfl) (fun _ _ _ h => h) (Or.inl ⟨by rfl, ?_⟩) (fun _ => trivial) ?_
          rotate_left
          · intro w hSw
            go_simp
            try with_reducible rfl
          try simp only [Act.put, List.setIfInBounds_toArray, List.set_cons_zero, List.set_cons_succ]
          refine wpAnyG_pure (i := 8) (oi := { dst := some 43, op := Op.move (Operand.tmp 1), type := 23, pos := _, after := #[], guard := none }) (v := ?_) rfl (by kernel_rfl) (by kernel_rfl) (by kernel_rfl) (by kernel_rfl) (fun _ _ _ h => h) (Or.inl ⟨by rfl, ?_⟩) (fun _ => trivial) ?_
          rotate_left
          · intro w hSw
            go_simp
            try with_reducible rfl
          try simp only [Act.put, List.setIfInBounds_toArray, List.set_cons_zero, List.set_cons_succ]
          refine wpAnyG_pure (i := 9) (oi := { dst := some 44, op := Op.build 27 #[(0, Operand.const (Value.int IntKind.u8 2)), (1, Operand.tmp 43)], type := 27, pos := _, after := #[{ on := 8, ground := Ground.data }], guard := none }) (v := ?_) rfl (by kernel_rfl) (by kernel_rfl) (by kernel_rfl) (by kernel_rfl) (fun _ _ _ h => h) (Or.inl ⟨by rfl, ?_⟩) (fun _ => trivial) ?_
          rotate_left
          · intro w hSw
            go_simp
            try with_reducible rfl
          try simp only [Act.put, List.setIfInBounds_toArray, List.set_cons_zero, List.set_cons_succ]
          refine wpAnyG_pure (i := 14) (oi := { dst := some 49, op := Op.move (Operand.tmp 4), type := 3, pos := _, after := #[], guard := none }) (v := ?_) rfl (by kernel_rfl) (by kernel_rfl) (by kernel_rfl) (by kernel_rfl) (fun _ _ _ h => h) (Or.inl ⟨by rfl, ?_⟩) (fun _ => trivial) ?_
          rotate_left
          · intro w hSw
            go_simp
            try with_reducible rfl
          try simp only [Act.put, List.setIfInBounds_toArray, List.set_cons_zero, List.set_cons_succ]
          refine wpAnyG_pure (i := 15) (oi := { dst := some 50, op := Op.convert 3 5 (Operand.tmp 49), type := 5, pos := _, after := #[{ on := 14, ground := Ground.data }], guard := none }) (v := ?_) rfl (by kernel_rfl) (by kernel_rfl) (by kernel_rfl) (by kernel_rfl) (fun _ _ _ h => h) (Or.inl ⟨by rfl, ?_⟩) (fun _ => trivial) ?_
          rotate_left
          · intro w hSw
            go_simp
            try with_reducible rfl
          try simp only [Act.put, List.setIfInBounds_toArray, List.set_cons_zero, List.set_cons_succ]
          refine wpAnyG_pure (i := 16) (oi := { dst := some 51, op := Op.move (Operand.tmp 4), type := 3, pos := _, after := #[], guard := none }) (v := ?_) rfl (by kernel_rfl) (by kernel_rfl) (by kernel_rfl) (by kernel_rfl) (fun _ _ _ h => h) (Or.inl ⟨by rfl, ?_⟩) (fun _ => trivial) ?_
          rotate_left
          · intro w hSw
            go_simp
            try with_reducible rfl
          try simp only [Act.put, List.setIfInBounds_toArray, List.set_cons_zero, List.set_cons_succ]
          refine wpAnyG_pure (i := 17) (oi := { dst := some 52, op := Op.binOp BinOp.mul 3 (Operand.tmp 51) (Operand.const (Value.int IntKind.i64 7)) 3, type := 3, pos := _, after := #[{ on := 16, ground := Ground.data }], guard := none }) (v := ?_) rfl (by kernel_rfl) (by kernel_rfl) (by kernel_rfl) (by kernel_rfl) (fun _ _ _ h => h) (Or.inl ⟨by rfl, ?_⟩) (fun _ => trivial) ?_
          rotate_left
          · intro w hSw
            go_simp
            try with_reducible rfl
          try simp only [Act.put, List.setIfInBounds_toArray, List.set_cons_zero, List.set_cons_succ]
          refine wpAnyG_pure (i := 18) (oi := { dst := some 53, op := Op.convert 3 5 (Operand.tmp 52), type := 5, pos := _, after := #[{ on := 17, ground := Ground.data }], guard := none }) (v := ?_) rfl (by kernel_rfl) (by kernel_rfl) (by kernel_rfl) (by kernel_rfl) (fun _ _ _ h => h) (Or.inl ⟨by rfl, ?_⟩) (fun _ => trivial) ?_
          rotate_left
          · intro w hSw
            go_simp
            try with_reducible rfl
          try simp only [Act.put, List.setIfInBounds_toArray, List.set_cons_zero, List.set_cons_succ]
          refine wpAnyG_two (i := 10) (j := 19) (o := { dst := some 45, op := Op.buildSlice 23 1 #[(0, Operand.const (Value.int IntKind.u8 120))], type := 23, pos := _, after := #[], guard := none }) (u := { dst := some 54, op := Op.buildSlice 23 3 #[(0, Operand.tmp 50), (1, Operand.const (Value.int IntKind.u8 255)), (2, Operand.tmp 53)], type := 23, pos := _, after := #[{ on := 15, ground := Ground.data }, { on := 18, ground := Ground.data }], guard := none }) (by kernel_rfl) rfl rfl (fun K hK => ?_) (fun K hK => ?_)
          · go_simp
            try dsimp only
            obtain ⟨w51, hw9⟩ : ∃ w9 : World, w9 = w5.alloc (.cells #[.int .u8 120] 5) := ⟨_, rfl⟩
            have hb : Below w5.heap.size w5 w51 := by rw [hw9]; exact nextA (Mem.start _) _
            have HX1 := Lib.hid (show Blk w51 w5.heap.size 5 #[.int .u8 120] from by rw [hw9]; exact Blk.new _ _ _)
            have HB1 := Lib.hid (HB0.out.trans (hb.mono HB0.out.size))
            rw [← hw9]
            obtain ⟨gX, hgx⟩ : ∃ gx, w5.heap.size = gx := ⟨_, rfl⟩
            have HGX := Lib.hid (show w5.heap.size ≤ gX from by rw [← hgx]; exact HB0.out.size)
            rw [hgx] at HX1 ⊢
            clear hb hw9 hgx
            try dsimp only
            refine hK.out _ _ ?_ (fun hHeld => ?_)
            · intro _; trivial
            clear hK K
            try simp only [Act.put, List.setIfInBounds_toArray, List.set_cons_zero, List.set_cons_succ]
            have hHeld := hHeld (by kernel_rfl)
            refine wpAnyG_two (i := 11) (j := 19) (o := { dst := some 46, op := Op.convert 23 23 (Operand.tmp 45), type := 23, pos := _, after := #[{ on := 10, ground := Ground.data }], guard := none }) (u := { dst := some 54, op := Op.buildSlice 23 3 #[(0, Operand.tmp 50), (1, Operand.const (Value.int IntKind.u8 255)), (2, Operand.tmp 53)], type := 23, pos := _, after := #[{ on := 15, ground := Ground.data }, { on := 18, ground := Ground.data }], guard := none }) (by kernel_rfl) rfl rfl (fun K hK => ?_) (fun K hK => ?_)
            · refine step_freeze w51 rfl (.tmp 45) rfl gX #[.int .u8 120] 1 1 rfl HX1.out ?_
              intro w52 hh hf
              have HM2 := Lib.hid (bytes_marked (l := [120]) hh rfl)
              have HB2 := Lib.hid (HB1.out.trans (hf.below HB1.out.size fun q e => by rw [e]; exact HGX.out))
              clear hh hf
              try dsimp only
              refine hK.out _ _ ?_ (fun hHeld => ?_)
              · intro _; trivial
              clear hK K
              try simp only [Act.put, List.setIfInBounds_toArray, List.set_cons_zero, List.set_cons_succ]
              have hHeld := hHeld (by kernel_rfl)
              refine wpAnyG_pure (i := 12) (oi := { dst := some 47, op := Op.build 27 #[(0, Operand.const (Value.int IntKind.u8 0)), (1, Operand.tmp 46)], type := 27, pos := _, after := #[{ on := 11, ground := Ground.data }], guard := none }) (v := ?_) rfl (by kernel_rfl) (by kernel_rfl) (by kernel_rfl) (by kernel_rfl) (fun _ _ _ h => h) (Or.inl ⟨by rfl, ?_⟩) (fun _ => trivial) ?_
              rotate_left
              · intro w hSw
                go_simp
                try with_reducible rfl
              try simp only [Act.put, List.setIfInBounds_toArray, List.set_cons_zero, List.set_cons_succ]
              refine wpAnyG_two (i := 13) (j := 19) (o := { dst := some 48, op := Op.buildSlice 22 3 #[(0, Operand.tmp 42), (1, Operand.tmp 44), (2, Operand.tmp 47)], type := 22, pos := _, after := #[{ on := 7, ground := Ground.data }, { on := 9, ground := Ground.data }, { on := 12, ground := Ground.data }], guard := none }) (u := { dst := some 54, op := Op.buildSlice 23 3 #[(0, Operand.tmp 50), (1, Operand.const (Value.int IntKind.u8 255)), (2, Operand.tmp 53)], type := 23, pos := _, after := #[{ on := 15, ground := Ground.data }, { on := 18, ground := Ground.data }], guard := none }) (by kernel_rfl) rfl rfl (fun K hK => ?_) (fun K hK => ?_)
              · go_simp
                try dsimp only
                obtain ⟨w53, hw9⟩ : ∃ w9 : World, w9 = w52.alloc (.cells #[.int .u8 0, .slice (some ⟨g, 0, none⟩) f 256, .int .u8 2, .slice (some ⟨g, 0, none⟩) 256 256, .int .u8 0, .slice (some ⟨gX, 0, none⟩) 1 1] 27) := ⟨_, rfl⟩
                have hb : Below w52.heap.size w52 w53 := by rw [hw9]; exact nextA (Mem.start _) _
                have HL3 := Lib.hid (show Blk w53 w52.heap.size 27 #[.int .u8 0, .slice (some ⟨g, 0, none⟩) f 256, .int .u8 2, .slice (some ⟨g, 0, none⟩) 256 256, .int .u8 0, .slice (some ⟨gX, 0, none⟩) 1 1] from by rw [hw9]; exact Blk.new _ _ _)
                have HB3 := Lib.hid (HB2.out.trans (hb.mono HB2.out.size))
                have HM3 := Lib.hid ((HM2.out.below hb).up hb.size)
                rw [← hw9]
                obtain ⟨gL, hgx⟩ : ∃ gx, w52.heap.size = gx := ⟨_, rfl⟩
                have HGL := Lib.hid (show w5.heap.size ≤ gL from by rw [← hgx]; exact HB2.out.size)
                rw [hgx] at HL3 ⊢
                clear hb hw9 hgx
                try dsimp only
                refine hK.out _ _ ?_ (fun hHeld => ?_)
                · intro _; trivial
                clear hK K
                try simp only [Act.put, List.setIfInBounds_toArray, List.set_cons_zero, List.set_cons_succ]
                have hHeld := hHeld (by kernel_rfl)
                refine wpAnyG_one (i := 19) (o := { dst := some 54, op := Op.buildSlice 23 3 #[(0, Operand.tmp 50), (1, Operand.const (Value.int IntKind.u8 255)), (2, Operand.tmp 53)], type := 23, pos := _, after := #[{ on := 15, ground := Ground.data }, { on := 18, ground := Ground.data }], guard := none }) (by kernel_rfl) rfl (fun K hK => ?_)
                go_simp
                try dsimp only
                obtain ⟨w54, hw9⟩ : ∃ w9 : World, w9 = w53.alloc (.cells #[.int .u8 (f : Int), .int .u8 255, .int .u8 (f7 : Int)] 5) := ⟨_, rfl⟩
                have hb : Below w53.heap.size w53 w54 := by rw [hw9]; exact nextA (Mem.start _) _
                have HF4 := Lib.hid (show Blk w54 w53.heap.size 5 #[.int .u8 (f : Int), .int .u8 255, .int .u8 (f7 : Int)] from by rw [hw9]; exact Blk.new _ _ _)
                have HB4 := Lib.hid (HB3.out.trans (hb.mono HB3.out.size))
                have HM4 := Lib.hid ((HM3.out.below hb).up hb.size)
                have HL4 := Lib.hid (HL3.out.keep hb)
                rw [← hw9]
                obtain ⟨gF, hgx⟩ : ∃ gx, w53.heap.size = gx := ⟨_, rfl⟩
                have HGF := Lib.hid (show w5.heap.size ≤ gF from by rw [← hgx]; exact HB3.out.size)
                rw [hgx] at HF4 ⊢
                clear hb hw9 hgx
                try dsimp only
                refine hK.out _ _ ?_ (fun hHeld => ?_)
                · intro _; trivial
                clear hK K
                try simp only [Act.put, List.setIfInBounds_toArray, List.set_cons_zero, List.set_cons_succ]
                have hHeld := hHeld (by kernel_rfl)
                refine wpAnyG_one (i := 20) (o := { dst := some 55, op := Op.call { callee := Callee.value (Operand.func 5), args := #[Operand.tmp 38, Operand.tmp 48, Operand.tmp 54], argTypes := #[22, 22, 23] }, type := 4, pos := _, after := #[{ on := 3, ground := Ground.data }, { on := 13, ground := Ground.data }, { on := 19, ground := Ground.data }], guard := none }) (by kernel_rfl) rfl (fun K hK => ?_)
                have hbl : Below w4.heap.size w4 w54 := by have h1 := HB4.out; have h2 : Below w4.heap.size w4 w5 := HB45.out; exact next h2 h1
                have hfl := (HP.out.2.1.below hbl).up hbl.size
                have hlen := HP.out.1
                have hct := fates_n w54 (some ⟨gp, 0, none⟩) ((KP g ga fl).take r4) r4 4 (by rw [List.length_take]; show min r4 4 = r4; omega) (by omega) (by omega) (cells_pre (ys := ((KP g ga fl).drop r4).flatMap Open.OneP.cells) (by rw [← List.flatMap_append, List.take_append_drop]; exact (HP.out.2.2.2.2.below hbl).up hbl.size)) (fun x hx => good_keep hbl (kp_good hlen HP.out.2.1 HP.out.2.2.1) x (List.mem_of_mem_take hx)) (some ⟨gL, 0, none⟩) (KL g gX fl f) 3 3 rfl (by omega) (by omega) (cells_blk HL4.out (by unfold KL; simp [Open.OneP.cells, u8v, hlen]; omega)) (kl_good hlen hfl HM4.out) (some ⟨gF, 0, none⟩) [UInt8.ofNat f, 255, UInt8.ofNat f7] 3 3 rfl (by omega) (by omega) (cells_blk HF4.out (by simp [u8v]; omega))
                go_simp
                refine hct.mono ?_
                clear hct hfl hlen
                rintro e w9 ⟨rfl, hb9⟩
                have HB9 := Lib.hid (next hbl hb9)
                clear hb9 hbl
                try dsimp only
                refine hK.out _ _ ?_ (fun hHeld => ?_)
                · intro _; trivial
                clear hK K
                try simp only [Act.put, List.setIfInBounds_toArray, List.set_cons_zero, List.set_cons_succ]
                have hHeld := hHeld (by kernel_rfl)
                refine wpAnyG_pure (i := 21) (oi := { dst := some 56, op := Op.unOp UnOp.not 4 (Operand.tmp 55), type := 4, pos := _, after := #[{ on := 20, ground := Ground.data }], guard := none }) (v := ?_) rfl (by kernel_rfl) (by kernel_rfl) (by kernel_rfl) (by kernel_rfl) (fun _ _ _ h => h) (Or.inl ⟨by rfl, ?_⟩) (fun _ => trivial) ?_
                rotate_left
                · intro w hSw
                  go_simp
                  try with_reducible rfl
                try simp only [Act.put, List.setIfInBounds_toArray, List.set_cons_zero, List.set_cons_succ]
                refine wpAnyG_done (by kernel_rfl) ?_ _
                refine NoPanic.normal ?_
                go_wp2_with fail
                go_roundw
                case rel => exact ⟨f + 1, rfl, hf2, HB9.out⟩
                case measure => simp [intOf]; omega
              · go_simp
                try dsimp only
                obtain ⟨w53, hw9⟩ : ∃ w9 : World, w9 = w52.alloc (.cells #[.int .u8 (f : Int), .int .u8 255, .int .u8 (f7 : Int)] 5) := ⟨_, rfl⟩
                have hb : Below w52.heap.size w52 w53 := by rw [hw9]; exact nextA (Mem.start _) _
                have HF3 := Lib.hid (show Blk w53 w52.heap.size 5 #[.int .u8 (f : Int), .int .u8 255, .int .u8 (f7 : Int)] from by rw [hw9]; exact Blk.new _ _ _)
                have HB3 := Lib.hid (HB2.out.trans (hb.mono HB2.out.size))
                have HM3 := Lib.hid ((HM2.out.below hb).up hb.size)
                rw [← hw9]
                obtain ⟨gF, hgx⟩ : ∃ gx, w52.heap.size = gx := ⟨_, rfl⟩
                have HGF := Lib.hid (show w5.heap.size ≤ gF from by rw [← hgx]; exact HB2.out.size)
                rw [hgx] at HF3 ⊢
                clear hb hw9 hgx
                try dsimp only
                refine hK.out _ _ ?_ (fun hHeld => ?_)
                · intro _; trivial
                clear hK K
                try simp only [Act.put, List.setIfInBounds_toArray, List.set_cons_zero, List.set_cons_succ]
                have hHeld := hHeld (by kernel_rfl)
                refine wpAnyG_one (i := 13) (o := { dst := some 48, op := Op.buildSlice 22 3 #[(0, Operand.tmp 42), (1, Operand.tmp 44), (2, Operand.tmp 47)], type := 22, pos := _, after := #[{ on := 7, ground := Ground.data }, { on := 9, ground := Ground.data }, { on := 12, ground := Ground.data }], guard := none }) (by kernel_rfl) rfl (fun K hK => ?_)
                go_simp
                try dsimp only
                obtain ⟨w54, hw9⟩ : ∃ w9 : World, w9 = w53.alloc (.cells #[.int .u8 0, .slice (some ⟨g, 0, none⟩) f 256, .int .u8 2, .slice (some ⟨g, 0, none⟩) 256 256, .int .u8 0, .slice (some ⟨gX, 0, none⟩) 1 1] 27) := ⟨_, rfl⟩
                have hb : Below w53.heap.size w53 w54 := by rw [hw9]; exact nextA (Mem.start _) _
                have HL4 := Lib.hid (show Blk w54 w53.heap.size 27 #[.int .u8 0, .slice (some ⟨g, 0, none⟩) f 256, .int .u8 2, .slice (some ⟨g, 0, none⟩) 256 256, .int .u8 0, .slice (some ⟨gX, 0, none⟩) 1 1] from by rw [hw9]; exact Blk.new _ _ _)
                have HB4 := Lib.hid (HB3.out.trans (hb.mono HB3.out.size))
                have HM4 := Lib.hid ((HM3.out.below hb).up hb.size)
                have HF4 := Lib.hid (HF3.out.keep hb)
                rw [← hw9]
                obtain ⟨gL, hgx⟩ : ∃ gx, w53.heap.size = gx := ⟨_, rfl⟩
                have HGL := Lib.hid (show w5.heap.size ≤ gL from by rw [← hgx]; exact HB3.out.size)
                rw [hgx] at HL4 ⊢
                clear hb hw9 hgx
                try dsimp only
                refine hK.out _ _ ?_ (fun hHeld => ?_)
                · intro _; trivial
                clear hK K
                try simp only [Act.put, List.setIfInBounds_toArray, List.set_cons_zero, List.set_cons_succ]
                have hHeld := hHeld (by kernel_rfl)
                refine wpAnyG_one (i := 20) (o := { dst := some 55, op := Op.call { callee := Callee.value (Operand.func 5), args := #[Operand.tmp 38, Operand.tmp 48, Operand.tmp 54], argTypes := #[22, 22, 23] }, type := 4, pos := _, after := #[{ on := 3, ground := Ground.data }, { on := 13, ground := Ground.data }, { on := 19, ground := Ground.data }], guard := none }) (by kernel_rfl) rfl (fun K hK => ?_)
                have hbl : Below w4.heap.size w4 w54 := by have h1 := HB4.out; have h2 : Below w4.heap.size w4 w5 := HB45.out; exact next h2 h1
                have hfl := (HP.out.2.1.below hbl).up hbl.size
                have hlen := HP.out.1
                have hct := fates_n w54 (some ⟨gp, 0, none⟩) ((KP g ga fl).take r4) r4 4 (by rw [List.length_take]; show min r4 4 = r4; omega) (by omega) (by omega) (cells_pre (ys := ((KP g ga fl).drop r4).flatMap Open.OneP.cells) (by rw [← List.flatMap_append, List.take_append_drop]; exact (HP.out.2.2.2.2.below hbl).up hbl.size)) (fun x hx => good_keep hbl (kp_good hlen HP.out.2.1 HP.out.2.2.1) x (List.mem_of_mem_take hx)) (some ⟨gL, 0, none⟩) (KL g gX fl f) 3 3 rfl (by omega) (by omega) (cells_blk HL4.out (by unfold KL; simp [Open.OneP.cells, u8v, hlen]; omega)) (kl_good hlen hfl HM4.out) (some ⟨gF, 0, none⟩) [UInt8.ofNat f, 255, UInt8.ofNat f7] 3 3 rfl (by omega) (by omega) (cells_blk HF4.out (by simp [u8v]; omega))
                go_simp
                refine hct.mono ?_
                clear hct hfl hlen
                rintro e w9 ⟨rfl, hb9⟩
                have HB9 := Lib.hid (next hbl hb9)
                clear hb9 hbl
                try dsimp only
                refine hK.out _ _ ?_ (fun hHeld => ?_)
                · intro _; trivial
                clear hK K
                try simp only [Act.put, List.setIfInBounds_toArray, List.set_cons_zero, List.set_cons_succ]
                have hHeld := hHeld (by kernel_rfl)
                refine wpAnyG_pure (i := 21) (oi := { dst := some 56, op := Op.unOp UnOp.not 4 (Operand.tmp 55), type := 4, pos := _, after := #[{ on := 20, ground := Ground.data }], guard := none }) (v := ?_) rfl (by kernel_rfl) (by kernel_rfl) (by kernel_rfl) (by kernel_rfl) (fun _ _ _ h => h) (Or.inl ⟨by rfl, ?_⟩) (fun _ => trivial) ?_
                rotate_left
                · intro w hSw
                  go_simp
                  try with_reducible rfl
                try simp only [Act.put, List.setIfInBounds_toArray, List.set_cons_zero, List.set_cons_succ]
                refine wpAnyG_done (by kernel_rfl) ?_ _
                refine NoPanic.normal ?_
                go_wp2_with fail
                go_roundw
                case rel => exact ⟨f + 1, rfl, hf2, HB9.out⟩
                case measure => simp [intOf]; omega
            · go_simp
              try dsimp only
              obtain ⟨w52, hw9⟩ : ∃ w9 : World, w9 = w51.alloc (.cells #[.int .u8 (f : Int), .int .u8 255, .int .u8 (f7 : Int)] 5) := ⟨_, rfl⟩
              have hb : Below w51.heap.size w51 w52 := by rw [hw9]; exact nextA (Mem.start _) _
              have HF2 := Lib.hid (show Blk w52 w51.heap.size 5 #[.int .u8 (f : Int), .int .u8 255, .int .u8 (f7 : Int)] from by rw [hw9]; exact Blk.new _ _ _)
              have HB2 := Lib.hid (HB1.out.trans (hb.mono HB1.out.size))
              have HX2 := Lib.hid (HX1.out.keep hb)
              rw [← hw9]
              obtain ⟨gF, hgx⟩ : ∃ gx, w51.heap.size = gx := ⟨_, rfl⟩
              have HGF := Lib.hid (show w5.heap.size ≤ gF from by rw [← hgx]; exact HB1.out.size)
              rw [hgx] at HF2 ⊢
              clear hb hw9 hgx
              have HNE := Lib.hid (show ¬ (gF = gX) from fun e => by
                have h1 : w52.heap[gF]? = some (.cells #[.int .u8 (f : Int), .int .u8 255, .int .u8 (f7 : Int)] 5 (0, 0)) := HF2.out
                have h2 : w52.heap[gX]? = some (.cells #[.int .u8 120] 5 (0, 0)) := HX2.out
                rw [e, h2] at h1
                injection h1 with h1; injection h1 with h1
                have := congrArg Array.size h1; cases this)
              try dsimp only
              refine hK.out _ _ ?_ (fun hHeld => ?_)
              · intro _; trivial
              clear hK K
              try simp only [Act.put, List.setIfInBounds_toArray, List.set_cons_zero, List.set_cons_succ]
              have hHeld := hHeld (by kernel_rfl)
              refine wpAnyG_one (i := 11) (o := { dst := some 46, op := Op.convert 23 23 (Operand.tmp 45), type := 23, pos := _, after := #[{ on := 10, ground := Ground.data }], guard := none }) (by kernel_rfl) rfl (fun K hK => ?_)
              refine step_freeze w52 rfl (.tmp 45) rfl gX #[.int .u8 120] 1 1 rfl HX2.out ?_
              intro w53 hh hf
              have HM3 := Lib.hid (bytes_marked (l := [120]) hh rfl)
              have HB3 := Lib.hid (HB2.out.trans (hf.below HB2.out.size fun q e => by rw [e]; exact HGX.out))
              have HF3 := Lib.hid (HF2.out.fr hf (fun e => HNE.out e))
              clear hh hf
              try dsimp only
              refine hK.out _ _ ?_ (fun hHeld => ?_)
              · intro _; trivial
              clear hK K
              try simp only [Act.put, List.setIfInBounds_toArray, List.set_cons_zero, List.set_cons_succ]
              have hHeld := hHeld (by kernel_rfl)
              refine wpAnyG_pure (i := 12) (oi := { dst := some 47, op := Op.build 27 #[(0, Operand.const (Value.int IntKind.u8 0)), (1, Operand.tmp 46)], type := 27, pos := _, after := #[{ on := 11, ground := Ground.data }], guard := none }) (v := ?_) rfl (by kernel_rfl) (by kernel_rfl) (by kernel_rfl) (by kernel_rfl) (fun _ _ _ h => h) (Or.inl ⟨by rfl, ?_⟩) (fun _ => trivial) ?_
              rotate_left
              · intro w hSw
                go_simp
                try with_reducible rfl
              try simp only [Act.put, List.setIfInBounds_toArray, List.set_cons_zero, List.set_cons_succ]
              refine wpAnyG_one (i := 13) (o := { dst := some 48, op := Op.buildSlice 22 3 #[(0, Operand.tmp 42), (1, Operand.tmp 44), (2, Operand.tmp 47)], type := 22, pos := _, after := #[{ on := 7, ground := Ground.data }, { on := 9, ground := Ground.data }, { on := 12, ground := Ground.data }], guard := none }) (by kernel_rfl) rfl (fun K hK => ?_)
              go_simp
              try dsimp only
              obtain ⟨w54, hw9⟩ : ∃ w9 : World, w9 = w53.alloc (.cells #[.int .u8 0, .slice (some ⟨g, 0, none⟩) f 256, .int .u8 2, .slice (some ⟨g, 0, none⟩) 256 256, .int .u8 0, .slice (some ⟨gX, 0, none⟩) 1 1] 27) := ⟨_, rfl⟩
              have hb : Below w53.heap.size w53 w54 := by rw [hw9]; exact nextA (Mem.start _) _
              have HL4 := Lib.hid (show Blk w54 w53.heap.size 27 #[.int .u8 0, .slice (some ⟨g, 0, none⟩) f 256, .int .u8 2, .slice (some ⟨g, 0, none⟩) 256 256, .int .u8 0, .slice (some ⟨gX, 0, none⟩) 1 1] from by rw [hw9]; exact Blk.new _ _ _)
              have HB4 := Lib.hid (HB3.out.trans (hb.mono HB3.out.size))
              have HM4 := Lib.hid ((HM3.out.below hb).up hb.size)
              have HF4 := Lib.hid (HF3.out.keep hb)
              rw [← hw9]
              obtain ⟨gL, hgx⟩ : ∃ gx, w53.heap.size = gx := ⟨_, rfl⟩
              have HGL := Lib.hid (show w5.heap.size ≤ gL from by rw [← hgx]; exact HB3.out.size)
              rw [hgx] at HL4 ⊢
              clear hb hw9 hgx
              try dsimp only
              refine hK.out _ _ ?_ (fun hHeld => ?_)
              · intro _; trivial
              clear hK K
              try simp only [Act.put, List.setIfInBounds_toArray, List.set_cons_zero, List.set_cons_succ]
              have hHeld := hHeld (by kernel_rfl)
              refine wpAnyG_one (i := 20) (o := { dst := some 55, op := Op.call { callee := Callee.value (Operand.func 5), args := #[Operand.tmp 38, Operand.tmp 48, Operand.tmp 54], argTypes := #[22, 22, 23] }, type := 4, pos := _, after := #[{ on := 3, ground := Ground.data }, { on := 13, ground := Ground.data }, { on := 19, ground := Ground.data }], guard := none }) (by kernel_rfl) rfl (fun K hK => ?_)
              have hbl : Below w4.heap.size w4 w54 := by have h1 := HB4.out; have h2 : Below w4.heap.size w4 w5 := HB45.out; exact next h2 h1
              have hfl := (HP.out.2.1.below hbl).up hbl.size
              have hlen := HP.out.1
              have hct := fates_n w54 (some ⟨gp, 0, none⟩) ((KP g ga fl).take r4) r4 4 (by rw [List.length_take]; show min r4 4 = r4; omega) (by omega) (by omega) (cells_pre (ys := ((KP g ga fl).drop r4).flatMap Open.OneP.cells) (by rw [← List.flatMap_append, List.take_append_drop]; exact (HP.out.2.2.2.2.below hbl).up hbl.size)) (fun x hx => good_keep hbl (kp_good hlen HP.out.2.1 HP.out.2.2.1) x (List.mem_of_mem_take hx)) (some ⟨gL, 0, none⟩) (KL g gX fl f) 3 3 rfl (by omega) (by omega) (cells_blk HL4.out (by unfold KL; simp [Open.OneP.cells, u8v, hlen]; omega)) (kl_good hlen hfl HM4.out) (some ⟨gF, 0, none⟩) [UInt8.ofNat f, 255, UInt8.ofNat f7] 3 3 rfl (by omega) (by omega) (cells_blk HF4.out (by simp [u8v]; omega))
              go_simp
              refine hct.mono ?_
              clear hct hfl hlen
              rintro e w9 ⟨rfl, hb9⟩
              have HB9 := Lib.hid (next hbl hb9)
              clear hb9 hbl
              try dsimp only
              refine hK.out _ _ ?_ (fun hHeld => ?_)
              · intro _; trivial
              clear hK K
              try simp only [Act.put, List.setIfInBounds_toArray, List.set_cons_zero, List.set_cons_succ]
              have hHeld := hHeld (by kernel_rfl)
              refine wpAnyG_pure (i := 21) (oi := { dst := some 56, op := Op.unOp UnOp.not 4 (Operand.tmp 55), type := 4, pos := _, after := #[{ on := 20, ground := Ground.data }], guard := none }) (v := ?_) rfl (by kernel_rfl) (by kernel_rfl) (by kernel_rfl) (by kernel_rfl) (fun _ _ _ h => h) (Or.inl ⟨by rfl, ?_⟩) (fun _ => trivial) ?_
              rotate_left
              · intro w hSw
                go_simp
                try with_reducible rfl
              try simp only [Act.put, List.setIfInBounds_toArray, List.set_cons_zero, List.set_cons_succ]
              refine wpAnyG_done (by kernel_rfl) ?_ _
              refine NoPanic.normal ?_
              go_wp2_with fail
              go_roundw
              case rel => exact ⟨f + 1, rfl, hf2, HB9.out⟩
              case measure => simp [intOf]; omega
          · go_simp
            try dsimp only
            obtain ⟨w51, hw9⟩ : ∃ w9 : World, w9 = w5.alloc (.cells #[.int .u8 (f : Int), .int .u8 255, .int .u8 (f7 : Int)] 5) := ⟨_, rfl⟩
            have hb : Below w5.heap.size w5 w51 := by rw [hw9]; exact nextA (Mem.start _) _
            have HF1 := Lib.hid (show Blk w51 w5.heap.size 5 #[.int .u8 (f : Int), .int .u8 255, .int .u8 (f7 : Int)] from by rw [hw9]; exact Blk.new _ _ _)
            have HB1 := Lib.hid (HB0.out.trans (hb.mono HB0.out.size))
            rw [← hw9]
            obtain ⟨gF, hgx⟩ : ∃ gx, w5.heap.size = gx := ⟨_, rfl⟩
            have HGF := Lib.hid (show w5.heap.size ≤ gF from by rw [← hgx]; exact HB0.out.size)
            rw [hgx] at HF1 ⊢
            clear hb hw9 hgx
            try dsimp only
            refine hK.out _ _ ?_ (fun hHeld => ?_)
            · intro _; trivial
            clear hK K
            try simp only [Act.put, List.setIfInBounds_toArray, List.set_cons_zero, List.set_cons_succ]
            have hHeld := hHeld (by kernel_rfl)
            refine wpAnyG_one (i := 10) (o := { dst := some 45, op := Op.buildSlice 23 1 #[(0, Operand.const (Value.int IntKind.u8 120))], type := 23, pos := _, after := #[], guard := none }) (by kernel_rfl) rfl (fun K hK => ?_)
            go_simp
            try dsimp only
            obtain ⟨w52, hw9⟩ : ∃ w9 : World, w9 = w51.alloc (.cells #[.int .u8 120] 5) := ⟨_, rfl⟩
            have hb : Below w51.heap.size w51 w52 := by rw [hw9]; exact nextA (Mem.start _) _
            have HX2 := Lib.hid (show Blk w52 w51.heap.size 5 #[.int .u8 120] from by rw [hw9]; exact Blk.new _ _ _)
            have HB2 := Lib.hid (HB1.out.trans (hb.mono HB1.out.size))
            have HF2 := Lib.hid (HF1.out.keep hb)
            rw [← hw9]
            obtain ⟨gX, hgx⟩ : ∃ gx, w51.heap.size = gx := ⟨_, rfl⟩
            have HGX := Lib.hid (show w5.heap.size ≤ gX from by rw [← hgx]; exact HB1.out.size)
            rw [hgx] at HX2 ⊢
            clear hb hw9 hgx
            have HNE := Lib.hid (show ¬ (gF = gX) from fun e => by
              have h1 : w52.heap[gF]? = some (.cells #[.int .u8 (f : Int), .int .u8 255, .int .u8 (f7 : Int)] 5 (0, 0)) := HF2.out
              have h2 : w52.heap[gX]? = some (.cells #[.int .u8 120] 5 (0, 0)) := HX2.out
              rw [e, h2] at h1
              injection h1 with h1; injection h1 with h1
              have := congrArg Array.size h1; cases this)
            try dsimp only
            refine hK.out _ _ ?_ (fun hHeld => ?_)
            · intro _; trivial
            clear hK K
            try simp only [Act.put, List.setIfInBounds_toArray, List.set_cons_zero, List.set_cons_succ]
            have hHeld := hHeld (by kernel_rfl)
            refine wpAnyG_one (i := 11) (o := { dst := some 46, op := Op.convert 23 23 (Operand.tmp 45), type := 23, pos := _, after := #[{ on := 10, ground := Ground.data }], guard := none }) (by kernel_rfl) rfl (fun K hK => ?_)
            refine step_freeze w52 rfl (.tmp 45) rfl gX #[.int .u8 120] 1 1 rfl HX2.out ?_
            intro w53 hh hf
            have HM3 := Lib.hid (bytes_marked (l := [120]) hh rfl)
            have HB3 := Lib.hid (HB2.out.trans (hf.below HB2.out.size fun q e => by rw [e]; exact HGX.out))
            have HF3 := Lib.hid (HF2.out.fr hf (fun e => HNE.out e))
            clear hh hf
            try dsimp only
            refine hK.out _ _ ?_ (fun hHeld => ?_)
            · intro _; trivial
            clear hK K
            try simp only [Act.put, List.setIfInBounds_toArray, List.set_cons_zero, List.set_cons_succ]
            have hHeld := hHeld (by kernel_rfl)
            refine wpAnyG_pure (i := 12) (oi := { dst := some 47, op := Op.build 27 #[(0, Operand.const (Value.int IntKind.u8 0)), (1, Operand.tmp 46)], type := 27, pos := _, after := #[{ on := 11, ground := Ground.data }], guard := none }) (v := ?_) rfl (by kernel_rfl) (by kernel_rfl) (by kernel_rfl) (by kernel_rfl) (fun _ _ _ h => h) (Or.inl ⟨by rfl, ?_⟩) (fun _ => trivial) ?_
            rotate_left
            · intro w hSw
              go_simp
              try with_reducible rfl
            try simp only [Act.put, List.setIfInBounds_toArray, List.set_cons_zero, List.set_cons_succ]
            refine wpAnyG_one (i := 13) (o := { dst := some 48, op := Op.buildSlice 22 3 #[(0, Operand.tmp 42), (1, Operand.tmp 44), (2, Operand.tmp 47)], type := 22, pos := _, after := #[{ on := 7, ground := Ground.data }, { on := 9, ground := Ground.data }, { on := 12, ground := Ground.data }], guard := none }) (by kernel_rfl) rfl (fun K hK => ?_)
            go_simp
            try dsimp only
            obtain ⟨w54, hw9⟩ : ∃ w9 : World, w9 = w53.alloc (.cells #[.int .u8 0, .slice (some ⟨g, 0, none⟩) f 256, .int .u8 2, .slice (some ⟨g, 0, none⟩) 256 256, .int .u8 0, .slice (some ⟨gX, 0, none⟩) 1 1] 27) := ⟨_, rfl⟩
            have hb : Below w53.heap.size w53 w54 := by rw [hw9]; exact nextA (Mem.start _) _
            have HL4 := Lib.hid (show Blk w54 w53.heap.size 27 #[.int .u8 0, .slice (some ⟨g, 0, none⟩) f 256, .int .u8 2, .slice (some ⟨g, 0, none⟩) 256 256, .int .u8 0, .slice (some ⟨gX, 0, none⟩) 1 1] from by rw [hw9]; exact Blk.new _ _ _)
            have HB4 := Lib.hid (HB3.out.trans (hb.mono HB3.out.size))
            have HM4 := Lib.hid ((HM3.out.below hb).up hb.size)
            have HF4 := Lib.hid (HF3.out.keep hb)
            rw [← hw9]
            obtain ⟨gL, hgx⟩ : ∃ gx, w53.heap.size = gx := ⟨_, rfl⟩
            have HGL := Lib.hid (show w5.heap.size ≤ gL from by rw [← hgx]; exact HB3.out.size)
            rw [hgx] at HL4 ⊢
            clear hb hw9 hgx
            try dsimp only
            refine hK.out _ _ ?_ (fun hHeld => ?_)
            · intro _; trivial
            clear hK K
            try simp only [Act.put, List.setIfInBounds_toArray, List.set_cons_zero, List.set_cons_succ]
            have hHeld := hHeld (by kernel_rfl)
            refine wpAnyG_one (i := 20) (o := { dst := some 55, op := Op.call { callee := Callee.value (Operand.func 5), args := #[Operand.tmp 38, Operand.tmp 48, Operand.tmp 54], argTypes := #[22, 22, 23] }, type := 4, pos := _, after := #[{ on := 3, ground := Ground.data }, { on := 13, ground := Ground.data }, { on := 19, ground := Ground.data }], guard := none }) (by kernel_rfl) rfl (fun K hK => ?_)
            have hbl : Below w4.heap.size w4 w54 := by have h1 := HB4.out; have h2 : Below w4.heap.size w4 w5 := HB45.out; exact next h2 h1
            have hfl := (HP.out.2.1.below hbl).up hbl.size
            have hlen := HP.out.1
            have hct := fates_n w54 (some ⟨gp, 0, none⟩) ((KP g ga fl).take r4) r4 4 (by rw [List.length_take]; show min r4 4 = r4; omega) (by omega) (by omega) (cells_pre (ys := ((KP g ga fl).drop r4).flatMap Open.OneP.cells) (by rw [← List.flatMap_append, List.take_append_drop]; exact (HP.out.2.2.2.2.below hbl).up hbl.size)) (fun x hx => good_keep hbl (kp_good hlen HP.out.2.1 HP.out.2.2.1) x (List.mem_of_mem_take hx)) (some ⟨gL, 0, none⟩) (KL g gX fl f) 3 3 rfl (by omega) (by omega) (cells_blk HL4.out (by unfold KL; simp [Open.OneP.cells, u8v, hlen]; omega)) (kl_good hlen hfl HM4.out) (some ⟨gF, 0, none⟩) [UInt8.ofNat f, 255, UInt8.ofNat f7] 3 3 rfl (by omega) (by omega) (cells_blk HF4.out (by simp [u8v]; omega))
            go_simp
            refine hct.mono ?_
            clear hct hfl hlen
            rintro e w9 ⟨rfl, hb9⟩
            have HB9 := Lib.hid (next hbl hb9)
            clear hb9 hbl
            try dsimp only
            refine hK.out _ _ ?_ (fun hHeld => ?_)
            · intro _; trivial
            clear hK K
            try simp only [Act.put, List.setIfInBounds_toArray, List.set_cons_zero, List.set_cons_succ]
            have hHeld := hHeld (by kernel_rfl)
            refine wpAnyG_pure (i := 21) (oi := { dst := some 56, op := Op.unOp UnOp.not 4 (Operand.tmp 55), type := 4, pos := _, after := #[{ on := 20, ground := Ground.data }], guard := none }) (v := ?_) rfl (by kernel_rfl) (by kernel_rfl) (by kernel_rfl) (by kernel_rfl) (fun _ _ _ h => h) (Or.inl ⟨by rfl, ?_⟩) (fun _ => trivial) ?_
            rotate_left
            · intro w hSw
              go_simp
              try with_reducible rfl
            try simp only [Act.put, List.setIfInBounds_toArray, List.set_cons_zero, List.set_cons_succ]
            refine wpAnyG_done (by kernel_rfl) ?_ _
            refine NoPanic.normal ?_
            go_wp2_with fail
            go_roundw
            case rel => exact ⟨f + 1, rfl, hf2, HB9.out⟩
            case measure => simp [intOf]; omega
          --END KN10
        · obtain rfl : f = 256 := by omega
          rw [show ((256 : Nat) : Int) = (256 : Int) from rfl]
          have hcv2 : ∀ (w : World) (C : Array Value) (n c g : Nat), w.heap.size = g → (convert 23 23 (.slice (some ⟨g, 0, none⟩) n c)).run Try.prog (w.alloc (.cells C 5)) = .ok (.slice (some ⟨g, 0, none⟩) n c) (w.alloc (.cells C 5 (C.size, C.size + 1))) := fun w C n c g hg => by subst hg; exact hcv w C n c
          go_wp2_with ((with_reducible show wpList _ _ _ ((⟨some 59, _, _, _, _, _⟩ : Oper) :: _) _ _); refine wpList_mk rfl _ _ _ rfl 5 i0 1 (.int .u8 0) Try.underlying23 HI0.out.1 HI0.out.2.1 HI0.out.2.2.1 HI0.out.2.2.2 rfl 257 257 rfl rfl rfl (by decide) (by unfold maxLen; decide) 257 rfl ?_)
          have HFL := Lib.hid (show Bytes wf wf.heap.size (some ⟨g, 0, none⟩) fl ∧ fl.length = 256 from ⟨(HP.out.2.1.below HB4.out).up HB4.out.size, HP.out.1⟩)
          have HK4 := Lib.hid (next HB4.out (kd_below wf g))
          clear hcv2
          go_loopw [6] (fun i wr => ∃ z : Int, i = .int .i64 z ∧ -1 ≤ z ∧ z ≤ 6 ∧ Below (kdW wf g).heap.size (kdW wf g) wr) (fun i _ => (6 - intOf i).toNat)
          case atStart => exact ⟨-1, rfl, by decide, by decide, Mem.start (kdW wf g)⟩
          case round =>
            obtain ⟨z, rfl, hz1, hz6, hb⟩ := hrel
            obtain ⟨w6, rfl⟩ : ∃ w6 : World, w6 = wr := ⟨_, rfl⟩
            have HB6 := Lib.hid hb
            clear hb
            by_cases hz : z < 6
            · obtain ⟨cc, hcc⟩ := u8of z ⟨hz1, hz6⟩
              have h46 := next HK4.out HB6.out
              have H46 := Lib.hid h46
              clear h46
              go_wp2_with fail
              refine (calls_n w6 z _ (KD g wf.heap.size fl) 24 24 rfl (by omega) (by omega) (((kd_cells wf g fl HFL.out.2).below HB6.out).up HB6.out.size) (fun x hx => by
                have h := kd_good wf g fl HFL.out.2 HFL.out.1 x hx
                exact ⟨h.1, h.2.1, (h.2.2.1.below HB6.out).up HB6.out.size, h.2.2.2⟩)).mono ?_
              rintro e w7 ⟨rfl, hb⟩
              have HC7 := Lib.hid (next HB6.out hb)
              have H7 := Lib.hid (next HK4.out HC7.out)
              clear hb
              go_wp2_with fail
              refine (fails_n w7 _ (KP g ga fl) 4 4 rfl (by omega) (by omega) ((HP.out.2.2.2.2.below H7.out).up H7.out.size) (good_keep H7.out (kp_good HP.out.1 HP.out.2.1 HP.out.2.2.1)) cc _ rfl).mono ?_
              rintro e w8 ⟨rfl, hb⟩
              have HC8 := Lib.hid (next HC7.out hb)
              have H8 := Lib.hid (next HK4.out HC8.out)
              clear hb
              go_wp2_with fail
              have hb1 := nextA (nextA H8.out (.cells #[.int .u8 255, .int .u8 1] 5)) (.cells #[.int .u8 3] 5)
              have e1 := new_bytes w8 #[.int .u8 255, .int .u8 1] 5 (0, 0) [255, 1] rfl _ rfl
              have e2 := new_bytes (w8.alloc (.cells #[.int .u8 255, .int .u8 1] 5)) #[.int .u8 3] 5 (0, 0) [3] rfl (w8.heap.size + 1) (World.size_alloc ..)
              have hst := settled_n ((w8.alloc (.cells #[.int .u8 255, .int .u8 1] 5)).alloc (.cells #[.int .u8 3] 5)) (some ⟨gp, 0, none⟩) (KP g ga fl) 4 4 rfl (by omega) (by omega) ((HP.out.2.2.2.2.below hb1).up hb1.size) (good_keep hb1 (kp_good HP.out.1 HP.out.2.1 HP.out.2.2.1)) (some ⟨gp, 0, none⟩) (KP g ga fl) 4 4 rfl (by omega) (by omega) ((HP.out.2.2.2.2.below hb1).up hb1.size) (good_keep hb1 (kp_good HP.out.1 HP.out.2.1 HP.out.2.2.1)) (some ⟨w8.heap.size, 0, none⟩) [255, 1] 2 2 rfl (by omega) (by omega) ((e1.below (nextA (Mem.start _) _)).up (nextA (Mem.start _) _).size) (some ⟨w8.heap.size + 1, 0, none⟩) [3] 1 1 rfl (by omega) (by omega) e2
              have HB1 := Lib.hid hb1
              clear e1 e2 hb1
              refine hst.mono ?_
              clear hst
              rintro e w9 ⟨rfl, hb⟩
              have HC9 := Lib.hid (next (nextA (nextA HC8.out (.cells #[.int .u8 255, .int .u8 1] 5)) (.cells #[.int .u8 3] 5)) hb)
              have H9 := Lib.hid (next HK4.out HC9.out)
              clear hb
              go_wp2_with fail
              have hb1 := nextA (nextA H9.out (.cells #[.int .u8 (cc.toNat : Int)] 5)) (.cells #[.int .u8 9, .int .u8 255] 5)
              have e1 := new_bytes w9 #[.int .u8 (cc.toNat : Int)] 5 (0, 0) [cc] rfl _ rfl
              have e2 := new_bytes (w9.alloc (.cells #[.int .u8 (cc.toNat : Int)] 5)) #[.int .u8 9, .int .u8 255] 5 (0, 0) [9, 255] rfl (w9.heap.size + 1) (World.size_alloc ..)
              have htw := twins_n ((w9.alloc (.cells #[.int .u8 (cc.toNat : Int)] 5)).alloc (.cells #[.int .u8 9, .int .u8 255] 5)) (some ⟨gp, 0, none⟩) (KP g ga fl) 4 4 rfl (by omega) (by omega) ((HP.out.2.2.2.2.below hb1).up hb1.size) (good_keep hb1 (kp_good HP.out.1 HP.out.2.1 HP.out.2.2.1)) (some ⟨gp, 2, none⟩) (KP g ga fl).tail 3 3 rfl (by omega) (by omega) (by
                have h := ((HP.out.2.2.2.2.below hb1).up hb1.size).drop 2
                rw [Nat.zero_add] at h
                exact h) (fun x hx => good_keep hb1 (kp_good HP.out.1 HP.out.2.1 HP.out.2.2.1) x (List.mem_of_mem_tail hx)) (some ⟨w9.heap.size, 0, none⟩) [cc] 1 1 rfl (by omega) (by omega) ((e1.below (nextA (Mem.start _) _)).up (nextA (Mem.start _) _).size) (some ⟨w9.heap.size + 1, 0, none⟩) [9, 255] 2 2 rfl (by omega) (by omega) e2
              have HB2 := Lib.hid hb1
              clear e1 e2 hb1
              refine htw.mono ?_
              clear htw
              rintro e w10 ⟨rfl, hb⟩
              have HC10 := Lib.hid (next (nextA (nextA HC9.out (.cells #[.int .u8 (cc.toNat : Int)] 5)) (.cells #[.int .u8 9, .int .u8 255] 5)) hb)
              clear hb hcc
              go_wp2_with fail
              go_roundw
              case rel => exact ⟨z + 1, rfl, by omega, by omega, HC10.out⟩
              case measure => simp [intOf]; omega
            · obtain rfl : z = 6 := by omega
              have HWB := Lib.hid (next (next (show Below w.heap.size w w4 from by rw [HG.out.1]; exact HP.out.2.2.2.1) HK4.out) HB6.out)
              go_wp2_with fail
              refine (nil_fail w6).mono ?_
              rintro e w' ⟨rfl, rfl⟩
              go_wp2_with fail
              refine (nil_crash w6).mono ?_
              rintro e w' ⟨rfl, rfl⟩
              go_wp2_with fail
              refine (nil_on w6).mono ?_
              rintro e w' ⟨rfl, rfl⟩
              go_wp2_with fail
              refine (nil_read w6).mono ?_
              rintro e w' ⟨rfl, rfl⟩
              go_wp2_with fail
              refine (nil_blocks w6).mono ?_
              rintro e w' ⟨rfl, rfl⟩
              go_wp2_with fail
              refine (nil_write w6).mono ?_
              rintro e w' ⟨rfl, rfl⟩
              go_wp2_with fail
              refine (nil_sync w6).mono ?_
              rintro e w7 ⟨rfl, hb⟩
              have H7 := Lib.hid (next HWB.out hb)
              clear hb
              go_wp2_with fail
              refine (nil_steps w7).mono ?_
              rintro e w' ⟨rfl, rfl⟩
              go_wp2_with fail
              refine (nil_open w7).mono ?_
              rintro e w' ⟨rfl, rfl⟩
              go_wp2_with fail
              refine (nil_off w7).mono ?_
              rintro e w' ⟨rfl, rfl⟩
              go_wp2_with fail
              refine (nil_copy w7).mono ?_
              rintro e w' ⟨rfl, rfl⟩
              go_wp2_with fail
              refine (dnew (DSt.start w7) 5000).mono ?_
              rintro e w8 ⟨p8, rfl, h, hb⟩
              have H8 := Lib.hid (And.intro (show DSt w7 [(p8, DS.new 4096)] (fun _ => False) w8 from h) (next H7.out hb))
              clear h hb
              go_wp2_with fail
              refine (dblocks H8.out.1 (i := 0) rfl).mono ?_
              rintro e w' ⟨rfl, rfl⟩
              rw [show (((DS.new 4096).n : Nat) : Int) = 4096 from rfl]
              go_wp2_with fail
              refine (works_any w8).mono ?_
              rintro e w9 ⟨rfl, hb⟩
              have H9 := Lib.hid (next H8.out.2 hb)
              clear hb
              go_wp2_with fail
              go_ret
              exact ⟨rfl, H9.out⟩
end Go.Proofs.Ytjpelifafmkdpaa.DkW
