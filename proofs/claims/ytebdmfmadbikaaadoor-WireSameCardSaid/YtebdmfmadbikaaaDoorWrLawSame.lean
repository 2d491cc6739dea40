/- The law WireSame, walked. Printed by genwlsame.py (raw numbers of the seat). -/
import Derived.Test.YtebdmfmadbikaaaDoorWrRSame
namespace Go.Proofs.YtebdmfmadbikaaaDoor.WiW
open Go.RowKit Go.Shelf Mem Fds FdW Wi Rng
set_option linter.unusedVariables false
set_option linter.unusedSimpArgs false

/-- Two boxes, and what came before. -/
def Two (w : World) (bx : Nat) (m : Msg) (s : Sl) (n : Msg) (t : Sl) (V : World) : Prop := Blk V bx 27 (mv m s) ∧ Blk V (bx + 1) 27 (mv n t) ∧ Below w.heap.size w V
theorem Two.keep {w V V' : World} {bx : Nat} {m n : Msg} {s t : Sl} (h : Two w bx m s n t V) (hb : Below V.heap.size V V') : Two w bx m s n t V' := ⟨h.1.keep hb, h.2.1.keep hb, next h.2.2 hb⟩
set_option maxRecDepth 100000 in
set_option maxHeartbeats 16000000 in
theorem same_law (w : World) (hT : HasT w) (m : Msg) (s : Sl) (hm : MIn0 w w.heap.size m s) (n : Msg) (t : Sl) (hn : MIn0 w w.heap.size n t) :
    Calls Tryd.prog 6 #[.agg (mv m s), .agg (mv n t)] w fun e w' => e = .returned (.bool true) ∧ Below w.heap.size w w' := by
  obtain ⟨bx, hbx⟩ : ∃ bx, w.heap.size = bx := ⟨_, rfl⟩
  obtain ⟨w1, hw1⟩ : ∃ x : World, (w.alloc (.cells (mv m s) 27)).alloc (.cells (mv n t) 27) = x := ⟨_, rfl⟩
  have hb1 : Below w.heap.size w w1 := by rw [← hw1]; exact nextA (nextA (Mem.start w) _) _
  have H1 := Lib.hid (show Two w bx m s n t w1 by
    rw [← hw1, ← hbx]
    refine ⟨(Blk.new w _ _).keep (nextA (Mem.start _) _), ?_, nextA (nextA (Mem.start w) _) _⟩
    have := Blk.new (w.alloc (.cells (mv m s) 27)) 27 (mv n t)
    rw [World.size_alloc] at this; exact this)
  have HI := Lib.hid (And.intro hT (And.intro hm hn))
  have ca0 := H1.out.1.cell 0
  have ca1 := H1.out.1.cell 1
  have ca2 := H1.out.1.cell 2
  have ca3 := H1.out.1.cell 3
  have ca4 := H1.out.1.cell 4
  have ca5 := H1.out.1.cell 5
  have ca6 := H1.out.1.cell 6
  have ca7 := H1.out.1.cell 7
  have ca8 := H1.out.1.cell 8
  have ca9 := H1.out.1.cell 9
  have ca10 := H1.out.1.cell 10
  have ca11 := H1.out.1.cell 11
  have ca12 := H1.out.1.cell 12
  have ca13 := H1.out.1.cell 13
  simp [mv] at ca0 ca1 ca2 ca3 ca4 ca5 ca6 ca7 ca8 ca9 ca10 ca11 ca12 ca13
  clear hT hm hn hb1
  cases hf : few m
  · have HF := Lib.hid hf
    clear hf
    go_enter Tryd.func6, Tryd.ntmps6
    go_wp2_with fail
    refine (few_any w1 m s (HI.out.2.1.keep H1.out.2.2)).mono ?_
    rintro e w2 ⟨rfl, hb⟩
    rw [HF.out]
    have H2 := Lib.hid (H1.out.keep hb)
    clear hb ca0 ca1 ca2 ca3 ca4 ca5 ca6 ca7 ca8 ca9 ca10 ca11 ca12 ca13 hw1 hbx
    go_wp2_with fail
    refine (works_any w2 (HI.out.1.keep H2.out.2.2)).mono ?_
    rintro e w3 ⟨rfl, hb⟩
    have H3 := Lib.hid (next H2.out.2.2 hb)
    clear hb
    go_wp2_with fail
    go_ret
    exact ⟨rfl, H3.out⟩
  · have HF := Lib.hid hf
    clear hf
    go_enter Tryd.func6, Tryd.ntmps6
    go_wp2_with fail
    refine (few_any w1 m s (HI.out.2.1.keep H1.out.2.2)).mono ?_
    rintro e w2 ⟨rfl, hb⟩
    rw [HF.out]
    have H2 := Lib.hid (H1.out.keep hb)
    clear hb ca0 ca1 ca2 ca3 ca4 ca5 ca6 ca7 ca8 ca9 ca10 ca11 ca12 ca13 hw1 hbx
    have cb0 := H2.out.2.1.cell 0
    have cb1 := H2.out.2.1.cell 1
    have cb2 := H2.out.2.1.cell 2
    have cb3 := H2.out.2.1.cell 3
    have cb4 := H2.out.2.1.cell 4
    have cb5 := H2.out.2.1.cell 5
    have cb6 := H2.out.2.1.cell 6
    have cb7 := H2.out.2.1.cell 7
    have cb8 := H2.out.2.1.cell 8
    have cb9 := H2.out.2.1.cell 9
    have cb10 := H2.out.2.1.cell 10
    have cb11 := H2.out.2.1.cell 11
    have cb12 := H2.out.2.1.cell 12
    have cb13 := H2.out.2.1.cell 13
    simp [mv] at cb0 cb1 cb2 cb3 cb4 cb5 cb6 cb7 cb8 cb9 cb10 cb11 cb12 cb13
    go_wp2_with fail
    refine (few_any w2 n t (HI.out.2.2.keep H2.out.2.2)).mono ?_
    rintro e w3 ⟨rfl, hb⟩
    have H3 := Lib.hid (H2.out.keep hb)
    clear hb cb0 cb1 cb2 cb3 cb4 cb5 cb6 cb7 cb8 cb9 cb10 cb11 cb12 cb13
    cases hf : few n
    · clear hf
      go_wp2_with fail
      refine (works_any w3 (HI.out.1.keep H3.out.2.2)).mono ?_
      rintro e w4 ⟨rfl, hb⟩
      have H4 := Lib.hid (next H3.out.2.2 hb)
      clear hb
      go_wp2_with fail
      go_ret
      exact ⟨rfl, H4.out⟩
    · have HG := Lib.hid hf
      clear hf
      have HM := Lib.hid (And.intro (HI.out.2.1.small HF.out) (HI.out.2.2.small HG.out))
      obtain ⟨q, hq⟩ : ∃ q, same m n = q := ⟨_, rfl⟩
      have HQ := Lib.hid hq
      clear hq
      go_wp2_with fail
      refine wp_region_noPanic ?_
      refine wp_heldG (fun V => Two w bx m s n t V) [] (by kernel_rfl) ?hs0 ?rg0
      case hs0 =>
        exact H3.out.keep (nextN (Mem.start _) 1)
      case rg0 =>
      intro hHeld
      refine wpAnyG_take (i := 0) (oi := { dst := some 14, op := Op.load 27 (Operand.tmp 2), type := 27, pos := _, after := #[], guard := none }) (v := ?_) rfl (by kernel_rfl) (by kernel_rfl) (by kernel_rfl) (by kernel_rfl) (fun _ _ _ h => h) (Or.inl ⟨by rfl, ?_⟩) (by assumption) ?_
      rotate_left
      · intro w hSw
        try dsimp only at hSw
        refine exec_load 27 (.tmp 2) ?_ _ ?_ (.agg (mv m s)) (load_msg hSw.1)
        · rfl
        · rfl
      try simp only [Act.put, List.setIfInBounds_toArray, List.set_cons_zero, List.set_cons_succ]
      refine wpAnyG_take (i := 1) (oi := { dst := some 15, op := Op.load 27 (Operand.tmp 3), type := 27, pos := _, after := #[], guard := none }) (v := ?_) rfl (by kernel_rfl) (by kernel_rfl) (by kernel_rfl) (by kernel_rfl) (fun _ _ _ h => h) (Or.inl ⟨by rfl, ?_⟩) (by assumption) ?_
      rotate_left
      · intro w hSw
        try dsimp only at hSw
        refine exec_load 27 (.tmp 3) ?_ _ ?_ (.agg (mv n t)) (load_msg hSw.2.1)
        · rfl
        · rfl
      try simp only [Act.put, List.setIfInBounds_toArray, List.set_cons_zero, List.set_cons_succ]
      refine wpAnyG_take (i := 3) (oi := { dst := some 17, op := Op.load 27 (Operand.tmp 2), type := 27, pos := _, after := #[], guard := none }) (v := ?_) rfl (by kernel_rfl) (by kernel_rfl) (by kernel_rfl) (by kernel_rfl) (fun _ _ _ h => h) (Or.inl ⟨by rfl, ?_⟩) (by assumption) ?_
      rotate_left
      · intro w hSw
        try dsimp only at hSw
        refine exec_load 27 (.tmp 2) ?_ _ ?_ (.agg (mv m s)) (load_msg hSw.1)
        · rfl
        · rfl
      try simp only [Act.put, List.setIfInBounds_toArray, List.set_cons_zero, List.set_cons_succ]
      refine wpAnyG_take (i := 5) (oi := { dst := some 19, op := Op.load 27 (Operand.tmp 3), type := 27, pos := _, after := #[], guard := none }) (v := ?_) rfl (by kernel_rfl) (by kernel_rfl) (by kernel_rfl) (by kernel_rfl) (fun _ _ _ h => h) (Or.inl ⟨by rfl, ?_⟩) (by assumption) ?_
      rotate_left
      · intro w hSw
        try dsimp only at hSw
        refine exec_load 27 (.tmp 3) ?_ _ ?_ (.agg (mv n t)) (load_msg hSw.2.1)
        · rfl
        · rfl
      try simp only [Act.put, List.setIfInBounds_toArray, List.set_cons_zero, List.set_cons_succ]
      refine wpAnyG_one (i := 2) (o := { dst := some 16, op := Op.call { callee := Callee.value (Operand.func 18), args := #[Operand.tmp 14, Operand.tmp 15], argTypes := #[27, 27] }, type := 4, pos := _, after := #[{ on := 0, ground := Ground.data }, { on := 1, ground := Ground.data }], guard := none }) (by kernel_rfl) rfl (fun K hK => ?_)
      go_simp
      refine (same_any _ _ _ _ _ (HM.out.1.keep hHeld.2.2) (HM.out.2.keep hHeld.2.2)).mono ?_
      rintro e w4 ⟨rfl, hb⟩
      rw [HQ.out]
      try dsimp only
      refine hK.out _ _ ?_ (fun hHeld => ?_)
      · intro _
        try dsimp only
        exact hHeld.keep hb
      clear hK K
      try simp only [Act.put, List.setIfInBounds_toArray, List.set_cons_zero, List.set_cons_succ]
      have hHeld := hHeld (by kernel_rfl)
      refine wpAnyG_one (i := 4) (o := { dst := some 18, op := Op.call { callee := Callee.value (Operand.func 12), args := #[Operand.tmp 17], argTypes := #[27] }, type := 33, pos := _, after := #[{ on := 3, ground := Ground.data }, { on := 2, ground := Ground.chain }], guard := none }) (by kernel_rfl) rfl (fun K hK => ?_)
      go_simp
      refine (plain_any _ m s (HM.out.1.keep hHeld.2.2)).mono ?_
      rintro e w5 ⟨A5, c5, rfl, hp5, hb⟩
      have HP5 := Lib.hid hp5
      clear hp5
      try dsimp only
      refine hK.out _ _ ?_ (fun hHeld => ?_)
      · intro _
        try dsimp only
        exact hHeld.keep hb
      clear hK K
      try simp only [Act.put, List.setIfInBounds_toArray, List.set_cons_zero, List.set_cons_succ]
      have hHeld := hHeld (by kernel_rfl)
      refine wpAnyG_one (i := 6) (o := { dst := some 20, op := Op.call { callee := Callee.value (Operand.func 12), args := #[Operand.tmp 19], argTypes := #[27] }, type := 33, pos := _, after := #[{ on := 5, ground := Ground.data }, { on := 4, ground := Ground.chain }], guard := none }) (by kernel_rfl) rfl (fun K hK => ?_)
      go_simp
      refine (plain_any _ n t (HM.out.2.keep hHeld.2.2)).mono ?_
      rintro e w6 ⟨A6, c6, rfl, hp6, hb⟩
      have HP6 := Lib.hid (And.intro (HP5.out.keep hb) hp6)
      clear hp6
      try dsimp only
      refine hK.out _ _ ?_ (fun hHeld => ?_)
      · intro _
        try dsimp only
        exact hHeld.keep hb
      clear hK K
      try simp only [Act.put, List.setIfInBounds_toArray, List.set_cons_zero, List.set_cons_succ]
      have hHeld := hHeld (by kernel_rfl)
      refine wpAnyG_one (i := 7) (o := { dst := some 21, op := Op.call { callee := Callee.value (Operand.func 17), args := #[Operand.tmp 18, Operand.tmp 20], argTypes := #[33, 33] }, type := 4, pos := _, after := #[{ on := 4, ground := Ground.data }, { on := 6, ground := Ground.data }, { on := 6, ground := Ground.chain }], guard := none }) (by kernel_rfl) rfl (fun K hK => ?_)
      go_simp
      refine (rsame_any _ m n _ _ _ _ _ _ _ _ HP6.out.1 HP6.out.2).mono ?_
      rintro e w7 ⟨rfl, hb⟩
      rw [HQ.out]
      try dsimp only
      refine hK.out _ _ ?_ (fun hHeld => ?_)
      · intro _
        try dsimp only
        exact hHeld.keep hb
      clear hK K
      try simp only [Act.put, List.setIfInBounds_toArray, List.set_cons_zero, List.set_cons_succ]
      have hHeld := hHeld (by kernel_rfl)
      refine wpAnyG_pure (i := 8) (oi := { dst := some 22, op := Op.binOp BinOp.eql 4 (Operand.tmp 16) (Operand.tmp 21) 4, type := 4, pos := _, after := #[{ on := 2, ground := Ground.data }, { on := 7, ground := Ground.data }], guard := none }) (v := ?_) rfl (by kernel_rfl) (by kernel_rfl) (by kernel_rfl) (by kernel_rfl) (fun _ _ _ h => h) (Or.inl ⟨by rfl, ?_⟩) (fun _ => by assumption) ?_
      rotate_left
      · intro w hSw
        try dsimp only at hSw
        go_simp
        try with_reducible rfl
      try simp only [Act.put, List.setIfInBounds_toArray, List.set_cons_zero, List.set_cons_succ]
      refine wpAnyG_pure (i := 9) (oi := { dst := some 23, op := Op.move (Operand.tmp 22), type := 4, pos := _, after := #[{ on := 8, ground := Ground.data }, { on := 7, ground := Ground.chain }], guard := none }) (v := ?_) rfl (by kernel_rfl) (by kernel_rfl) (by kernel_rfl) (by kernel_rfl) (fun _ _ _ h => h) (Or.inl ⟨by rfl, ?_⟩) (fun _ => by assumption) ?_
      rotate_left
      · intro w hSw
        try dsimp only at hSw
        go_simp
        try with_reducible rfl
      try simp only [Act.put, List.setIfInBounds_toArray, List.set_cons_zero, List.set_cons_succ]
      refine wpAnyG_take (i := 10) (oi := { dst := some 24, op := Op.load 27 (Operand.tmp 2), type := 27, pos := _, after := #[{ on := 9, ground := Ground.guard }], guard := some (9, true) }) (v := ?_) rfl (by kernel_rfl) (by kernel_rfl) (by kernel_rfl) (by kernel_rfl) (fun _ _ _ h => h) (Or.inl ⟨by rfl, ?_⟩) (by assumption) ?_
      rotate_left
      · intro w hSw
        try dsimp only at hSw
        refine exec_load 27 (.tmp 2) ?_ _ ?_ (.agg (mv m s)) (load_msg hSw.1)
        · rfl
        · rfl
      try simp only [Act.put, List.setIfInBounds_toArray, List.set_cons_zero, List.set_cons_succ]
      refine wpAnyG_take (i := 11) (oi := { dst := some 25, op := Op.load 27 (Operand.tmp 2), type := 27, pos := _, after := #[{ on := 9, ground := Ground.guard }], guard := some (9, true) }) (v := ?_) rfl (by kernel_rfl) (by kernel_rfl) (by kernel_rfl) (by kernel_rfl) (fun _ _ _ h => h) (Or.inl ⟨by rfl, ?_⟩) (by assumption) ?_
      rotate_left
      · intro w hSw
        try dsimp only at hSw
        refine exec_load 27 (.tmp 2) ?_ _ ?_ (.agg (mv m s)) (load_msg hSw.1)
        · rfl
        · rfl
      try simp only [Act.put, List.setIfInBounds_toArray, List.set_cons_zero, List.set_cons_succ]
      refine wpAnyG_one (i := 12) (o := { dst := some 26, op := Op.call { callee := Callee.value (Operand.func 18), args := #[Operand.tmp 24, Operand.tmp 25], argTypes := #[27, 27] }, type := 4, pos := _, after := #[{ on := 10, ground := Ground.data }, { on := 11, ground := Ground.data }, { on := 9, ground := Ground.chain }, { on := 9, ground := Ground.guard }], guard := some (9, true) }) (by kernel_rfl) rfl (fun K hK => ?_)
      go_simp
      refine (same_any _ _ _ _ _ (HM.out.1.keep hHeld.2.2) (HM.out.1.keep hHeld.2.2)).mono ?_
      rintro e w8 ⟨rfl, hb⟩
      rw [same_refl]
      try dsimp only
      refine hK.out _ _ ?_ (fun hHeld => ?_)
      · intro _
        try dsimp only
        exact hHeld.keep hb
      clear hK K
      try simp only [Act.put, List.setIfInBounds_toArray, List.set_cons_zero, List.set_cons_succ]
      have hHeld := hHeld (by kernel_rfl)
      refine wpAnyG_pure (i := 13) (oi := { dst := some 27, op := Op.pick (Operand.tmp 23) (Operand.tmp 26) (Operand.const (Value.bool false)), type := 4, pos := _, after := #[{ on := 9, ground := Ground.data }, { on := 12, ground := Ground.data }], guard := none }) (v := ?_) rfl (by kernel_rfl) (by kernel_rfl) (by kernel_rfl) (by kernel_rfl) (fun _ _ _ h => h) (Or.inl ⟨by rfl, ?_⟩) (fun _ => by assumption) ?_
      rotate_left
      · intro w hSw
        try dsimp only at hSw
        go_simp
        try with_reducible rfl
      try simp only [Act.put, List.setIfInBounds_toArray, List.set_cons_zero, List.set_cons_succ]
      refine wpAnyG_pure (i := 14) (oi := { dst := some 28, op := Op.move (Operand.tmp 27), type := 4, pos := _, after := #[{ on := 13, ground := Ground.data }, { on := 12, ground := Ground.chain }], guard := none }) (v := ?_) rfl (by kernel_rfl) (by kernel_rfl) (by kernel_rfl) (by kernel_rfl) (fun _ _ _ h => h) (Or.inl ⟨by rfl, ?_⟩) (fun _ => by assumption) ?_
      rotate_left
      · intro w hSw
        try dsimp only at hSw
        go_simp
        try with_reducible rfl
      try simp only [Act.put, List.setIfInBounds_toArray, List.set_cons_zero, List.set_cons_succ]
      refine wpAnyG_one (i := 15) (o := { dst := some 29, op := Op.call { callee := Callee.value (Operand.func 10), args := #[], argTypes := #[] }, type := 4, pos := _, after := #[{ on := 14, ground := Ground.chain }, { on := 14, ground := Ground.guard }], guard := some (14, true) }) (by kernel_rfl) rfl (fun K hK => ?_)
      go_simp
      refine (works_any _ (HI.out.1.keep hHeld.2.2)).mono ?_
      rintro e w9 ⟨rfl, hb⟩
      try dsimp only
      refine hK.out _ _ ?_ (fun hHeld => ?_)
      · intro _
        try dsimp only
        exact hHeld.keep hb
      clear hK K
      try simp only [Act.put, List.setIfInBounds_toArray, List.set_cons_zero, List.set_cons_succ]
      have hHeld := hHeld (by kernel_rfl)
      refine wpAnyG_pure (i := 16) (oi := { dst := some 30, op := Op.pick (Operand.tmp 28) (Operand.tmp 29) (Operand.const (Value.bool false)), type := 4, pos := _, after := #[{ on := 14, ground := Ground.data }, { on := 15, ground := Ground.data }], guard := none }) (v := ?_) rfl (by kernel_rfl) (by kernel_rfl) (by kernel_rfl) (by kernel_rfl) (fun _ _ _ h => h) (Or.inl ⟨by rfl, ?_⟩) (fun _ => by assumption) ?_
      rotate_left
      · intro w hSw
        try dsimp only at hSw
        go_simp
        try with_reducible rfl
      try simp only [Act.put, List.setIfInBounds_toArray, List.set_cons_zero, List.set_cons_succ]
      refine wpAnyG_pure (i := 17) (oi := { dst := some 4, op := Op.assign (Operand.tmp 30), type := 4, pos := _, after := #[{ on := 16, ground := Ground.data }, { on := 15, ground := Ground.chain }, { on := 0, ground := Ground.phase }, { on := 1, ground := Ground.phase }, { on := 2, ground := Ground.phase }, { on := 3, ground := Ground.phase }, { on := 4, ground := Ground.phase }, { on := 5, ground := Ground.phase }, { on := 6, ground := Ground.phase }, { on := 7, ground := Ground.phase }, { on := 8, ground := Ground.phase }, { on := 9, ground := Ground.phase }, { on := 10, ground := Ground.phase }, { on := 11, ground := Ground.phase }, { on := 12, ground := Ground.phase }, { on := 13, ground := Ground.phase }, { on := 14, ground := Ground.phase }, { on := 15, ground := Ground.phase }, { on := 16, ground := Ground.phase }], guard := none }) (v := ?_) rfl (by kernel_rfl) (by kernel_rfl) (by kernel_rfl) (by kernel_rfl) (fun _ _ _ h => h) (Or.inl ⟨by rfl, ?_⟩) (fun _ => by assumption) ?_
      rotate_left
      · intro w hSw
        try dsimp only at hSw
        go_simp
        try with_reducible rfl
      try simp only [Act.put, List.setIfInBounds_toArray, List.set_cons_zero, List.set_cons_succ]
      refine wpAnyG_done (by kernel_rfl) ?_ _
      refine NoPanic.normal ?_
      have HH := Lib.hid hHeld
      clear hHeld
      go_wp2_with fail
      go_ret
      exact ⟨rfl, HH.out.2.2⟩
end Go.Proofs.YtebdmfmadbikaaaDoor.WiW
