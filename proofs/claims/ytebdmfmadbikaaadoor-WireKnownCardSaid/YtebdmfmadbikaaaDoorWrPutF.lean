/- Package wire's put, a field at a time. Printed by genwput.py (raw numbers of the seat). -/
import Derived.Test.YtebdmfmadbikaaaDoorWrW
import Derived.Test.YtebdmfmadbikaaaDoorWf
namespace Go.Proofs.YtebdmfmadbikaaaDoor.WiW
open Go.RowKit Go.Shelf Mem Fds FdW Wi Rng
set_option linter.unusedVariables false
set_option linter.unusedSimpArgs false
theorem txt_len (s : List UInt8) : (txt s).length = s.length + 1 := by unfold txt; rw [List.length_append, be_len]; omega
set_option maxRecDepth 100000 in
set_option maxHeartbeats 8000000 in
theorem put0_any (W : World) (base p : Nat) (l : List UInt8) (m : Msg) (s : Sl) (hS : WS base p l W) (hl : l.length ≤ 800000) (hM : MIn W base m s) (hm : MayF m) :
    Calls Tryd.prog 32 #[.pointer (some ⟨p, 0, none⟩), .int .u16 (bit 0), .agg (mv m s)] W (PutS W base p (l ++ fb m 0)) := by
  obtain ⟨bx, hbx⟩ : ∃ bx, W.heap.size = bx := ⟨_, rfl⟩
  have hpb : bx ≠ p := by obtain ⟨_, A, c, h⟩ := hS; have := h.blk.lt; omega
  have HBX := Lib.hid hbx
  have HBP := Lib.hid hpb
  have HMF := Lib.hid hm
  have HM := Lib.hid hM
  have HL := Lib.hid hl
  have HBS := Lib.hid hS.1
  rw [show bit 0 = 1 from rfl]
  have hr := hm.req
  obtain ⟨n, hn⟩ : ∃ n : Nat, m.req.toNat = n := ⟨_, rfl⟩
  have hwf : IntKind.u64.wrap m.req = (n : Int) := by
    have e : ∀ x : Int, IntKind.u64.wrap x = x % 18446744073709551616 := fun _ => rfl
    rw [e]; omega
  have HN := Lib.hid (show n < 256 ^ 8 by omega)
  rw [show fb m 0 = be 8 n by rw [← hn]; rfl]
  clear hr hn
  obtain ⟨w1, hw1⟩ : ∃ w1 : World, (W.alloc (.cells (mv m s) 27)).drew = w1 := ⟨_, rfl⟩
  have hb1 : Below W.heap.size W w1 := by rw [← hw1]; exact nextN (nextA (Mem.start W) _) 1
  have HB1 := Lib.hid hb1
  have HX := Lib.hid (show Blk w1 bx 27 (mv m s) by rw [← hw1, ← hbx]; exact (Blk.new W _ _).keep (nextN (Mem.start _) 1))
  have HWS := Lib.hid (hS.keep hb1)
  have HW1 := Lib.hid hw1
  clear hS hl hM hm hbx hpb hb1 hw1
  go_enter Tryd.func32, Tryd.ntmps32
  go_wp2_with fail
  rw [HBX.out]
  refine wp_region_noPanic ?_
  refine wp_heldG (fun V => Blk V bx 27 (mv m s)) [] (by kernel_rfl) ?hs0 ?rg0
  case hs0 =>
    rw [HW1.out]; exact HX.out
  case rg0 =>
  intro hHeld
  rw [HW1.out] at hHeld ⊢
  refine wpAnyG_pure (i := 0) (oi := { dst := some 13, op := Op.move (Operand.tmp 0), type := 104, pos := _, after := #[], guard := none }) (v := ?_) rfl (by kernel_rfl) (by kernel_rfl) (by kernel_rfl) (by kernel_rfl) (fun _ _ _ h => h) (Or.inl ⟨by rfl, ?_⟩) (fun _ => by assumption) ?_
  rotate_left
  · intro w hSw
    try dsimp only at hSw
    go_simp
    try with_reducible rfl
  try simp only [Act.put, List.setIfInBounds_toArray, List.set_cons_zero, List.set_cons_succ]
  refine wpAnyG_pure (i := 1) (oi := { dst := some 14, op := Op.nilCheck (Operand.tmp 13), type := 0, pos := _, after := #[{ on := 0, ground := Ground.data }], guard := none }) (v := ?_) rfl (by kernel_rfl) (by kernel_rfl) (by kernel_rfl) (by kernel_rfl) (fun _ _ _ h => h) (Or.inl ⟨by rfl, ?_⟩) (fun _ => by assumption) ?_
  rotate_left
  · intro w hSw
    try dsimp only at hSw
    go_simp
    try with_reducible rfl
  try simp only [Act.put, List.setIfInBounds_toArray, List.set_cons_zero, List.set_cons_succ]
  refine wpAnyG_pure (i := 2) (oi := { dst := some 15, op := Op.fieldAddr 61 (Operand.tmp 14) 0, type := 0, pos := _, after := #[{ on := 1, ground := Ground.data }], guard := none }) (v := ?_) rfl (by kernel_rfl) (by kernel_rfl) (by kernel_rfl) (by kernel_rfl) (fun _ _ _ h => h) (Or.inl ⟨by rfl, ?_⟩) (fun _ => by assumption) ?_
  rotate_left
  · intro w hSw
    try dsimp only at hSw
    go_simp
    try with_reducible rfl
  try simp only [Act.put, List.setIfInBounds_toArray, List.set_cons_zero, List.set_cons_succ]
  refine wpAnyG_pure (i := 3) (oi := { dst := some 16, op := Op.fieldAddr 27 (Operand.tmp 5) 3, type := 0, pos := _, after := #[], guard := none }) (v := ?_) rfl (by kernel_rfl) (by kernel_rfl) (by kernel_rfl) (by kernel_rfl) (fun _ _ _ h => h) (Or.inl ⟨by rfl, ?_⟩) (fun _ => by assumption) ?_
  rotate_left
  · intro w hSw
    try dsimp only at hSw
    go_simp
    try with_reducible rfl
  try simp only [Act.put, List.setIfInBounds_toArray, List.set_cons_zero, List.set_cons_succ]
  refine wpAnyG_take (i := 4) (oi := { dst := some 17, op := Op.load 2 (Operand.tmp 16), type := 2, pos := _, after := #[{ on := 3, ground := Ground.data }], guard := none }) (v := ?_) rfl (by kernel_rfl) (by kernel_rfl) (by kernel_rfl) (by kernel_rfl) (fun _ _ _ h => h) (Or.inl ⟨by rfl, ?_⟩) (by assumption) ?_
  rotate_left
  · intro w hSw
    try dsimp only at hSw
    have hk := hSw.cell 3
    simp [mv] at hk
    go_simp
    try with_reducible rfl
  try simp only [Act.put, List.setIfInBounds_toArray, List.set_cons_zero, List.set_cons_succ]
  refine wpAnyG_pure (i := 5) (oi := { dst := some 18, op := Op.convert 2 90 (Operand.tmp 17), type := 90, pos := _, after := #[{ on := 4, ground := Ground.data }], guard := none }) (v := ?_) rfl (by kernel_rfl) (by kernel_rfl) (by kernel_rfl) (by kernel_rfl) (fun _ _ _ h => h) (Or.inl ⟨by rfl, ?_⟩) (fun _ => by assumption) ?_
  rotate_left
  · intro w hSw
    try dsimp only at hSw
    go_simp
    try with_reducible rfl
  try simp only [Act.put, List.setIfInBounds_toArray, List.set_cons_zero, List.set_cons_succ]
  refine wpAnyG_one (i := 6) (o := { dst := some 19, op := Op.call { callee := Callee.value (Operand.func 58), args := #[Operand.tmp 15, Operand.tmp 18], argTypes := #[59, 90] }, type := 0, pos := _, after := #[{ on := 2, ground := Ground.data }, { on := 5, ground := Ground.data }], guard := none }) (by kernel_rfl) rfl (fun K hK => ?_)
  go_simp
  refine (longS HWS.out (by have := HL.out; omega) n HN.out).mono ?_
  rintro e w' h1
  have H1 := Lib.hid h1
  obtain ⟨rfl, _, _, q3, _⟩ := h1
  try dsimp only
  refine hK.out _ _ ?_ (fun hHeld => ?_)
  · intro _
    try dsimp only
    exact q3 _ _ _ HBP.out (by decide) hHeld
  clear hK K
  try simp only [Act.put, List.setIfInBounds_toArray, List.set_cons_zero, List.set_cons_succ]
  have hHeld := hHeld (by kernel_rfl)
  refine wpAnyG_done (by kernel_rfl) ?_ _
  refine NoPanic.normal ?_
  clear hHeld hwf
  go_wp2_with fail
  go_end0
  exact H1.out.after HB1.out HBS.out
set_option maxRecDepth 100000 in
set_option maxHeartbeats 8000000 in
theorem put2_any (W : World) (base p : Nat) (l : List UInt8) (m : Msg) (s : Sl) (hS : WS base p l W) (hl : l.length ≤ 800000) (hM : MIn W base m s) (hm : MayF m) :
    Calls Tryd.prog 32 #[.pointer (some ⟨p, 0, none⟩), .int .u16 (bit 2), .agg (mv m s)] W (PutS W base p (l ++ fb m 2)) := by
  obtain ⟨bx, hbx⟩ : ∃ bx, W.heap.size = bx := ⟨_, rfl⟩
  have hpb : bx ≠ p := by obtain ⟨_, A, c, h⟩ := hS; have := h.blk.lt; omega
  have HBX := Lib.hid hbx
  have HBP := Lib.hid hpb
  have HMF := Lib.hid hm
  have HM := Lib.hid hM
  have HL := Lib.hid hl
  have HBS := Lib.hid hS.1
  rw [show bit 2 = 4 from rfl]
  have hr := hm.ver
  obtain ⟨n, hn⟩ : ∃ n : Nat, m.ver.toNat = n := ⟨_, rfl⟩
  have hwf : IntKind.u64.wrap m.ver = (n : Int) := by
    have e : ∀ x : Int, IntKind.u64.wrap x = x % 18446744073709551616 := fun _ => rfl
    rw [e]; omega
  have HN := Lib.hid (show n < 256 ^ 8 by omega)
  rw [show fb m 2 = be 8 n by rw [← hn]; rfl]
  clear hr hn
  obtain ⟨w1, hw1⟩ : ∃ w1 : World, (W.alloc (.cells (mv m s) 27)).drew = w1 := ⟨_, rfl⟩
  have hb1 : Below W.heap.size W w1 := by rw [← hw1]; exact nextN (nextA (Mem.start W) _) 1
  have HB1 := Lib.hid hb1
  have HX := Lib.hid (show Blk w1 bx 27 (mv m s) by rw [← hw1, ← hbx]; exact (Blk.new W _ _).keep (nextN (Mem.start _) 1))
  have HWS := Lib.hid (hS.keep hb1)
  have HW1 := Lib.hid hw1
  clear hS hl hM hm hbx hpb hb1 hw1
  go_enter Tryd.func32, Tryd.ntmps32
  go_wp2_with fail
  rw [HBX.out]
  refine wp_region_noPanic ?_
  refine wp_heldG (fun V => Blk V bx 27 (mv m s)) [] (by kernel_rfl) ?hs0 ?rg0
  case hs0 =>
    rw [HW1.out]; exact HX.out
  case rg0 =>
  intro hHeld
  rw [HW1.out] at hHeld ⊢
  refine wpAnyG_pure (i := 0) (oi := { dst := some 28, op := Op.move (Operand.tmp 0), type := 104, pos := _, after := #[], guard := none }) (v := ?_) rfl (by kernel_rfl) (by kernel_rfl) (by kernel_rfl) (by kernel_rfl) (fun _ _ _ h => h) (Or.inl ⟨by rfl, ?_⟩) (fun _ => by assumption) ?_
  rotate_left
  · intro w hSw
    try dsimp only at hSw
    go_simp
    try with_reducible rfl
  try simp only [Act.put, List.setIfInBounds_toArray, List.set_cons_zero, List.set_cons_succ]
  refine wpAnyG_pure (i := 1) (oi := { dst := some 29, op := Op.nilCheck (Operand.tmp 28), type := 0, pos := _, after := #[{ on := 0, ground := Ground.data }], guard := none }) (v := ?_) rfl (by kernel_rfl) (by kernel_rfl) (by kernel_rfl) (by kernel_rfl) (fun _ _ _ h => h) (Or.inl ⟨by rfl, ?_⟩) (fun _ => by assumption) ?_
  rotate_left
  · intro w hSw
    try dsimp only at hSw
    go_simp
    try with_reducible rfl
  try simp only [Act.put, List.setIfInBounds_toArray, List.set_cons_zero, List.set_cons_succ]
  refine wpAnyG_pure (i := 2) (oi := { dst := some 30, op := Op.fieldAddr 61 (Operand.tmp 29) 0, type := 0, pos := _, after := #[{ on := 1, ground := Ground.data }], guard := none }) (v := ?_) rfl (by kernel_rfl) (by kernel_rfl) (by kernel_rfl) (by kernel_rfl) (fun _ _ _ h => h) (Or.inl ⟨by rfl, ?_⟩) (fun _ => by assumption) ?_
  rotate_left
  · intro w hSw
    try dsimp only at hSw
    go_simp
    try with_reducible rfl
  try simp only [Act.put, List.setIfInBounds_toArray, List.set_cons_zero, List.set_cons_succ]
  refine wpAnyG_pure (i := 3) (oi := { dst := some 31, op := Op.fieldAddr 27 (Operand.tmp 5) 5, type := 0, pos := _, after := #[], guard := none }) (v := ?_) rfl (by kernel_rfl) (by kernel_rfl) (by kernel_rfl) (by kernel_rfl) (fun _ _ _ h => h) (Or.inl ⟨by rfl, ?_⟩) (fun _ => by assumption) ?_
  rotate_left
  · intro w hSw
    try dsimp only at hSw
    go_simp
    try with_reducible rfl
  try simp only [Act.put, List.setIfInBounds_toArray, List.set_cons_zero, List.set_cons_succ]
  refine wpAnyG_take (i := 4) (oi := { dst := some 32, op := Op.load 2 (Operand.tmp 31), type := 2, pos := _, after := #[{ on := 3, ground := Ground.data }], guard := none }) (v := ?_) rfl (by kernel_rfl) (by kernel_rfl) (by kernel_rfl) (by kernel_rfl) (fun _ _ _ h => h) (Or.inl ⟨by rfl, ?_⟩) (by assumption) ?_
  rotate_left
  · intro w hSw
    try dsimp only at hSw
    have hk := hSw.cell 5
    simp [mv] at hk
    go_simp
    try with_reducible rfl
  try simp only [Act.put, List.setIfInBounds_toArray, List.set_cons_zero, List.set_cons_succ]
  refine wpAnyG_pure (i := 5) (oi := { dst := some 33, op := Op.convert 2 90 (Operand.tmp 32), type := 90, pos := _, after := #[{ on := 4, ground := Ground.data }], guard := none }) (v := ?_) rfl (by kernel_rfl) (by kernel_rfl) (by kernel_rfl) (by kernel_rfl) (fun _ _ _ h => h) (Or.inl ⟨by rfl, ?_⟩) (fun _ => by assumption) ?_
  rotate_left
  · intro w hSw
    try dsimp only at hSw
    go_simp
    try with_reducible rfl
  try simp only [Act.put, List.setIfInBounds_toArray, List.set_cons_zero, List.set_cons_succ]
  refine wpAnyG_one (i := 6) (o := { dst := some 34, op := Op.call { callee := Callee.value (Operand.func 58), args := #[Operand.tmp 30, Operand.tmp 33], argTypes := #[59, 90] }, type := 0, pos := _, after := #[{ on := 2, ground := Ground.data }, { on := 5, ground := Ground.data }], guard := none }) (by kernel_rfl) rfl (fun K hK => ?_)
  go_simp
  refine (longS HWS.out (by have := HL.out; omega) n HN.out).mono ?_
  rintro e w' h1
  have H1 := Lib.hid h1
  obtain ⟨rfl, _, _, q3, _⟩ := h1
  try dsimp only
  refine hK.out _ _ ?_ (fun hHeld => ?_)
  · intro _
    try dsimp only
    exact q3 _ _ _ HBP.out (by decide) hHeld
  clear hK K
  try simp only [Act.put, List.setIfInBounds_toArray, List.set_cons_zero, List.set_cons_succ]
  have hHeld := hHeld (by kernel_rfl)
  refine wpAnyG_done (by kernel_rfl) ?_ _
  refine NoPanic.normal ?_
  clear hHeld hwf
  go_wp2_with fail
  go_end0
  exact H1.out.after HB1.out HBS.out
set_option maxRecDepth 100000 in
set_option maxHeartbeats 8000000 in
theorem put3_any (W : World) (base p : Nat) (l : List UInt8) (m : Msg) (s : Sl) (hS : WS base p l W) (hl : l.length ≤ 800000) (hM : MIn W base m s) (hm : MayF m) :
    Calls Tryd.prog 32 #[.pointer (some ⟨p, 0, none⟩), .int .u16 (bit 3), .agg (mv m s)] W (PutS W base p (l ++ fb m 3)) := by
  obtain ⟨bx, hbx⟩ : ∃ bx, W.heap.size = bx := ⟨_, rfl⟩
  have hpb : bx ≠ p := by obtain ⟨_, A, c, h⟩ := hS; have := h.blk.lt; omega
  have HBX := Lib.hid hbx
  have HBP := Lib.hid hpb
  have HMF := Lib.hid hm
  have HM := Lib.hid hM
  have HL := Lib.hid hl
  have HBS := Lib.hid hS.1
  rw [show bit 3 = 8 from rfl]
  have hr := hm.inc
  obtain ⟨n, hn⟩ : ∃ n : Nat, m.inc.toNat = n := ⟨_, rfl⟩
  have hwf : IntKind.u64.wrap m.inc = (n : Int) := by
    have e : ∀ x : Int, IntKind.u64.wrap x = x % 18446744073709551616 := fun _ => rfl
    rw [e]; omega
  have HN := Lib.hid (show n < 256 ^ 8 by omega)
  rw [show fb m 3 = be 8 n by rw [← hn]; rfl]
  clear hr hn
  obtain ⟨w1, hw1⟩ : ∃ w1 : World, (W.alloc (.cells (mv m s) 27)).drew = w1 := ⟨_, rfl⟩
  have hb1 : Below W.heap.size W w1 := by rw [← hw1]; exact nextN (nextA (Mem.start W) _) 1
  have HB1 := Lib.hid hb1
  have HX := Lib.hid (show Blk w1 bx 27 (mv m s) by rw [← hw1, ← hbx]; exact (Blk.new W _ _).keep (nextN (Mem.start _) 1))
  have HWS := Lib.hid (hS.keep hb1)
  have HW1 := Lib.hid hw1
  clear hS hl hM hm hbx hpb hb1 hw1
  go_enter Tryd.func32, Tryd.ntmps32
  go_wp2_with fail
  rw [HBX.out]
  refine wp_region_noPanic ?_
  refine wp_heldG (fun V => Blk V bx 27 (mv m s)) [] (by kernel_rfl) ?hs0 ?rg0
  case hs0 =>
    rw [HW1.out]; exact HX.out
  case rg0 =>
  intro hHeld
  rw [HW1.out] at hHeld ⊢
  refine wpAnyG_pure (i := 0) (oi := { dst := some 37, op := Op.move (Operand.tmp 0), type := 104, pos := _, after := #[], guard := none }) (v := ?_) rfl (by kernel_rfl) (by kernel_rfl) (by kernel_rfl) (by kernel_rfl) (fun _ _ _ h => h) (Or.inl ⟨by rfl, ?_⟩) (fun _ => by assumption) ?_
  rotate_left
  · intro w hSw
    try dsimp only at hSw
    go_simp
    try with_reducible rfl
  try simp only [Act.put, List.setIfInBounds_toArray, List.set_cons_zero, List.set_cons_succ]
  refine wpAnyG_pure (i := 1) (oi := { dst := some 38, op := Op.nilCheck (Operand.tmp 37), type := 0, pos := _, after := #[{ on := 0, ground := Ground.data }], guard := none }) (v := ?_) rfl (by kernel_rfl) (by kernel_rfl) (by kernel_rfl) (by kernel_rfl) (fun _ _ _ h => h) (Or.inl ⟨by rfl, ?_⟩) (fun _ => by assumption) ?_
  rotate_left
  · intro w hSw
    try dsimp only at hSw
    go_simp
    try with_reducible rfl
  try simp only [Act.put, List.setIfInBounds_toArray, List.set_cons_zero, List.set_cons_succ]
  refine wpAnyG_pure (i := 2) (oi := { dst := some 39, op := Op.fieldAddr 61 (Operand.tmp 38) 0, type := 0, pos := _, after := #[{ on := 1, ground := Ground.data }], guard := none }) (v := ?_) rfl (by kernel_rfl) (by kernel_rfl) (by kernel_rfl) (by kernel_rfl) (fun _ _ _ h => h) (Or.inl ⟨by rfl, ?_⟩) (fun _ => by assumption) ?_
  rotate_left
  · intro w hSw
    try dsimp only at hSw
    go_simp
    try with_reducible rfl
  try simp only [Act.put, List.setIfInBounds_toArray, List.set_cons_zero, List.set_cons_succ]
  refine wpAnyG_pure (i := 3) (oi := { dst := some 40, op := Op.fieldAddr 27 (Operand.tmp 5) 6, type := 0, pos := _, after := #[], guard := none }) (v := ?_) rfl (by kernel_rfl) (by kernel_rfl) (by kernel_rfl) (by kernel_rfl) (fun _ _ _ h => h) (Or.inl ⟨by rfl, ?_⟩) (fun _ => by assumption) ?_
  rotate_left
  · intro w hSw
    try dsimp only at hSw
    go_simp
    try with_reducible rfl
  try simp only [Act.put, List.setIfInBounds_toArray, List.set_cons_zero, List.set_cons_succ]
  refine wpAnyG_take (i := 4) (oi := { dst := some 41, op := Op.load 2 (Operand.tmp 40), type := 2, pos := _, after := #[{ on := 3, ground := Ground.data }], guard := none }) (v := ?_) rfl (by kernel_rfl) (by kernel_rfl) (by kernel_rfl) (by kernel_rfl) (fun _ _ _ h => h) (Or.inl ⟨by rfl, ?_⟩) (by assumption) ?_
  rotate_left
  · intro w hSw
    try dsimp only at hSw
    have hk := hSw.cell 6
    simp [mv] at hk
    go_simp
    try with_reducible rfl
  try simp only [Act.put, List.setIfInBounds_toArray, List.set_cons_zero, List.set_cons_succ]
  refine wpAnyG_pure (i := 5) (oi := { dst := some 42, op := Op.convert 2 90 (Operand.tmp 41), type := 90, pos := _, after := #[{ on := 4, ground := Ground.data }], guard := none }) (v := ?_) rfl (by kernel_rfl) (by kernel_rfl) (by kernel_rfl) (by kernel_rfl) (fun _ _ _ h => h) (Or.inl ⟨by rfl, ?_⟩) (fun _ => by assumption) ?_
  rotate_left
  · intro w hSw
    try dsimp only at hSw
    go_simp
    try with_reducible rfl
  try simp only [Act.put, List.setIfInBounds_toArray, List.set_cons_zero, List.set_cons_succ]
  refine wpAnyG_one (i := 6) (o := { dst := some 43, op := Op.call { callee := Callee.value (Operand.func 58), args := #[Operand.tmp 39, Operand.tmp 42], argTypes := #[59, 90] }, type := 0, pos := _, after := #[{ on := 2, ground := Ground.data }, { on := 5, ground := Ground.data }], guard := none }) (by kernel_rfl) rfl (fun K hK => ?_)
  go_simp
  refine (longS HWS.out (by have := HL.out; omega) n HN.out).mono ?_
  rintro e w' h1
  have H1 := Lib.hid h1
  obtain ⟨rfl, _, _, q3, _⟩ := h1
  try dsimp only
  refine hK.out _ _ ?_ (fun hHeld => ?_)
  · intro _
    try dsimp only
    exact q3 _ _ _ HBP.out (by decide) hHeld
  clear hK K
  try simp only [Act.put, List.setIfInBounds_toArray, List.set_cons_zero, List.set_cons_succ]
  have hHeld := hHeld (by kernel_rfl)
  refine wpAnyG_done (by kernel_rfl) ?_ _
  refine NoPanic.normal ?_
  clear hHeld hwf
  go_wp2_with fail
  go_end0
  exact H1.out.after HB1.out HBS.out
set_option maxRecDepth 100000 in
set_option maxHeartbeats 8000000 in
theorem put4_any (W : World) (base p : Nat) (l : List UInt8) (m : Msg) (s : Sl) (hS : WS base p l W) (hl : l.length ≤ 800000) (hM : MIn W base m s) (hm : MayF m) :
    Calls Tryd.prog 32 #[.pointer (some ⟨p, 0, none⟩), .int .u16 (bit 4), .agg (mv m s)] W (PutS W base p (l ++ fb m 4)) := by
  obtain ⟨bx, hbx⟩ : ∃ bx, W.heap.size = bx := ⟨_, rfl⟩
  have hpb : bx ≠ p := by obtain ⟨_, A, c, h⟩ := hS; have := h.blk.lt; omega
  have HBX := Lib.hid hbx
  have HBP := Lib.hid hpb
  have HMF := Lib.hid hm
  have HM := Lib.hid hM
  have HL := Lib.hid hl
  have HBS := Lib.hid hS.1
  rw [show bit 4 = 16 from rfl]
  have hr := hm.size
  obtain ⟨n, hn⟩ : ∃ n : Nat, m.size.toNat = n := ⟨_, rfl⟩
  have hwf : IntKind.u32.wrap m.size = (n : Int) := by
    have e : ∀ x : Int, IntKind.u32.wrap x = x % 4294967296 := fun _ => rfl
    rw [e]; omega
  have HN := Lib.hid (show n < 256 ^ 4 by omega)
  rw [show fb m 4 = be 4 n by rw [← hn]; rfl]
  clear hr hn
  obtain ⟨w1, hw1⟩ : ∃ w1 : World, (W.alloc (.cells (mv m s) 27)).drew = w1 := ⟨_, rfl⟩
  have hb1 : Below W.heap.size W w1 := by rw [← hw1]; exact nextN (nextA (Mem.start W) _) 1
  have HB1 := Lib.hid hb1
  have HX := Lib.hid (show Blk w1 bx 27 (mv m s) by rw [← hw1, ← hbx]; exact (Blk.new W _ _).keep (nextN (Mem.start _) 1))
  have HWS := Lib.hid (hS.keep hb1)
  have HW1 := Lib.hid hw1
  clear hS hl hM hm hbx hpb hb1 hw1
  go_enter Tryd.func32, Tryd.ntmps32
  go_wp2_with fail
  rw [HBX.out]
  refine wp_region_noPanic ?_
  refine wp_heldG (fun V => Blk V bx 27 (mv m s)) [] (by kernel_rfl) ?hs0 ?rg0
  case hs0 =>
    rw [HW1.out]; exact HX.out
  case rg0 =>
  intro hHeld
  rw [HW1.out] at hHeld ⊢
  refine wpAnyG_pure (i := 0) (oi := { dst := some 46, op := Op.move (Operand.tmp 0), type := 104, pos := _, after := #[], guard := none }) (v := ?_) rfl (by kernel_rfl) (by kernel_rfl) (by kernel_rfl) (by kernel_rfl) (fun _ _ _ h => h) (Or.inl ⟨by rfl, ?_⟩) (fun _ => by assumption) ?_
  rotate_left
  · intro w hSw
    try dsimp only at hSw
    go_simp
    try with_reducible rfl
  try simp only [Act.put, List.setIfInBounds_toArray, List.set_cons_zero, List.set_cons_succ]
  refine wpAnyG_pure (i := 1) (oi := { dst := some 47, op := Op.nilCheck (Operand.tmp 46), type := 0, pos := _, after := #[{ on := 0, ground := Ground.data }], guard := none }) (v := ?_) rfl (by kernel_rfl) (by kernel_rfl) (by kernel_rfl) (by kernel_rfl) (fun _ _ _ h => h) (Or.inl ⟨by rfl, ?_⟩) (fun _ => by assumption) ?_
  rotate_left
  · intro w hSw
    try dsimp only at hSw
    go_simp
    try with_reducible rfl
  try simp only [Act.put, List.setIfInBounds_toArray, List.set_cons_zero, List.set_cons_succ]
  refine wpAnyG_pure (i := 2) (oi := { dst := some 48, op := Op.fieldAddr 61 (Operand.tmp 47) 0, type := 0, pos := _, after := #[{ on := 1, ground := Ground.data }], guard := none }) (v := ?_) rfl (by kernel_rfl) (by kernel_rfl) (by kernel_rfl) (by kernel_rfl) (fun _ _ _ h => h) (Or.inl ⟨by rfl, ?_⟩) (fun _ => by assumption) ?_
  rotate_left
  · intro w hSw
    try dsimp only at hSw
    go_simp
    try with_reducible rfl
  try simp only [Act.put, List.setIfInBounds_toArray, List.set_cons_zero, List.set_cons_succ]
  refine wpAnyG_pure (i := 3) (oi := { dst := some 49, op := Op.fieldAddr 27 (Operand.tmp 5) 7, type := 0, pos := _, after := #[], guard := none }) (v := ?_) rfl (by kernel_rfl) (by kernel_rfl) (by kernel_rfl) (by kernel_rfl) (fun _ _ _ h => h) (Or.inl ⟨by rfl, ?_⟩) (fun _ => by assumption) ?_
  rotate_left
  · intro w hSw
    try dsimp only at hSw
    go_simp
    try with_reducible rfl
  try simp only [Act.put, List.setIfInBounds_toArray, List.set_cons_zero, List.set_cons_succ]
  refine wpAnyG_take (i := 4) (oi := { dst := some 50, op := Op.load 3 (Operand.tmp 49), type := 3, pos := _, after := #[{ on := 3, ground := Ground.data }], guard := none }) (v := ?_) rfl (by kernel_rfl) (by kernel_rfl) (by kernel_rfl) (by kernel_rfl) (fun _ _ _ h => h) (Or.inl ⟨by rfl, ?_⟩) (by assumption) ?_
  rotate_left
  · intro w hSw
    try dsimp only at hSw
    have hk := hSw.cell 7
    simp [mv] at hk
    go_simp
    try with_reducible rfl
  try simp only [Act.put, List.setIfInBounds_toArray, List.set_cons_zero, List.set_cons_succ]
  refine wpAnyG_pure (i := 5) (oi := { dst := some 51, op := Op.convert 3 108 (Operand.tmp 50), type := 108, pos := _, after := #[{ on := 4, ground := Ground.data }], guard := none }) (v := ?_) rfl (by kernel_rfl) (by kernel_rfl) (by kernel_rfl) (by kernel_rfl) (fun _ _ _ h => h) (Or.inl ⟨by rfl, ?_⟩) (fun _ => by assumption) ?_
  rotate_left
  · intro w hSw
    try dsimp only at hSw
    go_simp
    try with_reducible rfl
  try simp only [Act.put, List.setIfInBounds_toArray, List.set_cons_zero, List.set_cons_succ]
  refine wpAnyG_one (i := 6) (o := { dst := some 52, op := Op.call { callee := Callee.value (Operand.func 60), args := #[Operand.tmp 48, Operand.tmp 51], argTypes := #[59, 108] }, type := 0, pos := _, after := #[{ on := 2, ground := Ground.data }, { on := 5, ground := Ground.data }], guard := none }) (by kernel_rfl) rfl (fun K hK => ?_)
  go_simp
  refine (wordS HWS.out (by have := HL.out; omega) n HN.out).mono ?_
  rintro e w' h1
  have H1 := Lib.hid h1
  obtain ⟨rfl, _, _, q3, _⟩ := h1
  try dsimp only
  refine hK.out _ _ ?_ (fun hHeld => ?_)
  · intro _
    try dsimp only
    exact q3 _ _ _ HBP.out (by decide) hHeld
  clear hK K
  try simp only [Act.put, List.setIfInBounds_toArray, List.set_cons_zero, List.set_cons_succ]
  have hHeld := hHeld (by kernel_rfl)
  refine wpAnyG_done (by kernel_rfl) ?_ _
  refine NoPanic.normal ?_
  clear hHeld hwf
  go_wp2_with fail
  go_end0
  exact H1.out.after HB1.out HBS.out
set_option maxRecDepth 100000 in
set_option maxHeartbeats 8000000 in
theorem put5_any (W : World) (base p : Nat) (l : List UInt8) (m : Msg) (s : Sl) (hS : WS base p l W) (hl : l.length ≤ 800000) (hM : MIn W base m s) (hm : MayF m) :
    Calls Tryd.prog 32 #[.pointer (some ⟨p, 0, none⟩), .int .u16 (bit 5), .agg (mv m s)] W (PutS W base p (l ++ fb m 5)) := by
  obtain ⟨bx, hbx⟩ : ∃ bx, W.heap.size = bx := ⟨_, rfl⟩
  have hpb : bx ≠ p := by obtain ⟨_, A, c, h⟩ := hS; have := h.blk.lt; omega
  have HBX := Lib.hid hbx
  have HBP := Lib.hid hpb
  have HMF := Lib.hid hm
  have HM := Lib.hid hM
  have HL := Lib.hid hl
  have HBS := Lib.hid hS.1
  rw [show bit 5 = 32 from rfl]
  have hr := hm.code
  obtain ⟨n, hn⟩ : ∃ n : Nat, m.code.toNat = n := ⟨_, rfl⟩
  have hwf : IntKind.u16.wrap m.code = (n : Int) := by
    have e : ∀ x : Int, IntKind.u16.wrap x = x % 65536 := fun _ => rfl
    rw [e]; omega
  have HN := Lib.hid (show n < 256 ^ 2 by omega)
  rw [show fb m 5 = be 2 n by rw [← hn]; rfl]
  clear hr hn
  obtain ⟨w1, hw1⟩ : ∃ w1 : World, (W.alloc (.cells (mv m s) 27)).drew = w1 := ⟨_, rfl⟩
  have hb1 : Below W.heap.size W w1 := by rw [← hw1]; exact nextN (nextA (Mem.start W) _) 1
  have HB1 := Lib.hid hb1
  have HX := Lib.hid (show Blk w1 bx 27 (mv m s) by rw [← hw1, ← hbx]; exact (Blk.new W _ _).keep (nextN (Mem.start _) 1))
  have HWS := Lib.hid (hS.keep hb1)
  have HW1 := Lib.hid hw1
  clear hS hl hM hm hbx hpb hb1 hw1
  go_enter Tryd.func32, Tryd.ntmps32
  go_wp2_with fail
  rw [HBX.out]
  refine wp_region_noPanic ?_
  refine wp_heldG (fun V => Blk V bx 27 (mv m s)) [] (by kernel_rfl) ?hs0 ?rg0
  case hs0 =>
    rw [HW1.out]; exact HX.out
  case rg0 =>
  intro hHeld
  rw [HW1.out] at hHeld ⊢
  refine wpAnyG_pure (i := 0) (oi := { dst := some 55, op := Op.move (Operand.tmp 0), type := 104, pos := _, after := #[], guard := none }) (v := ?_) rfl (by kernel_rfl) (by kernel_rfl) (by kernel_rfl) (by kernel_rfl) (fun _ _ _ h => h) (Or.inl ⟨by rfl, ?_⟩) (fun _ => by assumption) ?_
  rotate_left
  · intro w hSw
    try dsimp only at hSw
    go_simp
    try with_reducible rfl
  try simp only [Act.put, List.setIfInBounds_toArray, List.set_cons_zero, List.set_cons_succ]
  refine wpAnyG_pure (i := 1) (oi := { dst := some 56, op := Op.nilCheck (Operand.tmp 55), type := 0, pos := _, after := #[{ on := 0, ground := Ground.data }], guard := none }) (v := ?_) rfl (by kernel_rfl) (by kernel_rfl) (by kernel_rfl) (by kernel_rfl) (fun _ _ _ h => h) (Or.inl ⟨by rfl, ?_⟩) (fun _ => by assumption) ?_
  rotate_left
  · intro w hSw
    try dsimp only at hSw
    go_simp
    try with_reducible rfl
  try simp only [Act.put, List.setIfInBounds_toArray, List.set_cons_zero, List.set_cons_succ]
  refine wpAnyG_pure (i := 2) (oi := { dst := some 57, op := Op.fieldAddr 61 (Operand.tmp 56) 0, type := 0, pos := _, after := #[{ on := 1, ground := Ground.data }], guard := none }) (v := ?_) rfl (by kernel_rfl) (by kernel_rfl) (by kernel_rfl) (by kernel_rfl) (fun _ _ _ h => h) (Or.inl ⟨by rfl, ?_⟩) (fun _ => by assumption) ?_
  rotate_left
  · intro w hSw
    try dsimp only at hSw
    go_simp
    try with_reducible rfl
  try simp only [Act.put, List.setIfInBounds_toArray, List.set_cons_zero, List.set_cons_succ]
  refine wpAnyG_pure (i := 3) (oi := { dst := some 58, op := Op.fieldAddr 27 (Operand.tmp 5) 8, type := 0, pos := _, after := #[], guard := none }) (v := ?_) rfl (by kernel_rfl) (by kernel_rfl) (by kernel_rfl) (by kernel_rfl) (fun _ _ _ h => h) (Or.inl ⟨by rfl, ?_⟩) (fun _ => by assumption) ?_
  rotate_left
  · intro w hSw
    try dsimp only at hSw
    go_simp
    try with_reducible rfl
  try simp only [Act.put, List.setIfInBounds_toArray, List.set_cons_zero, List.set_cons_succ]
  refine wpAnyG_take (i := 4) (oi := { dst := some 59, op := Op.load 22 (Operand.tmp 58), type := 22, pos := _, after := #[{ on := 3, ground := Ground.data }], guard := none }) (v := ?_) rfl (by kernel_rfl) (by kernel_rfl) (by kernel_rfl) (by kernel_rfl) (fun _ _ _ h => h) (Or.inl ⟨by rfl, ?_⟩) (by assumption) ?_
  rotate_left
  · intro w hSw
    try dsimp only at hSw
    have hk := hSw.cell 8
    simp [mv] at hk
    go_simp
    try with_reducible rfl
  try simp only [Act.put, List.setIfInBounds_toArray, List.set_cons_zero, List.set_cons_succ]
  refine wpAnyG_pure (i := 5) (oi := { dst := some 60, op := Op.convert 22 64 (Operand.tmp 59), type := 64, pos := _, after := #[{ on := 4, ground := Ground.data }], guard := none }) (v := ?_) rfl (by kernel_rfl) (by kernel_rfl) (by kernel_rfl) (by kernel_rfl) (fun _ _ _ h => h) (Or.inl ⟨by rfl, ?_⟩) (fun _ => by assumption) ?_
  rotate_left
  · intro w hSw
    try dsimp only at hSw
    go_simp
    try with_reducible rfl
  try simp only [Act.put, List.setIfInBounds_toArray, List.set_cons_zero, List.set_cons_succ]
  refine wpAnyG_one (i := 6) (o := { dst := some 61, op := Op.call { callee := Callee.value (Operand.func 30), args := #[Operand.tmp 57, Operand.tmp 60], argTypes := #[59, 64] }, type := 0, pos := _, after := #[{ on := 2, ground := Ground.data }, { on := 5, ground := Ground.data }], guard := none }) (by kernel_rfl) rfl (fun K hK => ?_)
  go_simp
  refine (shortS HWS.out (by have := HL.out; omega) n HN.out).mono ?_
  rintro e w' h1
  have H1 := Lib.hid h1
  obtain ⟨rfl, _, _, q3, _⟩ := h1
  try dsimp only
  refine hK.out _ _ ?_ (fun hHeld => ?_)
  · intro _
    try dsimp only
    exact q3 _ _ _ HBP.out (by decide) hHeld
  clear hK K
  try simp only [Act.put, List.setIfInBounds_toArray, List.set_cons_zero, List.set_cons_succ]
  have hHeld := hHeld (by kernel_rfl)
  refine wpAnyG_done (by kernel_rfl) ?_ _
  refine NoPanic.normal ?_
  clear hHeld hwf
  go_wp2_with fail
  go_end0
  exact H1.out.after HB1.out HBS.out
set_option maxRecDepth 100000 in
set_option maxHeartbeats 8000000 in
theorem put6_any (W : World) (base p : Nat) (l : List UInt8) (m : Msg) (s : Sl) (hS : WS base p l W) (hl : l.length ≤ 800000) (hM : MIn W base m s) (hm : MayF m) :
    Calls Tryd.prog 32 #[.pointer (some ⟨p, 0, none⟩), .int .u16 (bit 6), .agg (mv m s)] W (PutS W base p (l ++ fb m 6)) := by
  obtain ⟨bx, hbx⟩ : ∃ bx, W.heap.size = bx := ⟨_, rfl⟩
  have hpb : bx ≠ p := by obtain ⟨_, A, c, h⟩ := hS; have := h.blk.lt; omega
  have HBX := Lib.hid hbx
  have HBP := Lib.hid hpb
  have HMF := Lib.hid hm
  have HM := Lib.hid hM
  have HL := Lib.hid hl
  have HBS := Lib.hid hS.1
  rw [show bit 6 = 64 from rfl]
  have hr := hm.node
  obtain ⟨n, hn⟩ : ∃ n : Nat, m.node.toNat = n := ⟨_, rfl⟩
  have hwf : IntKind.u16.wrap m.node = (n : Int) := by
    have e : ∀ x : Int, IntKind.u16.wrap x = x % 65536 := fun _ => rfl
    rw [e]; omega
  have HN := Lib.hid (show n < 256 ^ 2 by omega)
  rw [show fb m 6 = be 2 n by rw [← hn]; rfl]
  clear hr hn
  obtain ⟨w1, hw1⟩ : ∃ w1 : World, (W.alloc (.cells (mv m s) 27)).drew = w1 := ⟨_, rfl⟩
  have hb1 : Below W.heap.size W w1 := by rw [← hw1]; exact nextN (nextA (Mem.start W) _) 1
  have HB1 := Lib.hid hb1
  have HX := Lib.hid (show Blk w1 bx 27 (mv m s) by rw [← hw1, ← hbx]; exact (Blk.new W _ _).keep (nextN (Mem.start _) 1))
  have HWS := Lib.hid (hS.keep hb1)
  have HW1 := Lib.hid hw1
  clear hS hl hM hm hbx hpb hb1 hw1
  go_enter Tryd.func32, Tryd.ntmps32
  go_wp2_with fail
  rw [HBX.out]
  refine wp_region_noPanic ?_
  refine wp_heldG (fun V => Blk V bx 27 (mv m s)) [] (by kernel_rfl) ?hs0 ?rg0
  case hs0 =>
    rw [HW1.out]; exact HX.out
  case rg0 =>
  intro hHeld
  rw [HW1.out] at hHeld ⊢
  refine wpAnyG_pure (i := 0) (oi := { dst := some 64, op := Op.move (Operand.tmp 0), type := 104, pos := _, after := #[], guard := none }) (v := ?_) rfl (by kernel_rfl) (by kernel_rfl) (by kernel_rfl) (by kernel_rfl) (fun _ _ _ h => h) (Or.inl ⟨by rfl, ?_⟩) (fun _ => by assumption) ?_
  rotate_left
  · intro w hSw
    try dsimp only at hSw
    go_simp
    try with_reducible rfl
  try simp only [Act.put, List.setIfInBounds_toArray, List.set_cons_zero, List.set_cons_succ]
  refine wpAnyG_pure (i := 1) (oi := { dst := some 65, op := Op.nilCheck (Operand.tmp 64), type := 0, pos := _, after := #[{ on := 0, ground := Ground.data }], guard := none }) (v := ?_) rfl (by kernel_rfl) (by kernel_rfl) (by kernel_rfl) (by kernel_rfl) (fun _ _ _ h => h) (Or.inl ⟨by rfl, ?_⟩) (fun _ => by assumption) ?_
  rotate_left
  · intro w hSw
    try dsimp only at hSw
    go_simp
    try with_reducible rfl
  try simp only [Act.put, List.setIfInBounds_toArray, List.set_cons_zero, List.set_cons_succ]
  refine wpAnyG_pure (i := 2) (oi := { dst := some 66, op := Op.fieldAddr 61 (Operand.tmp 65) 0, type := 0, pos := _, after := #[{ on := 1, ground := Ground.data }], guard := none }) (v := ?_) rfl (by kernel_rfl) (by kernel_rfl) (by kernel_rfl) (by kernel_rfl) (fun _ _ _ h => h) (Or.inl ⟨by rfl, ?_⟩) (fun _ => by assumption) ?_
  rotate_left
  · intro w hSw
    try dsimp only at hSw
    go_simp
    try with_reducible rfl
  try simp only [Act.put, List.setIfInBounds_toArray, List.set_cons_zero, List.set_cons_succ]
  refine wpAnyG_pure (i := 3) (oi := { dst := some 67, op := Op.fieldAddr 27 (Operand.tmp 5) 9, type := 0, pos := _, after := #[], guard := none }) (v := ?_) rfl (by kernel_rfl) (by kernel_rfl) (by kernel_rfl) (by kernel_rfl) (fun _ _ _ h => h) (Or.inl ⟨by rfl, ?_⟩) (fun _ => by assumption) ?_
  rotate_left
  · intro w hSw
    try dsimp only at hSw
    go_simp
    try with_reducible rfl
  try simp only [Act.put, List.setIfInBounds_toArray, List.set_cons_zero, List.set_cons_succ]
  refine wpAnyG_take (i := 4) (oi := { dst := some 68, op := Op.load 3 (Operand.tmp 67), type := 3, pos := _, after := #[{ on := 3, ground := Ground.data }], guard := none }) (v := ?_) rfl (by kernel_rfl) (by kernel_rfl) (by kernel_rfl) (by kernel_rfl) (fun _ _ _ h => h) (Or.inl ⟨by rfl, ?_⟩) (by assumption) ?_
  rotate_left
  · intro w hSw
    try dsimp only at hSw
    have hk := hSw.cell 9
    simp [mv] at hk
    go_simp
    try with_reducible rfl
  try simp only [Act.put, List.setIfInBounds_toArray, List.set_cons_zero, List.set_cons_succ]
  refine wpAnyG_pure (i := 5) (oi := { dst := some 69, op := Op.convert 3 64 (Operand.tmp 68), type := 64, pos := _, after := #[{ on := 4, ground := Ground.data }], guard := none }) (v := ?_) rfl (by kernel_rfl) (by kernel_rfl) (by kernel_rfl) (by kernel_rfl) (fun _ _ _ h => h) (Or.inl ⟨by rfl, ?_⟩) (fun _ => by assumption) ?_
  rotate_left
  · intro w hSw
    try dsimp only at hSw
    go_simp
    try with_reducible rfl
  try simp only [Act.put, List.setIfInBounds_toArray, List.set_cons_zero, List.set_cons_succ]
  refine wpAnyG_one (i := 6) (o := { dst := some 70, op := Op.call { callee := Callee.value (Operand.func 30), args := #[Operand.tmp 66, Operand.tmp 69], argTypes := #[59, 64] }, type := 0, pos := _, after := #[{ on := 2, ground := Ground.data }, { on := 5, ground := Ground.data }], guard := none }) (by kernel_rfl) rfl (fun K hK => ?_)
  go_simp
  refine (shortS HWS.out (by have := HL.out; omega) n HN.out).mono ?_
  rintro e w' h1
  have H1 := Lib.hid h1
  obtain ⟨rfl, _, _, q3, _⟩ := h1
  try dsimp only
  refine hK.out _ _ ?_ (fun hHeld => ?_)
  · intro _
    try dsimp only
    exact q3 _ _ _ HBP.out (by decide) hHeld
  clear hK K
  try simp only [Act.put, List.setIfInBounds_toArray, List.set_cons_zero, List.set_cons_succ]
  have hHeld := hHeld (by kernel_rfl)
  refine wpAnyG_done (by kernel_rfl) ?_ _
  refine NoPanic.normal ?_
  clear hHeld hwf
  go_wp2_with fail
  go_end0
  exact H1.out.after HB1.out HBS.out
set_option maxRecDepth 100000 in
set_option maxHeartbeats 8000000 in
theorem put1_any (W : World) (base p : Nat) (l : List UInt8) (m : Msg) (s : Sl) (hS : WS base p l W) (hl : l.length ≤ 800000) (hM : MIn W base m s) (hm : MayF m) :
    Calls Tryd.prog 32 #[.pointer (some ⟨p, 0, none⟩), .int .u16 (bit 1), .agg (mv m s)] W (PutS W base p (l ++ fb m 1)) := by
  obtain ⟨bx, hbx⟩ : ∃ bx, W.heap.size = bx := ⟨_, rfl⟩
  have hpb : bx ≠ p := by obtain ⟨_, A, c, h⟩ := hS; have := h.blk.lt; omega
  have HBX := Lib.hid hbx
  have HBP := Lib.hid hpb
  have HMF := Lib.hid hm
  have HM := Lib.hid hM
  have HL := Lib.hid hl
  have HBS := Lib.hid hS.1
  rw [show bit 1 = 2 from rfl]
  have HK := Lib.hid hm.key
  obtain ⟨w1, hw1⟩ : ∃ w1 : World, W.alloc (.cells (mv m s) 27) = w1 := ⟨_, rfl⟩
  have hb1 : Below W.heap.size W w1 := by rw [← hw1]; exact nextA (Mem.start W) _
  have HB1 := Lib.hid hb1
  have HX := Lib.hid (show Blk w1 bx 27 (mv m s) by rw [← hw1, ← hbx]; exact Blk.new W _ _)
  have HWS := Lib.hid (hS.keep hb1)
  have HW1 := Lib.hid hw1
  clear hS hl hM hm hbx hpb hb1 hw1
  go_enter Tryd.func32, Tryd.ntmps32
  have c4 := HX.out.cell 4
  simp [mv] at c4
  have hw1 := HW1.out
  have hbx := HBX.out
  go_wp2_with fail
  refine (text_any _ base p l m.key HWS.out (by have := HL.out; omega) HK.out).mono ?_
  rintro e w2 h1
  have H1 := Lib.hid h1
  obtain ⟨rfl, _, _, q3, _⟩ := h1
  clear c4 hw1 hbx q3
  go_wp2_with fail
  go_end0
  exact H1.out.after HB1.out HBS.out
set_option maxRecDepth 100000 in
set_option maxHeartbeats 8000000 in
theorem put7_any (W : World) (base p : Nat) (l : List UInt8) (m : Msg) (s : Sl) (hS : WS base p l W) (hl : l.length ≤ 800000) (hM : MIn W base m s) (hm : MayF m) :
    Calls Tryd.prog 32 #[.pointer (some ⟨p, 0, none⟩), .int .u16 (bit 7), .agg (mv m s)] W (PutS W base p (l ++ fb m 7)) := by
  obtain ⟨bx, hbx⟩ : ∃ bx, W.heap.size = bx := ⟨_, rfl⟩
  have hpb : bx ≠ p := by obtain ⟨_, A, c, h⟩ := hS; have := h.blk.lt; omega
  have HBX := Lib.hid hbx
  have HBP := Lib.hid hpb
  have HMF := Lib.hid hm
  have HM := Lib.hid hM
  have HL := Lib.hid hl
  have HBS := Lib.hid hS.1
  rw [show bit 7 = 128 from rfl]
  obtain ⟨w1, hw1⟩ : ∃ w1 : World, W.alloc (.cells (mv m s) 27) = w1 := ⟨_, rfl⟩
  have hb1 : Below W.heap.size W w1 := by rw [← hw1]; exact nextA (Mem.start W) _
  have HB1 := Lib.hid hb1
  have HX := Lib.hid (show Blk w1 bx 27 (mv m s) by rw [← hw1, ← hbx]; exact Blk.new W _ _)
  have HWS := Lib.hid (hS.keep hb1)
  have HW1 := Lib.hid hw1
  clear hS hl hM hm hbx hpb hb1 hw1
  have c10 := HX.out.cell 10
  simp [mv] at c10
  have hfb : fb m 7 = be 1 (if m.back then 1 else 0) := rfl
  rw [hfb]
  cases hbk : m.back
  · rw [hbk] at c10
    rw [show (if false = true then 1 else 0) = 0 from rfl]
    have hw1 := HW1.out
    have hbx := HBX.out
    clear hfb hbk
    go_enter Tryd.func32, Tryd.ntmps32
    go_wp2_with fail
    refine (byteS HWS.out (by have := HL.out; omega) 0 (by decide)).mono ?_
    rintro e w2 h1
    have H1 := Lib.hid h1
    obtain ⟨rfl, _, _, q3, _⟩ := h1
    clear c10 hw1 hbx q3
    go_wp2_with fail
    go_end0
    exact H1.out.after HB1.out HBS.out
  · rw [hbk] at c10
    rw [show (if true = true then 1 else 0) = 1 from rfl]
    have hw1 := HW1.out
    have hbx := HBX.out
    clear hfb hbk
    go_enter Tryd.func32, Tryd.ntmps32
    go_wp2_with fail
    refine (byteS HWS.out (by have := HL.out; omega) 1 (by decide)).mono ?_
    rintro e w2 h1
    have H1 := Lib.hid h1
    obtain ⟨rfl, _, _, q3, _⟩ := h1
    clear c10 hw1 hbx q3
    go_wp2_with fail
    go_end0
    exact H1.out.after HB1.out HBS.out
set_option maxRecDepth 100000 in
set_option maxHeartbeats 8000000 in
theorem put10_any (W : World) (base p : Nat) (l : List UInt8) (m : Msg) (s : Sl) (hS : WS base p l W) (hl : l.length ≤ 800000) (hM : MIn W base m s) (hm : MayF m) :
    Calls Tryd.prog 32 #[.pointer (some ⟨p, 0, none⟩), .int .u16 (bit 10), .agg (mv m s)] W (PutS W base p (l ++ fb m 10)) := by
  obtain ⟨bx, hbx⟩ : ∃ bx, W.heap.size = bx := ⟨_, rfl⟩
  have hpb : bx ≠ p := by obtain ⟨_, A, c, h⟩ := hS; have := h.blk.lt; omega
  have HBX := Lib.hid hbx
  have HBP := Lib.hid hpb
  have HMF := Lib.hid hm
  have HM := Lib.hid hM
  have HL := Lib.hid hl
  have HBS := Lib.hid hS.1
  rw [show bit 10 = 1024 from rfl]
  obtain ⟨n, hn⟩ : ∃ n : Nat, m.data.length = n := ⟨_, rfl⟩
  have hdl := hm.data
  have hwf : IntKind.u32.wrap ((m.data.length : Nat) : Int) = ((m.data.length : Nat) : Int) := by
    have e : ∀ x : Int, IntKind.u32.wrap x = x % 4294967296 := fun _ => rfl
    rw [e]; omega
  have HN := Lib.hid (show n < 256 ^ 4 ∧ n ≤ 65536 ∧ m.data.length = n by omega)
  rw [show fb m 10 = be 4 n ++ m.data by rw [← hn]; rfl]
  have hn2 : ((m.data.length : Nat) : Int) = (n : Int) := by omega
  rw [hn2] at hwf
  clear hdl hn2
  obtain ⟨w1, hw1⟩ : ∃ w1 : World, (W.alloc (.cells (mv m s) 27)).drew = w1 := ⟨_, rfl⟩
  have hb1 : Below W.heap.size W w1 := by rw [← hw1]; exact nextN (nextA (Mem.start W) _) 1
  have HB1 := Lib.hid hb1
  have HX := Lib.hid (show Blk w1 bx 27 (mv m s) by rw [← hw1, ← hbx]; exact (Blk.new W _ _).keep (nextN (Mem.start _) 1))
  have HWS := Lib.hid (hS.keep hb1)
  have HW1 := Lib.hid hw1
  clear hS hl hM hm hbx hpb hb1 hw1
  go_enter Tryd.func32, Tryd.ntmps32
  go_wp2_with fail
  rw [HBX.out]
  refine wp_region_noPanic ?_
  refine wp_heldG (fun V => Blk V bx 27 (mv m s)) [] (by kernel_rfl) ?hs0 ?rg0
  case hs0 =>
    rw [HW1.out]; exact HX.out
  case rg0 =>
  intro hHeld
  rw [HW1.out] at hHeld ⊢
  refine wpAnyG_pure (i := 0) (oi := { dst := some 138, op := Op.move (Operand.tmp 0), type := 104, pos := _, after := #[], guard := none }) (v := ?_) rfl (by kernel_rfl) (by kernel_rfl) (by kernel_rfl) (by kernel_rfl) (fun _ _ _ h => h) (Or.inl ⟨by rfl, ?_⟩) (fun _ => by assumption) ?_
  rotate_left
  · intro w hSw
    try dsimp only at hSw
    go_simp
    try with_reducible rfl
  try simp only [Act.put, List.setIfInBounds_toArray, List.set_cons_zero, List.set_cons_succ]
  refine wpAnyG_pure (i := 1) (oi := { dst := some 139, op := Op.nilCheck (Operand.tmp 138), type := 0, pos := _, after := #[{ on := 0, ground := Ground.data }], guard := none }) (v := ?_) rfl (by kernel_rfl) (by kernel_rfl) (by kernel_rfl) (by kernel_rfl) (fun _ _ _ h => h) (Or.inl ⟨by rfl, ?_⟩) (fun _ => by assumption) ?_
  rotate_left
  · intro w hSw
    try dsimp only at hSw
    go_simp
    try with_reducible rfl
  try simp only [Act.put, List.setIfInBounds_toArray, List.set_cons_zero, List.set_cons_succ]
  refine wpAnyG_pure (i := 2) (oi := { dst := some 140, op := Op.fieldAddr 61 (Operand.tmp 139) 0, type := 0, pos := _, after := #[{ on := 1, ground := Ground.data }], guard := none }) (v := ?_) rfl (by kernel_rfl) (by kernel_rfl) (by kernel_rfl) (by kernel_rfl) (fun _ _ _ h => h) (Or.inl ⟨by rfl, ?_⟩) (fun _ => by assumption) ?_
  rotate_left
  · intro w hSw
    try dsimp only at hSw
    go_simp
    try with_reducible rfl
  try simp only [Act.put, List.setIfInBounds_toArray, List.set_cons_zero, List.set_cons_succ]
  refine wpAnyG_pure (i := 3) (oi := { dst := some 141, op := Op.fieldAddr 27 (Operand.tmp 5) 13, type := 0, pos := _, after := #[], guard := none }) (v := ?_) rfl (by kernel_rfl) (by kernel_rfl) (by kernel_rfl) (by kernel_rfl) (fun _ _ _ h => h) (Or.inl ⟨by rfl, ?_⟩) (fun _ => by assumption) ?_
  rotate_left
  · intro w hSw
    try dsimp only at hSw
    go_simp
    try with_reducible rfl
  try simp only [Act.put, List.setIfInBounds_toArray, List.set_cons_zero, List.set_cons_succ]
  refine wpAnyG_take (i := 4) (oi := { dst := some 142, op := Op.load 25 (Operand.tmp 141), type := 25, pos := _, after := #[{ on := 3, ground := Ground.data }], guard := none }) (v := ?_) rfl (by kernel_rfl) (by kernel_rfl) (by kernel_rfl) (by kernel_rfl) (fun _ _ _ h => h) (Or.inl ⟨by rfl, ?_⟩) (by assumption) ?_
  rotate_left
  · intro w hSw
    try dsimp only at hSw
    have hk := hSw.cell 13
    simp [mv] at hk
    rw [HN.out.2.2] at hk
    go_simp
    try with_reducible rfl
  try simp only [Act.put, List.setIfInBounds_toArray, List.set_cons_zero, List.set_cons_succ]
  refine wpAnyG_pure (i := 5) (oi := { dst := some 143, op := Op.call { callee := Callee.builtin Builtin.len, args := #[Operand.tmp 142], argTypes := #[25] }, type := 3, pos := _, after := #[{ on := 4, ground := Ground.data }], guard := none }) (v := ?_) rfl (by kernel_rfl) (by kernel_rfl) (by kernel_rfl) (by kernel_rfl) (fun _ _ _ h => h) (Or.inl ⟨by rfl, ?_⟩) (fun _ => by assumption) ?_
  rotate_left
  · intro w hSw
    try dsimp only at hSw
    go_simp
    try with_reducible rfl
  try simp only [Act.put, List.setIfInBounds_toArray, List.set_cons_zero, List.set_cons_succ]
  refine wpAnyG_pure (i := 6) (oi := { dst := some 144, op := Op.convert 3 108 (Operand.tmp 143), type := 108, pos := _, after := #[{ on := 5, ground := Ground.data }], guard := none }) (v := ?_) rfl (by kernel_rfl) (by kernel_rfl) (by kernel_rfl) (by kernel_rfl) (fun _ _ _ h => h) (Or.inl ⟨by rfl, ?_⟩) (fun _ => by assumption) ?_
  rotate_left
  · intro w hSw
    try dsimp only at hSw
    go_simp
    try with_reducible rfl
  try simp only [Act.put, List.setIfInBounds_toArray, List.set_cons_zero, List.set_cons_succ]
  refine wpAnyG_one (i := 7) (o := { dst := some 145, op := Op.call { callee := Callee.value (Operand.func 60), args := #[Operand.tmp 140, Operand.tmp 144], argTypes := #[59, 108] }, type := 0, pos := _, after := #[{ on := 2, ground := Ground.data }, { on := 6, ground := Ground.data }], guard := none }) (by kernel_rfl) rfl (fun K hK => ?_)
  go_simp
  refine (wordS HWS.out (by have := HL.out; omega) n HN.out.1).mono ?_
  rintro e w' h1
  have H1 := Lib.hid h1
  obtain ⟨rfl, _, _, q3, _⟩ := h1
  try dsimp only
  refine hK.out _ _ ?_ (fun hHeld => ?_)
  · intro _
    try dsimp only
    exact q3 _ _ _ HBP.out (by decide) hHeld
  clear hK K
  try simp only [Act.put, List.setIfInBounds_toArray, List.set_cons_zero, List.set_cons_succ]
  have hHeld := hHeld (by kernel_rfl)
  refine wpAnyG_done (by kernel_rfl) ?_ _
  refine NoPanic.normal ?_
  have HX2 := Lib.hid hHeld
  clear hHeld hwf hn
  have HBW := Lib.hid (show Below base W w'.drew from ((HB1.out.mono HBS.out).trans H1.out.2.2.1).trans ⟨rfl, rfl, rfl, Nat.le_refl _, fun _ _ => rfl⟩)
  have HMD := Lib.hid (show MIn w'.drew w'.drew.heap.size m s from (HM.out.below HBW.out).up H1.out.2.1.1)
  have HW2 := Lib.hid (show WS base p (l ++ be 4 n) w'.drew from H1.out.2.1.keep (nextN (Mem.start _) 1))
  go_wp2_with fail
  refine wp_region_noPanic ?_
  refine wp_heldG (fun V => Blk V bx 27 (mv m s)) [] (by kernel_rfl) ?hs0 ?rg0
  case hs0 =>
    exact HX2.out.keep (nextN (Mem.start _) 1)
  case rg0 =>
  intro hHeld
  refine wpAnyG_pure (i := 0) (oi := { dst := some 146, op := Op.move (Operand.tmp 0), type := 104, pos := _, after := #[], guard := none }) (v := ?_) rfl (by kernel_rfl) (by kernel_rfl) (by kernel_rfl) (by kernel_rfl) (fun _ _ _ h => h) (Or.inl ⟨by rfl, ?_⟩) (fun _ => by assumption) ?_
  rotate_left
  · intro w hSw
    try dsimp only at hSw
    go_simp
    try with_reducible rfl
  try simp only [Act.put, List.setIfInBounds_toArray, List.set_cons_zero, List.set_cons_succ]
  refine wpAnyG_pure (i := 1) (oi := { dst := some 147, op := Op.nilCheck (Operand.tmp 146), type := 0, pos := _, after := #[{ on := 0, ground := Ground.data }], guard := none }) (v := ?_) rfl (by kernel_rfl) (by kernel_rfl) (by kernel_rfl) (by kernel_rfl) (fun _ _ _ h => h) (Or.inl ⟨by rfl, ?_⟩) (fun _ => by assumption) ?_
  rotate_left
  · intro w hSw
    try dsimp only at hSw
    go_simp
    try with_reducible rfl
  try simp only [Act.put, List.setIfInBounds_toArray, List.set_cons_zero, List.set_cons_succ]
  refine wpAnyG_pure (i := 2) (oi := { dst := some 148, op := Op.fieldAddr 61 (Operand.tmp 147) 0, type := 0, pos := _, after := #[{ on := 1, ground := Ground.data }], guard := none }) (v := ?_) rfl (by kernel_rfl) (by kernel_rfl) (by kernel_rfl) (by kernel_rfl) (fun _ _ _ h => h) (Or.inl ⟨by rfl, ?_⟩) (fun _ => by assumption) ?_
  rotate_left
  · intro w hSw
    try dsimp only at hSw
    go_simp
    try with_reducible rfl
  try simp only [Act.put, List.setIfInBounds_toArray, List.set_cons_zero, List.set_cons_succ]
  refine wpAnyG_pure (i := 3) (oi := { dst := some 149, op := Op.fieldAddr 27 (Operand.tmp 5) 13, type := 0, pos := _, after := #[], guard := none }) (v := ?_) rfl (by kernel_rfl) (by kernel_rfl) (by kernel_rfl) (by kernel_rfl) (fun _ _ _ h => h) (Or.inl ⟨by rfl, ?_⟩) (fun _ => by assumption) ?_
  rotate_left
  · intro w hSw
    try dsimp only at hSw
    go_simp
    try with_reducible rfl
  try simp only [Act.put, List.setIfInBounds_toArray, List.set_cons_zero, List.set_cons_succ]
  refine wpAnyG_take (i := 4) (oi := { dst := some 150, op := Op.load 25 (Operand.tmp 149), type := 25, pos := _, after := #[{ on := 3, ground := Ground.data }], guard := none }) (v := ?_) rfl (by kernel_rfl) (by kernel_rfl) (by kernel_rfl) (by kernel_rfl) (fun _ _ _ h => h) (Or.inl ⟨by rfl, ?_⟩) (by assumption) ?_
  rotate_left
  · intro w hSw
    try dsimp only at hSw
    have hk := hSw.cell 13
    simp [mv] at hk
    rw [HN.out.2.2] at hk
    go_simp
    try with_reducible rfl
  try simp only [Act.put, List.setIfInBounds_toArray, List.set_cons_zero, List.set_cons_succ]
  refine wpAnyG_one (i := 5) (o := { dst := some 151, op := Op.call { callee := Callee.value (Operand.func 61), args := #[Operand.tmp 148, Operand.tmp 150], argTypes := #[59, 25] }, type := 0, pos := _, after := #[{ on := 2, ground := Ground.data }, { on := 4, ground := Ground.data }], guard := none }) (by kernel_rfl) rfl (fun K hK => ?_)
  go_simp
  refine (rawS HW2.out (by rw [List.length_append, be_len]; have := HL.out; omega) _ m.data _ _ HN.out.2.2.symm (by have := HN.out.2; omega) HMD.out.data).mono ?_
  rintro e w3 h1
  have H2 := Lib.hid h1
  obtain ⟨rfl, _, _, q3, _⟩ := h1
  try dsimp only
  refine hK.out _ _ ?_ (fun hHeld => ?_)
  · intro _
    try dsimp only
    exact q3 _ _ _ HBP.out (by decide) hHeld
  clear hK K
  try simp only [Act.put, List.setIfInBounds_toArray, List.set_cons_zero, List.set_cons_succ]
  have hHeld := hHeld (by kernel_rfl)
  refine wpAnyG_done (by kernel_rfl) ?_ _
  refine NoPanic.normal ?_
  have H3 := Lib.hid (show PutS w' base p (l ++ be 4 n ++ m.data) (.returned (.tuple #[])) w3 from H2.out.after (nextN (Mem.start _) 1) H1.out.2.1.1)
  clear hHeld
  go_wp2_with fail
  go_end0
  rw [← List.append_assoc]
  exact (H1.out.two H3.out).after HB1.out HBS.out
set_option maxRecDepth 100000 in
set_option maxHeartbeats 8000000 in
theorem put9_any (W : World) (base p : Nat) (l : List UInt8) (m : Msg) (s : Sl) (hS : WS base p l W) (hl : l.length ≤ 800000) (hM : MIn W base m s) (hm : MayF m) :
    Calls Tryd.prog 32 #[.pointer (some ⟨p, 0, none⟩), .int .u16 (bit 9), .agg (mv m s)] W (PutS W base p (l ++ fb m 9)) := by
  obtain ⟨bx, hbx⟩ : ∃ bx, W.heap.size = bx := ⟨_, rfl⟩
  have hpb : bx ≠ p := by obtain ⟨_, A, c, h⟩ := hS; have := h.blk.lt; omega
  have HBX := Lib.hid hbx
  have HBP := Lib.hid hpb
  have HMF := Lib.hid hm
  have HM := Lib.hid hM
  have HL := Lib.hid hl
  have HBS := Lib.hid hS.1
  rw [show bit 9 = 512 from rfl]
  obtain ⟨n, hn⟩ : ∃ n : Nat, m.nodes.length = n := ⟨_, rfl⟩
  have hdl := hm.nodes
  have hwf : IntKind.u8.wrap (n : Int) = (n : Int) := by
    have e : ∀ x : Int, IntKind.u8.wrap x = x % 256 := fun _ => rfl
    rw [e]; omega
  have HN := Lib.hid (show n < 256 ^ 1 ∧ n ≤ 255 ∧ m.nodes.length = n by omega)
  rw [show fb m 9 = be 1 n ++ m.nodes.flatMap (fun n => be 2 n.toNat) by rw [← hn]; rfl]
  have HND := Lib.hid hm.nd
  clear hdl hn
  obtain ⟨w1, hw1⟩ : ∃ w1 : World, (W.alloc (.cells (mv m s) 27)).drew = w1 := ⟨_, rfl⟩
  have hb1 : Below W.heap.size W w1 := by rw [← hw1]; exact nextN (nextA (Mem.start W) _) 1
  have HB1 := Lib.hid hb1
  have HX := Lib.hid (show Blk w1 bx 27 (mv m s) by rw [← hw1, ← hbx]; exact (Blk.new W _ _).keep (nextN (Mem.start _) 1))
  have HWS := Lib.hid (hS.keep hb1)
  have HW1 := Lib.hid hw1
  clear hS hl hM hm hbx hpb hb1 hw1
  go_enter Tryd.func32, Tryd.ntmps32
  go_wp2_with fail
  rw [HBX.out]
  refine wp_region_noPanic ?_
  refine wp_heldG (fun V => Blk V bx 27 (mv m s)) [] (by kernel_rfl) ?hs0 ?rg0
  case hs0 =>
    rw [HW1.out]; exact HX.out
  case rg0 =>
  intro hHeld
  rw [HW1.out] at hHeld ⊢
  refine wpAnyG_pure (i := 0) (oi := { dst := some 114, op := Op.move (Operand.tmp 0), type := 104, pos := _, after := #[], guard := none }) (v := ?_) rfl (by kernel_rfl) (by kernel_rfl) (by kernel_rfl) (by kernel_rfl) (fun _ _ _ h => h) (Or.inl ⟨by rfl, ?_⟩) (fun _ => by assumption) ?_
  rotate_left
  · intro w hSw
    try dsimp only at hSw
    go_simp
    try with_reducible rfl
  try simp only [Act.put, List.setIfInBounds_toArray, List.set_cons_zero, List.set_cons_succ]
  refine wpAnyG_pure (i := 1) (oi := { dst := some 115, op := Op.nilCheck (Operand.tmp 114), type := 0, pos := _, after := #[{ on := 0, ground := Ground.data }], guard := none }) (v := ?_) rfl (by kernel_rfl) (by kernel_rfl) (by kernel_rfl) (by kernel_rfl) (fun _ _ _ h => h) (Or.inl ⟨by rfl, ?_⟩) (fun _ => by assumption) ?_
  rotate_left
  · intro w hSw
    try dsimp only at hSw
    go_simp
    try with_reducible rfl
  try simp only [Act.put, List.setIfInBounds_toArray, List.set_cons_zero, List.set_cons_succ]
  refine wpAnyG_pure (i := 2) (oi := { dst := some 116, op := Op.fieldAddr 61 (Operand.tmp 115) 0, type := 0, pos := _, after := #[{ on := 1, ground := Ground.data }], guard := none }) (v := ?_) rfl (by kernel_rfl) (by kernel_rfl) (by kernel_rfl) (by kernel_rfl) (fun _ _ _ h => h) (Or.inl ⟨by rfl, ?_⟩) (fun _ => by assumption) ?_
  rotate_left
  · intro w hSw
    try dsimp only at hSw
    go_simp
    try with_reducible rfl
  try simp only [Act.put, List.setIfInBounds_toArray, List.set_cons_zero, List.set_cons_succ]
  refine wpAnyG_pure (i := 3) (oi := { dst := some 117, op := Op.fieldAddr 27 (Operand.tmp 5) 12, type := 0, pos := _, after := #[], guard := none }) (v := ?_) rfl (by kernel_rfl) (by kernel_rfl) (by kernel_rfl) (by kernel_rfl) (fun _ _ _ h => h) (Or.inl ⟨by rfl, ?_⟩) (fun _ => by assumption) ?_
  rotate_left
  · intro w hSw
    try dsimp only at hSw
    go_simp
    try with_reducible rfl
  try simp only [Act.put, List.setIfInBounds_toArray, List.set_cons_zero, List.set_cons_succ]
  refine wpAnyG_take (i := 4) (oi := { dst := some 118, op := Op.load 24 (Operand.tmp 117), type := 24, pos := _, after := #[{ on := 3, ground := Ground.data }], guard := none }) (v := ?_) rfl (by kernel_rfl) (by kernel_rfl) (by kernel_rfl) (by kernel_rfl) (fun _ _ _ h => h) (Or.inl ⟨by rfl, ?_⟩) (by assumption) ?_
  rotate_left
  · intro w hSw
    try dsimp only at hSw
    have hk := hSw.cell 12
    simp [mv] at hk
    rw [HN.out.2.2] at hk
    go_simp
    try with_reducible rfl
  try simp only [Act.put, List.setIfInBounds_toArray, List.set_cons_zero, List.set_cons_succ]
  refine wpAnyG_pure (i := 5) (oi := { dst := some 119, op := Op.call { callee := Callee.builtin Builtin.len, args := #[Operand.tmp 118], argTypes := #[24] }, type := 3, pos := _, after := #[{ on := 4, ground := Ground.data }], guard := none }) (v := ?_) rfl (by kernel_rfl) (by kernel_rfl) (by kernel_rfl) (by kernel_rfl) (fun _ _ _ h => h) (Or.inl ⟨by rfl, ?_⟩) (fun _ => by assumption) ?_
  rotate_left
  · intro w hSw
    try dsimp only at hSw
    go_simp
    try with_reducible rfl
  try simp only [Act.put, List.setIfInBounds_toArray, List.set_cons_zero, List.set_cons_succ]
  refine wpAnyG_pure (i := 6) (oi := { dst := some 120, op := Op.convert 3 5 (Operand.tmp 119), type := 5, pos := _, after := #[{ on := 5, ground := Ground.data }], guard := none }) (v := ?_) rfl (by kernel_rfl) (by kernel_rfl) (by kernel_rfl) (by kernel_rfl) (fun _ _ _ h => h) (Or.inl ⟨by rfl, ?_⟩) (fun _ => by assumption) ?_
  rotate_left
  · intro w hSw
    try dsimp only at hSw
    go_simp
    try with_reducible rfl
  try simp only [Act.put, List.setIfInBounds_toArray, List.set_cons_zero, List.set_cons_succ]
  refine wpAnyG_one (i := 7) (o := { dst := some 121, op := Op.call { callee := Callee.value (Operand.func 29), args := #[Operand.tmp 116, Operand.tmp 120], argTypes := #[59, 5] }, type := 0, pos := _, after := #[{ on := 2, ground := Ground.data }, { on := 6, ground := Ground.data }], guard := none }) (by kernel_rfl) rfl (fun K hK => ?_)
  go_simp
  refine (byteS HWS.out (by have := HL.out; omega) n HN.out.1).mono ?_
  rintro e w' h1
  have H1 := Lib.hid h1
  obtain ⟨rfl, _, _, q3, _⟩ := h1
  try dsimp only
  refine hK.out _ _ ?_ (fun hHeld => ?_)
  · intro _
    try dsimp only
    exact q3 _ _ _ HBP.out (by decide) hHeld
  clear hK K
  try simp only [Act.put, List.setIfInBounds_toArray, List.set_cons_zero, List.set_cons_succ]
  have hHeld := hHeld (by kernel_rfl)
  refine wpAnyG_done (by kernel_rfl) ?_ _
  refine NoPanic.normal ?_
  have HX2 := Lib.hid hHeld
  have H0 := Lib.hid (H1.out.after HB1.out HBS.out)
  have hk := hHeld.cell 12
  simp [mv] at hk
  rw [HN.out.2.2] at hk
  clear hHeld hwf
  have hnb : (n : Int) ≤ 255 := by have := HN.out.2.1; omega
  go_wp2_with fail
  clear hk
  go_loopw [9, 125] (fun t i wr => ∃ (j : Nat) (L : List UInt8), i = .int .i64 (j : Int) ∧ j ≤ n ∧ L = (m.nodes.take j).flatMap (fun n => be 2 n.toNat) ∧ L.length ≤ 80 * j ∧ PutS W base p (l ++ be 1 n ++ L) (.returned (.tuple #[])) wr) (fun _ i _ => n - (intOf i).toNat)
  case atStart => exact ⟨0, [], rfl, Nat.zero_le _, rfl, by simp, by rw [List.append_nil]; exact H0.out⟩
  case round =>
    obtain ⟨j, L, rfl, hj, hLe, hLl, hP⟩ := hrel
    by_cases hjl : j < n
    · have ja : j < m.nodes.length := by have := HN.out.2.2; omega
      obtain ⟨b1, o1, e1, _, c1⟩ := (HM.out.below hP.2.2.1).nodes.at_ (k := j) (by simpa using ja)
      rw [e1]
      simp only [List.getElem_map, iv] at c1
      have hz := HND.out _ (List.getElem_mem ja)
      obtain ⟨z, hzz⟩ : ∃ z : Nat, m.nodes[j] = (z : Int) := ⟨m.nodes[j].toNat, by omega⟩
      rw [hzz] at c1 hz
      have hwz : IntKind.u16.wrap (z : Int) = (z : Int) := by
        have e : ∀ x : Int, IntKind.u16.wrap x = x % 65536 := fun _ => rfl
        rw [e]; omega
      have h1 : (j : Int) < (n : Int) := by omega
      have h0 : (0 : Int) ≤ (j : Int) := by omega
      have HP := Lib.hid hP
      have HZ := Lib.hid (show z < 256 ^ 2 ∧ (l ++ be 1 n ++ L).length ≤ 1000000 by
        refine ⟨by omega, ?_⟩
        rw [List.length_append, List.length_append, be_len]; have := HL.out; have := HN.out.2.1; omega)
      have HR := Lib.hid (show (m.nodes.take (j + 1)).flatMap (fun n => be 2 n.toNat) = L ++ be 2 z ∧ (L ++ be 2 z).length ≤ 80 * (j + 1) by
        refine ⟨?_, by rw [List.length_append, be_len]; omega⟩
        rw [List.take_succ_eq_append_getElem ja, List.flatMap_append, hLe, hzz]; simp)
      clear hz hzz hLe hLl e1 hP
      go_wp2_with fail
      refine (shortS HP.out.2.1 HZ.out.2 z HZ.out.1).mono ?_
      rintro e w3 h3
      have H3 := Lib.hid (HP.out.two h3)
      obtain ⟨rfl, _, _, _⟩ := h3
      go_wp2_with fail
      go_roundw
      case rel => exact ⟨j + 1, L ++ be 2 z, rfl, hjl, HR.out.1.symm, HR.out.2, by rw [← List.append_assoc]; exact H3.out⟩
      case measure => simp [intOf]; omega
    · obtain rfl : j = n := by omega
      have HP := Lib.hid hP
      rw [List.take_of_length_le (by have := HN.out.2.2; omega)] at hLe
      have HLE := Lib.hid hLe
      clear hP hLe
      go_wp2_with fail
      go_end0
      rw [← HLE.out, ← List.append_assoc]
      exact HP.out
set_option maxRecDepth 100000 in
set_option maxHeartbeats 8000000 in
theorem put8_any (W : World) (base p : Nat) (l : List UInt8) (m : Msg) (s : Sl) (hS : WS base p l W) (hl : l.length ≤ 800000) (hM : MIn W base m s) (hm : MayF m) :
    Calls Tryd.prog 32 #[.pointer (some ⟨p, 0, none⟩), .int .u16 (bit 8), .agg (mv m s)] W (PutS W base p (l ++ fb m 8)) := by
  obtain ⟨bx, hbx⟩ : ∃ bx, W.heap.size = bx := ⟨_, rfl⟩
  have hpb : bx ≠ p := by obtain ⟨_, A, c, h⟩ := hS; have := h.blk.lt; omega
  have HBX := Lib.hid hbx
  have HBP := Lib.hid hpb
  have HMF := Lib.hid hm
  have HM := Lib.hid hM
  have HL := Lib.hid hl
  have HBS := Lib.hid hS.1
  rw [show bit 8 = 256 from rfl]
  obtain ⟨n, hn⟩ : ∃ n : Nat, m.ids.length = n := ⟨_, rfl⟩
  have hdl := hm.ids
  have hwf : IntKind.u8.wrap (n : Int) = (n : Int) := by
    have e : ∀ x : Int, IntKind.u8.wrap x = x % 256 := fun _ => rfl
    rw [e]; omega
  have HN := Lib.hid (show n < 256 ^ 1 ∧ n ≤ 64 ∧ m.ids.length = n by omega)
  rw [show fb m 8 = be 1 n ++ m.ids.flatMap (fun x => txt x.1 ++ be 8 x.2.toNat) by rw [← hn]; rfl]
  have HND := Lib.hid hm.id
  clear hdl hn
  obtain ⟨w1, hw1⟩ : ∃ w1 : World, (W.alloc (.cells (mv m s) 27)).drew = w1 := ⟨_, rfl⟩
  have hb1 : Below W.heap.size W w1 := by rw [← hw1]; exact nextN (nextA (Mem.start W) _) 1
  have HB1 := Lib.hid hb1
  have HX := Lib.hid (show Blk w1 bx 27 (mv m s) by rw [← hw1, ← hbx]; exact (Blk.new W _ _).keep (nextN (Mem.start _) 1))
  have HWS := Lib.hid (hS.keep hb1)
  have HW1 := Lib.hid hw1
  clear hS hl hM hm hbx hpb hb1 hw1
  go_enter Tryd.func32, Tryd.ntmps32
  go_wp2_with fail
  rw [HBX.out]
  refine wp_region_noPanic ?_
  refine wp_heldG (fun V => Blk V bx 27 (mv m s)) [] (by kernel_rfl) ?hs0 ?rg0
  case hs0 =>
    rw [HW1.out]; exact HX.out
  case rg0 =>
  intro hHeld
  rw [HW1.out] at hHeld ⊢
  refine wpAnyG_pure (i := 0) (oi := { dst := some 85, op := Op.move (Operand.tmp 0), type := 104, pos := _, after := #[], guard := none }) (v := ?_) rfl (by kernel_rfl) (by kernel_rfl) (by kernel_rfl) (by kernel_rfl) (fun _ _ _ h => h) (Or.inl ⟨by rfl, ?_⟩) (fun _ => by assumption) ?_
  rotate_left
  · intro w hSw
    try dsimp only at hSw
    go_simp
    try with_reducible rfl
  try simp only [Act.put, List.setIfInBounds_toArray, List.set_cons_zero, List.set_cons_succ]
  refine wpAnyG_pure (i := 1) (oi := { dst := some 86, op := Op.nilCheck (Operand.tmp 85), type := 0, pos := _, after := #[{ on := 0, ground := Ground.data }], guard := none }) (v := ?_) rfl (by kernel_rfl) (by kernel_rfl) (by kernel_rfl) (by kernel_rfl) (fun _ _ _ h => h) (Or.inl ⟨by rfl, ?_⟩) (fun _ => by assumption) ?_
  rotate_left
  · intro w hSw
    try dsimp only at hSw
    go_simp
    try with_reducible rfl
  try simp only [Act.put, List.setIfInBounds_toArray, List.set_cons_zero, List.set_cons_succ]
  refine wpAnyG_pure (i := 2) (oi := { dst := some 87, op := Op.fieldAddr 61 (Operand.tmp 86) 0, type := 0, pos := _, after := #[{ on := 1, ground := Ground.data }], guard := none }) (v := ?_) rfl (by kernel_rfl) (by kernel_rfl) (by kernel_rfl) (by kernel_rfl) (fun _ _ _ h => h) (Or.inl ⟨by rfl, ?_⟩) (fun _ => by assumption) ?_
  rotate_left
  · intro w hSw
    try dsimp only at hSw
    go_simp
    try with_reducible rfl
  try simp only [Act.put, List.setIfInBounds_toArray, List.set_cons_zero, List.set_cons_succ]
  refine wpAnyG_pure (i := 3) (oi := { dst := some 88, op := Op.fieldAddr 27 (Operand.tmp 5) 11, type := 0, pos := _, after := #[], guard := none }) (v := ?_) rfl (by kernel_rfl) (by kernel_rfl) (by kernel_rfl) (by kernel_rfl) (fun _ _ _ h => h) (Or.inl ⟨by rfl, ?_⟩) (fun _ => by assumption) ?_
  rotate_left
  · intro w hSw
    try dsimp only at hSw
    go_simp
    try with_reducible rfl
  try simp only [Act.put, List.setIfInBounds_toArray, List.set_cons_zero, List.set_cons_succ]
  refine wpAnyG_take (i := 4) (oi := { dst := some 89, op := Op.load 23 (Operand.tmp 88), type := 23, pos := _, after := #[{ on := 3, ground := Ground.data }], guard := none }) (v := ?_) rfl (by kernel_rfl) (by kernel_rfl) (by kernel_rfl) (by kernel_rfl) (fun _ _ _ h => h) (Or.inl ⟨by rfl, ?_⟩) (by assumption) ?_
  rotate_left
  · intro w hSw
    try dsimp only at hSw
    have hk := hSw.cell 11
    simp [mv] at hk
    rw [HN.out.2.2] at hk
    go_simp
    try with_reducible rfl
  try simp only [Act.put, List.setIfInBounds_toArray, List.set_cons_zero, List.set_cons_succ]
  refine wpAnyG_pure (i := 5) (oi := { dst := some 90, op := Op.call { callee := Callee.builtin Builtin.len, args := #[Operand.tmp 89], argTypes := #[23] }, type := 3, pos := _, after := #[{ on := 4, ground := Ground.data }], guard := none }) (v := ?_) rfl (by kernel_rfl) (by kernel_rfl) (by kernel_rfl) (by kernel_rfl) (fun _ _ _ h => h) (Or.inl ⟨by rfl, ?_⟩) (fun _ => by assumption) ?_
  rotate_left
  · intro w hSw
    try dsimp only at hSw
    go_simp
    try with_reducible rfl
  try simp only [Act.put, List.setIfInBounds_toArray, List.set_cons_zero, List.set_cons_succ]
  refine wpAnyG_pure (i := 6) (oi := { dst := some 91, op := Op.convert 3 5 (Operand.tmp 90), type := 5, pos := _, after := #[{ on := 5, ground := Ground.data }], guard := none }) (v := ?_) rfl (by kernel_rfl) (by kernel_rfl) (by kernel_rfl) (by kernel_rfl) (fun _ _ _ h => h) (Or.inl ⟨by rfl, ?_⟩) (fun _ => by assumption) ?_
  rotate_left
  · intro w hSw
    try dsimp only at hSw
    go_simp
    try with_reducible rfl
  try simp only [Act.put, List.setIfInBounds_toArray, List.set_cons_zero, List.set_cons_succ]
  refine wpAnyG_one (i := 7) (o := { dst := some 92, op := Op.call { callee := Callee.value (Operand.func 29), args := #[Operand.tmp 87, Operand.tmp 91], argTypes := #[59, 5] }, type := 0, pos := _, after := #[{ on := 2, ground := Ground.data }, { on := 6, ground := Ground.data }], guard := none }) (by kernel_rfl) rfl (fun K hK => ?_)
  go_simp
  refine (byteS HWS.out (by have := HL.out; omega) n HN.out.1).mono ?_
  rintro e w' h1
  have H1 := Lib.hid h1
  obtain ⟨rfl, _, _, q3, _⟩ := h1
  try dsimp only
  refine hK.out _ _ ?_ (fun hHeld => ?_)
  · intro _
    try dsimp only
    exact q3 _ _ _ HBP.out (by decide) hHeld
  clear hK K
  try simp only [Act.put, List.setIfInBounds_toArray, List.set_cons_zero, List.set_cons_succ]
  have hHeld := hHeld (by kernel_rfl)
  refine wpAnyG_done (by kernel_rfl) ?_ _
  refine NoPanic.normal ?_
  have HX2 := Lib.hid hHeld
  have H0 := Lib.hid (H1.out.after HB1.out HBS.out)
  have hk := hHeld.cell 11
  simp [mv] at hk
  rw [HN.out.2.2] at hk
  clear hHeld hwf
  have hnb : (n : Int) ≤ 64 := by have := HN.out.2.1; omega
  go_wp2_with fail
  clear hk
  go_loopw [7, 96] (fun t i wr => ∃ (j : Nat) (L : List UInt8), i = .int .i64 (j : Int) ∧ j ≤ n ∧ L = (m.ids.take j).flatMap (fun x => txt x.1 ++ be 8 x.2.toNat) ∧ L.length ≤ 80 * j ∧ PutS W base p (l ++ be 1 n ++ L) (.returned (.tuple #[])) wr) (fun _ i _ => n - (intOf i).toNat)
  case atStart => exact ⟨0, [], rfl, Nat.zero_le _, rfl, by simp, by rw [List.append_nil]; exact H0.out⟩
  case round =>
    obtain ⟨j, L, rfl, hj, hLe, hLl, hP⟩ := hrel
    by_cases hjl : j < n
    · have ja : j < m.ids.length := by have := HN.out.2.2; omega
      obtain ⟨b1, o1, e1, _, c1, c1'⟩ := ids_at (HM.out.below hP.2.2.1).ids ja
      rw [e1]
      have hz := HND.out _ (List.getElem_mem ja)
      obtain ⟨⟨ky, vr⟩, hx⟩ : ∃ x, m.ids[j] = x := ⟨_, rfl⟩
      rw [hx] at c1 c1' hz
      dsimp only at c1 c1' hz
      obtain ⟨z, hzz⟩ : ∃ z : Nat, vr = (z : Int) := ⟨vr.toNat, by omega⟩
      subst hzz
      have hwz : IntKind.u64.wrap (z : Int) = (z : Int) := by
        have e : ∀ x : Int, IntKind.u64.wrap x = x % 18446744073709551616 := fun _ => rfl
        rw [e]; omega
      have h1 : (j : Int) < (n : Int) := by omega
      have h0 : (0 : Int) ≤ (j : Int) := by omega
      have HP := Lib.hid hP
      have HZ := Lib.hid (show z < 256 ^ 8 ∧ (l ++ be 1 n ++ L).length ≤ 900000 ∧ ky.length ≤ 64 by
        refine ⟨by omega, ?_, hz.1⟩
        rw [List.length_append, List.length_append, be_len]; have := HL.out; have := HN.out.2.1; omega)
      have HR := Lib.hid (show (m.ids.take (j + 1)).flatMap (fun x => txt x.1 ++ be 8 x.2.toNat) = L ++ (txt ky ++ be 8 z) ∧ (L ++ (txt ky ++ be 8 z)).length ≤ 80 * (j + 1) by
        refine ⟨?_, by rw [List.length_append, List.length_append, be_len]; unfold txt; rw [List.length_append, be_len]; omega⟩
        rw [List.take_succ_eq_append_getElem ja, List.flatMap_append, hLe, hx]; simp)
      clear hz hx hLe hLl e1 hP
      obtain ⟨w5, hw5⟩ : ∃ w5 : World, wr.alloc (.cells #[.string (str ky), .int .i64 (z : Int)] 50) = w5 := ⟨_, rfl⟩
      obtain ⟨bi, hbi⟩ : ∃ bi, wr.heap.size = bi := ⟨_, rfl⟩
      have hb5 : Below wr.heap.size wr w5 := by rw [← hw5]; exact nextA (Mem.start wr) _
      have HB5 := Lib.hid hb5
      have HX5 := Lib.hid (show Blk w5 bi 50 #[.string (str ky), .int .i64 (z : Int)] by rw [← hw5, ← hbi]; exact Blk.new wr _ _)
      have HW5 := Lib.hid hw5
      have HBI := Lib.hid (show bi ≠ p by obtain ⟨_, A, c, h⟩ := HP.out.2.1; have := h.blk.lt; omega)
      have k0 := HX5.out.cell 0
      simp at k0
      clear hb5
      go_wp2_with fail
      refine (text_any w5 base p _ ky (HP.out.2.1.keep HB5.out) HZ.out.2.1 HZ.out.2.2).mono ?_
      rintro e w6 h3
      have H3 := Lib.hid h3
      obtain ⟨rfl, _, _, q3, _⟩ := h3
      have HX6 := Lib.hid (q3 _ _ _ HBI.out (by decide) HX5.out)
      have HW6 := Lib.hid (H3.out.2.1.keep (nextN (Mem.start _) 1))
      clear q3 k0 hw5 hbi c1 c1'
      go_wp2_with fail
      refine wp_region_noPanic ?_
      refine wp_heldG (fun V => Blk V bi 50 #[.string (str ky), .int .i64 (z : Int)]) [] (by kernel_rfl) ?hs0 ?rg0
      case hs0 =>
        exact HX6.out.keep (nextN (Mem.start _) 1)
      case rg0 =>
      intro hHeld
      refine wpAnyG_pure (i := 0) (oi := { dst := some 104, op := Op.move (Operand.tmp 0), type := 104, pos := _, after := #[], guard := none }) (v := ?_) rfl (by kernel_rfl) (by kernel_rfl) (by kernel_rfl) (by kernel_rfl) (fun _ _ _ h => h) (Or.inl ⟨by rfl, ?_⟩) (fun _ => by assumption) ?_
      rotate_left
      · intro w hSw
        try dsimp only at hSw
        go_simp
        try with_reducible rfl
      try simp only [Act.put, List.setIfInBounds_toArray, List.set_cons_zero, List.set_cons_succ]
      refine wpAnyG_pure (i := 1) (oi := { dst := some 105, op := Op.nilCheck (Operand.tmp 104), type := 0, pos := _, after := #[{ on := 0, ground := Ground.data }], guard := none }) (v := ?_) rfl (by kernel_rfl) (by kernel_rfl) (by kernel_rfl) (by kernel_rfl) (fun _ _ _ h => h) (Or.inl ⟨by rfl, ?_⟩) (fun _ => by assumption) ?_
      rotate_left
      · intro w hSw
        try dsimp only at hSw
        go_simp
        try with_reducible rfl
      try simp only [Act.put, List.setIfInBounds_toArray, List.set_cons_zero, List.set_cons_succ]
      refine wpAnyG_pure (i := 2) (oi := { dst := some 106, op := Op.fieldAddr 61 (Operand.tmp 105) 0, type := 0, pos := _, after := #[{ on := 1, ground := Ground.data }], guard := none }) (v := ?_) rfl (by kernel_rfl) (by kernel_rfl) (by kernel_rfl) (by kernel_rfl) (fun _ _ _ h => h) (Or.inl ⟨by rfl, ?_⟩) (fun _ => by assumption) ?_
      rotate_left
      · intro w hSw
        try dsimp only at hSw
        go_simp
        try with_reducible rfl
      try simp only [Act.put, List.setIfInBounds_toArray, List.set_cons_zero, List.set_cons_succ]
      refine wpAnyG_pure (i := 3) (oi := { dst := some 107, op := Op.fieldAddr 50 (Operand.tmp 7) 1, type := 0, pos := _, after := #[], guard := none }) (v := ?_) rfl (by kernel_rfl) (by kernel_rfl) (by kernel_rfl) (by kernel_rfl) (fun _ _ _ h => h) (Or.inl ⟨by rfl, ?_⟩) (fun _ => by assumption) ?_
      rotate_left
      · intro w hSw
        try dsimp only at hSw
        go_simp
        try with_reducible rfl
      try simp only [Act.put, List.setIfInBounds_toArray, List.set_cons_zero, List.set_cons_succ]
      refine wpAnyG_take (i := 4) (oi := { dst := some 108, op := Op.load 2 (Operand.tmp 107), type := 2, pos := _, after := #[{ on := 3, ground := Ground.data }], guard := none }) (v := ?_) rfl (by kernel_rfl) (by kernel_rfl) (by kernel_rfl) (by kernel_rfl) (fun _ _ _ h => h) (Or.inl ⟨by rfl, ?_⟩) (by assumption) ?_
      rotate_left
      · intro w hSw
        try dsimp only at hSw
        have hk := hSw.cell 1
        simp at hk
        go_simp
        try with_reducible rfl
      try simp only [Act.put, List.setIfInBounds_toArray, List.set_cons_zero, List.set_cons_succ]
      refine wpAnyG_pure (i := 5) (oi := { dst := some 109, op := Op.convert 2 90 (Operand.tmp 108), type := 90, pos := _, after := #[{ on := 4, ground := Ground.data }], guard := none }) (v := ?_) rfl (by kernel_rfl) (by kernel_rfl) (by kernel_rfl) (by kernel_rfl) (fun _ _ _ h => h) (Or.inl ⟨by rfl, ?_⟩) (fun _ => by assumption) ?_
      rotate_left
      · intro w hSw
        try dsimp only at hSw
        go_simp
        try with_reducible rfl
      try simp only [Act.put, List.setIfInBounds_toArray, List.set_cons_zero, List.set_cons_succ]
      refine wpAnyG_one (i := 6) (o := { dst := some 110, op := Op.call { callee := Callee.value (Operand.func 58), args := #[Operand.tmp 106, Operand.tmp 109], argTypes := #[59, 90] }, type := 0, pos := _, after := #[{ on := 2, ground := Ground.data }, { on := 5, ground := Ground.data }], guard := none }) (by kernel_rfl) rfl (fun K hK => ?_)
      go_simp
      refine (longS HW6.out (by rw [List.length_append, txt_len]; have := HZ.out; omega) z HZ.out.1).mono ?_
      rintro e w7 h1
      have H2 := Lib.hid h1
      obtain ⟨rfl, _, _, q3, _⟩ := h1
      try dsimp only
      refine hK.out _ _ ?_ (fun hHeld => ?_)
      · intro _
        try dsimp only
        exact q3 _ _ _ HBI.out (by decide) hHeld
      clear hK K
      try simp only [Act.put, List.setIfInBounds_toArray, List.set_cons_zero, List.set_cons_succ]
      have hHeld := hHeld (by kernel_rfl)
      refine wpAnyG_done (by kernel_rfl) ?_ _
      refine NoPanic.normal ?_
      have H4 := Lib.hid ((HP.out.two (H3.out.after HB5.out HP.out.2.1.1)).two (H2.out.after (nextN (Mem.start _) 1) H3.out.2.1.1))
      clear hHeld hwz
      go_wp2_with fail
      go_roundw
      case rel => exact ⟨j + 1, L ++ (txt ky ++ be 8 z), rfl, hjl, HR.out.1.symm, HR.out.2, by have := H4.out; simp only [List.append_assoc] at this ⊢; exact this⟩
      case measure => simp [intOf]; omega
    · obtain rfl : j = n := by omega
      have HP := Lib.hid hP
      rw [List.take_of_length_le (by have := HN.out.2.2; omega)] at hLe
      have HLE := Lib.hid hLe
      clear hP hLe
      go_wp2_with fail
      go_end0
      rw [← HLE.out, ← List.append_assoc]
      exact HP.out
end Go.Proofs.YtebdmfmadbikaaaDoor.WiW
