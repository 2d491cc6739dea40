/- Texts of a claim, one behind another. -/
import Derived.Test.YthdapoipfnnaeaaQLawMatrixMakes1
import Derived.Test.YthdapoipfnnaeaaPlIn
/- Mul. -/
namespace Go.Proofs.Ythdapoipfnnaeaa.MxW
open Go.RowKit Go.Shelf Mem Gf FdW Mx Rng
open PlW (In)
set_option linter.unusedVariables false
attribute [local go_sem] Oper.semAt_some wide_fn

theorem boxedT (w : World) (cs : Array Value) (T : TypeId) : ∃ w' g, (Below w.heap.size w w' ∧ Blk w' g T cs ∧ w'.heap.size = g + 1) ∧ w.alloc (.cells cs T) = w' ∧ w.heap.size = g :=
  ⟨_, _, ⟨nextA (Mem.start w) _, Blk.new w _ _, World.size_alloc _ _⟩, rfl, rfl⟩
/-- A new matrix, and OK; the field may have been made. -/
def NewF (w : World) (p r c : Nat) (m : M) (e : Ending) (w' : World) : Prop := ∃ A cap, e = .returned (.tuple #[.agg #[.int .i64 (r : Int), .int .i64 (c : Int), .slice A (r * c) cap], .int .i64 0]) ∧ r * c ≤ cap ∧ Nw w.heap.size w' A (flat r c m) ∧ Fld w' p ∧ Fr (fun k => k = p) w w'
def fcellv (p : Nat) : Array Value := #[fptr (some p)]
/-- Behind the parameters. -/
structure MulP (w W : World) (gf ga gb g0 p : Nat) (ca cb : Array Value) : Prop where
  below : Below w.heap.size w W
  f : Blk W gf 24 (fcellv p)
  a : Blk W ga 27 ca
  b : Blk W gb 27 cb
  res : Blk W g0 27 zmx
  nums : w.heap.size = gf ∧ ga = gf + 1 ∧ gb = gf + 2 ∧ g0 = gf + 3 ∧ gf + 4 ≤ W.heap.size
theorem MulP.keep {w W W' : World} {gf ga gb g0 p : Nat} {ca cb : Array Value} (h : MulP w W gf ga gb g0 p ca cb) (hb : Below W.heap.size W W') : MulP w W' gf ga gb g0 p ca cb :=
  ⟨next h.below hb, h.f.keep hb, h.a.keep hb, h.b.keep hb, h.res.keep hb, by have := h.nums; have := hb.size; omega⟩
theorem mulP_start (w : World) (p : Nat) (ca cb : Array Value) : ∃ w1, MulP w w1 w.heap.size (w.heap.size + 1) (w.heap.size + 1 + 1) (w.heap.size + 1 + 1 + 1) p ca cb ∧
    (((w.alloc (.cells (fcellv p) 24)).alloc (.cells ca 27)).alloc (.cells cb 27)).alloc (.cells zmx 27) = w1 := by
  obtain ⟨x1, g1, h1, e1, n1⟩ := boxedT w (fcellv p) 24
  obtain ⟨x2, g2, h2, e2, n2⟩ := boxed x1 ca
  obtain ⟨x3, g3, h3, e3, n3⟩ := boxed x2 cb
  obtain ⟨x4, g4, h4, e4, n4⟩ := boxed x3 zmx
  refine ⟨x4, ?_, by rw [e1, e2, e3, e4]⟩
  have k1 := h1.2.2; have k2 := h2.2.2; have k3 := h3.2.2; have k4 := h4.2.2
  rw [n1]
  obtain rfl : g2 = g1 + 1 := by omega
  obtain rfl : g3 = g1 + 1 + 1 := by omega
  obtain rfl : g4 = g1 + 1 + 1 + 1 := by omega
  exact ⟨next (next (next h1.1 h2.1) h3.1) h4.1, ((h1.2.1.keep h2.1).keep h3.1).keep h4.1, (h2.2.1.keep h3.1).keep h4.1, h3.2.1.keep h4.1, h4.2.1, by omega⟩
set_option maxRecDepth 100000 in
set_option maxHeartbeats 8000000 in
theorem mul_bad1 (w : World) (p : Nat) (R C R' C' : Int) (A A' : Option Addr) (n cap n' cap' : Nat) (hrt : rightB R C n = false) :
    Calls Try.prog 18 #[fptr (some p), .agg #[.int .i64 R, .int .i64 C, .slice A n cap], .agg #[.int .i64 R', .int .i64 C', .slice A' n' cap']] w (ErrM w 50) := by
  refine of_wide ?_
  refine callsIn_of_wp_marks Try.func18 rfl trivial ?_ rfl
  refine wpIn_wide.2 ?_
  simp only [Try.ntmps18, List.size_toArray, List.length_cons, List.length_nil, Nat.reduceAdd, Nat.reduceSub, Array.replicate_succ, Array.replicate_zero, List.push_toArray, List.append_toArray, List.nil_append, List.cons_append]
  obtain ⟨w1, h1, hw1⟩ := mulP_start w p #[.int .i64 R, .int .i64 C, .slice A n cap] #[.int .i64 R', .int .i64 C', .slice A' n' cap']
  obtain ⟨gf, hgf⟩ : ∃ x, w.heap.size = x := ⟨_, rfl⟩
  rw [hgf] at h1
  have HW1 := Lib.hid (show (((w.alloc (.cells #[fptr (some p)] 24)).alloc (.cells #[.int .i64 R, .int .i64 C, .slice A n cap] 27)).alloc (.cells #[.int .i64 R', .int .i64 C', .slice A' n' cap'] 27)).alloc (.cells #[.int .i64 0, .int .i64 0, .slice none 0 0] 27) = w1 from hw1)
  have H1 := Lib.hid h1
  have HG := Lib.hid hgf
  have HRT := Lib.hid hrt
  clear h1 hw1 hgf hrt
  go_wp2_with fail
  rw [HW1.out, HG.out]
  --HELD mulb1
  refine wp_region_noPanic ?_
  refine wp_heldG (fun w' => Below w1.heap.size w1 w') [] (by kernel_rfl) ?hs0 ?rg0
  case hs0 =>
    exact nextN (Mem.start w1) 1
  case rg0 =>
  intro hHeld
  refine wpAnyG_take (i := 0) (oi := { dst := some 13, op := Op.load 27 (Operand.tmp 4), type := 27, pos := _, after := #[], guard := none }) (v := ?_) rfl (by kernel_rfl) (by kernel_rfl) (by kernel_rfl) (by kernel_rfl) (fun _ _ _ h => h) (Or.inl ⟨by rfl, ?_⟩) (by assumption) ?_
  rotate_left
  · intro w hSw
    try dsimp only at hSw
    obtain ⟨⟨c0, c1, c2⟩, _⟩ := cells3 (H1.out.a.keep hSw)
    go_simp
    try with_reducible rfl
  try simp only [Act.put, List.setIfInBounds_toArray, List.set_cons_zero, List.set_cons_succ]
  refine wpAnyG_one (i := 1) (o := { dst := some 14, op := Op.call { callee := Callee.value (Operand.func 26), args := #[Operand.tmp 13], argTypes := #[27] }, type := 4, pos := _, after := #[{ on := 0, ground := Ground.data }], guard := none }) (by kernel_rfl) rfl (fun K hK => ?_)
  go_simp
  refine (right_any _ _ _ A n cap).mono ?_
  rintro e wA ⟨rfl, hb⟩
  rw [HRT.out]
  have HA := Lib.hid (next hHeld hb)
  try dsimp only
  refine hK.out _ _ ?_ (fun hHeld => ?_)
  · intro _
    try dsimp only
    exact HA.out
  clear hK K
  try simp only [Act.put, List.setIfInBounds_toArray, List.set_cons_zero, List.set_cons_succ]
  have hHeld := hHeld (by kernel_rfl)
  refine wpAnyG_pure (i := 2) (oi := { dst := some 15, op := Op.unOp UnOp.not 4 (Operand.tmp 14), type := 4, pos := _, after := #[{ on := 1, ground := Ground.data }], guard := none }) (v := ?_) rfl (by kernel_rfl) (by kernel_rfl) (by kernel_rfl) (by kernel_rfl) (fun _ _ _ h => h) (Or.inl ⟨by rfl, ?_⟩) (fun _ => by assumption) ?_
  rotate_left
  · intro w hSw
    try dsimp only at hSw
    go_simp
    try with_reducible rfl
  try simp only [Act.put, List.setIfInBounds_toArray, List.set_cons_zero, List.set_cons_succ]
  refine wpAnyG_pure (i := 3) (oi := { dst := some 16, op := Op.move (Operand.tmp 15), type := 4, pos := _, after := #[{ on := 2, ground := Ground.data }, { on := 1, ground := Ground.chain }], guard := none }) (v := ?_) rfl (by kernel_rfl) (by kernel_rfl) (by kernel_rfl) (by kernel_rfl) (fun _ _ _ h => h) (Or.inl ⟨by rfl, ?_⟩) (fun _ => by assumption) ?_
  rotate_left
  · intro w hSw
    try dsimp only at hSw
    go_simp
    try with_reducible rfl
  try simp only [Act.put, List.setIfInBounds_toArray, List.set_cons_zero, List.set_cons_succ]
  refine wpAnyG_pure (i := 4) (oi := { dst := some 17, op := Op.load 27 (Operand.tmp 5), type := 27, pos := _, after := #[{ on := 3, ground := Ground.guard }], guard := some (3, false) }) (v := undef) rfl (by kernel_rfl) (by kernel_rfl) (by kernel_rfl) (by kernel_rfl) (fun _ _ _ h => h) (Or.inr ⟨by rfl, rfl⟩) (fun _ => by assumption) ?_
  try simp only [Act.put, List.setIfInBounds_toArray, List.set_cons_zero, List.set_cons_succ]
  refine wpAnyG_pure (i := 5) (oi := { dst := some 18, op := Op.call { callee := Callee.value (Operand.func 26), args := #[Operand.tmp 17], argTypes := #[27] }, type := 4, pos := _, after := #[{ on := 4, ground := Ground.data }, { on := 3, ground := Ground.chain }, { on := 3, ground := Ground.guard }], guard := some (3, false) }) (v := undef) rfl (by kernel_rfl) (by kernel_rfl) (by kernel_rfl) (by kernel_rfl) (fun _ _ _ h => h) (Or.inr ⟨by rfl, rfl⟩) (fun _ => by assumption) ?_
  try simp only [Act.put, List.setIfInBounds_toArray, List.set_cons_zero, List.set_cons_succ]
  refine wpAnyG_pure (i := 6) (oi := { dst := some 19, op := Op.unOp UnOp.not 4 (Operand.tmp 18), type := 4, pos := _, after := #[{ on := 5, ground := Ground.data }, { on := 3, ground := Ground.guard }], guard := some (3, false) }) (v := undef) rfl (by kernel_rfl) (by kernel_rfl) (by kernel_rfl) (by kernel_rfl) (fun _ _ _ h => h) (Or.inr ⟨by rfl, rfl⟩) (fun _ => by assumption) ?_
  try simp only [Act.put, List.setIfInBounds_toArray, List.set_cons_zero, List.set_cons_succ]
  refine wpAnyG_pure (i := 7) (oi := { dst := some 20, op := Op.pick (Operand.tmp 16) (Operand.const (Value.bool true)) (Operand.tmp 19), type := 4, pos := _, after := #[{ on := 3, ground := Ground.data }, { on := 6, ground := Ground.data }], guard := none }) (v := ?_) rfl (by kernel_rfl) (by kernel_rfl) (by kernel_rfl) (by kernel_rfl) (fun _ _ _ h => h) (Or.inl ⟨by rfl, ?_⟩) (fun _ => by assumption) ?_
  rotate_left
  · intro w hSw
    try dsimp only at hSw
    go_simp
    try with_reducible rfl
  try simp only [Act.put, List.setIfInBounds_toArray, List.set_cons_zero, List.set_cons_succ]
  refine wpAnyG_pure (i := 8) (oi := { dst := some 21, op := Op.move (Operand.tmp 20), type := 4, pos := _, after := #[{ on := 7, ground := Ground.data }, { on := 5, ground := Ground.chain }], guard := none }) (v := ?_) rfl (by kernel_rfl) (by kernel_rfl) (by kernel_rfl) (by kernel_rfl) (fun _ _ _ h => h) (Or.inl ⟨by rfl, ?_⟩) (fun _ => by assumption) ?_
  rotate_left
  · intro w hSw
    try dsimp only at hSw
    go_simp
    try with_reducible rfl
  try simp only [Act.put, List.setIfInBounds_toArray, List.set_cons_zero, List.set_cons_succ]
  refine wpAnyG_pure (i := 9) (oi := { dst := some 22, op := Op.fieldAddr 27 (Operand.tmp 4) 1, type := 0, pos := _, after := #[{ on := 8, ground := Ground.guard }], guard := some (8, false) }) (v := undef) rfl (by kernel_rfl) (by kernel_rfl) (by kernel_rfl) (by kernel_rfl) (fun _ _ _ h => h) (Or.inr ⟨by rfl, rfl⟩) (fun _ => by assumption) ?_
  try simp only [Act.put, List.setIfInBounds_toArray, List.set_cons_zero, List.set_cons_succ]
  refine wpAnyG_pure (i := 10) (oi := { dst := some 23, op := Op.load 3 (Operand.tmp 22), type := 3, pos := _, after := #[{ on := 9, ground := Ground.data }, { on := 8, ground := Ground.guard }], guard := some (8, false) }) (v := undef) rfl (by kernel_rfl) (by kernel_rfl) (by kernel_rfl) (by kernel_rfl) (fun _ _ _ h => h) (Or.inr ⟨by rfl, rfl⟩) (fun _ => by assumption) ?_
  try simp only [Act.put, List.setIfInBounds_toArray, List.set_cons_zero, List.set_cons_succ]
  refine wpAnyG_pure (i := 11) (oi := { dst := some 24, op := Op.fieldAddr 27 (Operand.tmp 5) 0, type := 0, pos := _, after := #[{ on := 8, ground := Ground.guard }], guard := some (8, false) }) (v := undef) rfl (by kernel_rfl) (by kernel_rfl) (by kernel_rfl) (by kernel_rfl) (fun _ _ _ h => h) (Or.inr ⟨by rfl, rfl⟩) (fun _ => by assumption) ?_
  try simp only [Act.put, List.setIfInBounds_toArray, List.set_cons_zero, List.set_cons_succ]
  refine wpAnyG_pure (i := 12) (oi := { dst := some 25, op := Op.load 3 (Operand.tmp 24), type := 3, pos := _, after := #[{ on := 11, ground := Ground.data }, { on := 8, ground := Ground.guard }], guard := some (8, false) }) (v := undef) rfl (by kernel_rfl) (by kernel_rfl) (by kernel_rfl) (by kernel_rfl) (fun _ _ _ h => h) (Or.inr ⟨by rfl, rfl⟩) (fun _ => by assumption) ?_
  try simp only [Act.put, List.setIfInBounds_toArray, List.set_cons_zero, List.set_cons_succ]
  refine wpAnyG_pure (i := 13) (oi := { dst := some 26, op := Op.binOp BinOp.neq 3 (Operand.tmp 23) (Operand.tmp 25) 3, type := 4, pos := _, after := #[{ on := 10, ground := Ground.data }, { on := 12, ground := Ground.data }, { on := 8, ground := Ground.guard }], guard := some (8, false) }) (v := undef) rfl (by kernel_rfl) (by kernel_rfl) (by kernel_rfl) (by kernel_rfl) (fun _ _ _ h => h) (Or.inr ⟨by rfl, rfl⟩) (fun _ => by assumption) ?_
  try simp only [Act.put, List.setIfInBounds_toArray, List.set_cons_zero, List.set_cons_succ]
  refine wpAnyG_pure (i := 14) (oi := { dst := some 27, op := Op.pick (Operand.tmp 21) (Operand.const (Value.bool true)) (Operand.tmp 26), type := 4, pos := _, after := #[{ on := 8, ground := Ground.data }, { on := 13, ground := Ground.data }], guard := none }) (v := ?_) rfl (by kernel_rfl) (by kernel_rfl) (by kernel_rfl) (by kernel_rfl) (fun _ _ _ h => h) (Or.inl ⟨by rfl, ?_⟩) (fun _ => by assumption) ?_
  rotate_left
  · intro w hSw
    try dsimp only at hSw
    go_simp
    try with_reducible rfl
  try simp only [Act.put, List.setIfInBounds_toArray, List.set_cons_zero, List.set_cons_succ]
  refine wpAnyG_pure (i := 15) (oi := { dst := some 28, op := Op.move (Operand.tmp 27), type := 4, pos := _, after := #[{ on := 14, ground := Ground.data }, { on := 8, ground := Ground.chain }], guard := none }) (v := ?_) rfl (by kernel_rfl) (by kernel_rfl) (by kernel_rfl) (by kernel_rfl) (fun _ _ _ h => h) (Or.inl ⟨by rfl, ?_⟩) (fun _ => by assumption) ?_
  rotate_left
  · intro w hSw
    try dsimp only at hSw
    go_simp
    try with_reducible rfl
  try simp only [Act.put, List.setIfInBounds_toArray, List.set_cons_zero, List.set_cons_succ]
  refine wpAnyG_pure (i := 16) (oi := { dst := some 29, op := Op.fieldAddr 27 (Operand.tmp 4) 0, type := 0, pos := _, after := #[{ on := 15, ground := Ground.guard }], guard := some (15, false) }) (v := undef) rfl (by kernel_rfl) (by kernel_rfl) (by kernel_rfl) (by kernel_rfl) (fun _ _ _ h => h) (Or.inr ⟨by rfl, rfl⟩) (fun _ => by assumption) ?_
  try simp only [Act.put, List.setIfInBounds_toArray, List.set_cons_zero, List.set_cons_succ]
  refine wpAnyG_pure (i := 17) (oi := { dst := some 30, op := Op.load 3 (Operand.tmp 29), type := 3, pos := _, after := #[{ on := 16, ground := Ground.data }, { on := 15, ground := Ground.guard }], guard := some (15, false) }) (v := undef) rfl (by kernel_rfl) (by kernel_rfl) (by kernel_rfl) (by kernel_rfl) (fun _ _ _ h => h) (Or.inr ⟨by rfl, rfl⟩) (fun _ => by assumption) ?_
  try simp only [Act.put, List.setIfInBounds_toArray, List.set_cons_zero, List.set_cons_succ]
  refine wpAnyG_pure (i := 18) (oi := { dst := some 31, op := Op.binOp BinOp.gtr 3 (Operand.tmp 30) (Operand.const (Value.int IntKind.i64 0)) 3, type := 4, pos := _, after := #[{ on := 17, ground := Ground.data }, { on := 15, ground := Ground.guard }], guard := some (15, false) }) (v := undef) rfl (by kernel_rfl) (by kernel_rfl) (by kernel_rfl) (by kernel_rfl) (fun _ _ _ h => h) (Or.inr ⟨by rfl, rfl⟩) (fun _ => by assumption) ?_
  try simp only [Act.put, List.setIfInBounds_toArray, List.set_cons_zero, List.set_cons_succ]
  refine wpAnyG_pure (i := 19) (oi := { dst := some 32, op := Op.move (Operand.tmp 31), type := 4, pos := _, after := #[{ on := 18, ground := Ground.data }, { on := 15, ground := Ground.chain }, { on := 15, ground := Ground.guard }], guard := some (15, false) }) (v := undef) rfl (by kernel_rfl) (by kernel_rfl) (by kernel_rfl) (by kernel_rfl) (fun _ _ _ h => h) (Or.inr ⟨by rfl, rfl⟩) (fun _ => by assumption) ?_
  try simp only [Act.put, List.setIfInBounds_toArray, List.set_cons_zero, List.set_cons_succ]
  refine wpAnyG_pure (i := 20) (oi := { dst := some 33, op := Op.fieldAddr 27 (Operand.tmp 5) 1, type := 0, pos := _, after := #[{ on := 19, ground := Ground.guard }], guard := some (19, true) }) (v := undef) rfl (by kernel_rfl) (by kernel_rfl) (by kernel_rfl) (by kernel_rfl) (fun _ _ _ h => h) (Or.inr ⟨by rfl, rfl⟩) (fun _ => by assumption) ?_
  try simp only [Act.put, List.setIfInBounds_toArray, List.set_cons_zero, List.set_cons_succ]
  refine wpAnyG_pure (i := 21) (oi := { dst := some 34, op := Op.load 3 (Operand.tmp 33), type := 3, pos := _, after := #[{ on := 20, ground := Ground.data }, { on := 19, ground := Ground.guard }], guard := some (19, true) }) (v := undef) rfl (by kernel_rfl) (by kernel_rfl) (by kernel_rfl) (by kernel_rfl) (fun _ _ _ h => h) (Or.inr ⟨by rfl, rfl⟩) (fun _ => by assumption) ?_
  try simp only [Act.put, List.setIfInBounds_toArray, List.set_cons_zero, List.set_cons_succ]
  refine wpAnyG_pure (i := 22) (oi := { dst := some 35, op := Op.fieldAddr 27 (Operand.tmp 4) 0, type := 0, pos := _, after := #[{ on := 19, ground := Ground.guard }], guard := some (19, true) }) (v := undef) rfl (by kernel_rfl) (by kernel_rfl) (by kernel_rfl) (by kernel_rfl) (fun _ _ _ h => h) (Or.inr ⟨by rfl, rfl⟩) (fun _ => by assumption) ?_
  try simp only [Act.put, List.setIfInBounds_toArray, List.set_cons_zero, List.set_cons_succ]
  refine wpAnyG_pure (i := 23) (oi := { dst := some 36, op := Op.load 3 (Operand.tmp 35), type := 3, pos := _, after := #[{ on := 22, ground := Ground.data }, { on := 19, ground := Ground.guard }], guard := some (19, true) }) (v := undef) rfl (by kernel_rfl) (by kernel_rfl) (by kernel_rfl) (by kernel_rfl) (fun _ _ _ h => h) (Or.inr ⟨by rfl, rfl⟩) (fun _ => by assumption) ?_
  try simp only [Act.put, List.setIfInBounds_toArray, List.set_cons_zero, List.set_cons_succ]
  refine wpAnyG_pure (i := 24) (oi := { dst := some 37, op := Op.binOp BinOp.quo 3 (Operand.const (Value.int IntKind.i64 16777216)) (Operand.tmp 36) 3, type := 3, pos := _, after := #[{ on := 23, ground := Ground.data }, { on := 19, ground := Ground.guard }], guard := some (19, true) }) (v := undef) rfl (by kernel_rfl) (by kernel_rfl) (by kernel_rfl) (by kernel_rfl) (fun _ _ _ h => h) (Or.inr ⟨by rfl, rfl⟩) (fun _ => by assumption) ?_
  try simp only [Act.put, List.setIfInBounds_toArray, List.set_cons_zero, List.set_cons_succ]
  refine wpAnyG_pure (i := 25) (oi := { dst := some 38, op := Op.binOp BinOp.gtr 3 (Operand.tmp 34) (Operand.tmp 37) 3, type := 4, pos := _, after := #[{ on := 21, ground := Ground.data }, { on := 24, ground := Ground.data }, { on := 19, ground := Ground.guard }], guard := some (19, true) }) (v := undef) rfl (by kernel_rfl) (by kernel_rfl) (by kernel_rfl) (by kernel_rfl) (fun _ _ _ h => h) (Or.inr ⟨by rfl, rfl⟩) (fun _ => by assumption) ?_
  try simp only [Act.put, List.setIfInBounds_toArray, List.set_cons_zero, List.set_cons_succ]
  refine wpAnyG_pure (i := 26) (oi := { dst := some 39, op := Op.pick (Operand.tmp 32) (Operand.tmp 38) (Operand.const (Value.bool false)), type := 4, pos := _, after := #[{ on := 19, ground := Ground.data }, { on := 25, ground := Ground.data }, { on := 15, ground := Ground.guard }], guard := some (15, false) }) (v := undef) rfl (by kernel_rfl) (by kernel_rfl) (by kernel_rfl) (by kernel_rfl) (fun _ _ _ h => h) (Or.inr ⟨by rfl, rfl⟩) (fun _ => by assumption) ?_
  try simp only [Act.put, List.setIfInBounds_toArray, List.set_cons_zero, List.set_cons_succ]
  refine wpAnyG_pure (i := 27) (oi := { dst := some 40, op := Op.pick (Operand.tmp 28) (Operand.const (Value.bool true)) (Operand.tmp 39), type := 4, pos := _, after := #[{ on := 15, ground := Ground.data }, { on := 26, ground := Ground.data }], guard := none }) (v := ?_) rfl (by kernel_rfl) (by kernel_rfl) (by kernel_rfl) (by kernel_rfl) (fun _ _ _ h => h) (Or.inl ⟨by rfl, ?_⟩) (fun _ => by assumption) ?_
  rotate_left
  · intro w hSw
    try dsimp only at hSw
    go_simp
    try with_reducible rfl
  try simp only [Act.put, List.setIfInBounds_toArray, List.set_cons_zero, List.set_cons_succ]
  refine wpAnyG_done (by kernel_rfl) ?_ _
  refine NoPanic.normal ?_
  --END mulb1
  have hres := (show MulP w wA gf (gf + 1) (gf + 1 + 1) (gf + 1 + 1 + 1) p _ _ from H1.out.keep HA.out).res
  obtain ⟨⟨d0, d1, d2⟩, f0, f1, f2⟩ := cells3 hres
  go_wp2_with fail
  have h3 := set3 hres (.int .i64 0) (.int .i64 0) (.slice none 0 0)
  obtain ⟨w3, hw3⟩ : ∃ x : World, ((wA.setCell ⟨gf + 1 + 1 + 1, 0, none⟩ (.int .i64 0)).setCell ⟨gf + 1 + 1 + 1, 1, none⟩ (.int .i64 0)).setCell ⟨gf + 1 + 1 + 1, 2, none⟩ (.slice none 0 0) = x := ⟨_, rfl⟩
  rw [hw3] at h3 ⊢
  obtain ⟨⟨e0, e1, e2⟩, _⟩ := cells3 h3.1
  refine ⟨.tuple #[.agg #[.int .i64 0, .int .i64 0, .slice none 0 0], .int .i64 50], ?_, rfl, ?_⟩
  · simp [results, Try.results18, go_sem, e0, e1, e2]
  · have hb := (H1.out.keep HA.out).below
    have hn := H1.out.nums
    exact hb.trans (h3.2.below hb.size fun k e => by rw [e]; omega)
set_option maxRecDepth 100000 in
set_option maxHeartbeats 8000000 in
theorem mul_bad2 (w : World) (p : Nat) (R C R' C' : Int) (A A' : Option Addr) (n cap n' cap' : Nat) (hrt : rightB R C n = true) (hrt2 : rightB R' C' n' = false) :
    Calls Try.prog 18 #[fptr (some p), .agg #[.int .i64 R, .int .i64 C, .slice A n cap], .agg #[.int .i64 R', .int .i64 C', .slice A' n' cap']] w (ErrM w 50) := by
  refine of_wide ?_
  refine callsIn_of_wp_marks Try.func18 rfl trivial ?_ rfl
  refine wpIn_wide.2 ?_
  simp only [Try.ntmps18, List.size_toArray, List.length_cons, List.length_nil, Nat.reduceAdd, Nat.reduceSub, Array.replicate_succ, Array.replicate_zero, List.push_toArray, List.append_toArray, List.nil_append, List.cons_append]
  obtain ⟨w1, h1, hw1⟩ := mulP_start w p #[.int .i64 R, .int .i64 C, .slice A n cap] #[.int .i64 R', .int .i64 C', .slice A' n' cap']
  obtain ⟨gf, hgf⟩ : ∃ x, w.heap.size = x := ⟨_, rfl⟩
  rw [hgf] at h1
  have HW1 := Lib.hid (show (((w.alloc (.cells #[fptr (some p)] 24)).alloc (.cells #[.int .i64 R, .int .i64 C, .slice A n cap] 27)).alloc (.cells #[.int .i64 R', .int .i64 C', .slice A' n' cap'] 27)).alloc (.cells #[.int .i64 0, .int .i64 0, .slice none 0 0] 27) = w1 from hw1)
  have H1 := Lib.hid h1
  have HG := Lib.hid hgf
  have HRT := Lib.hid hrt
  have HRT2 := Lib.hid hrt2
  clear h1 hw1 hgf hrt hrt2
  go_wp2_with fail
  rw [HW1.out, HG.out]
  --HELD mulb2
  refine wp_region_noPanic ?_
  refine wp_heldG (fun w' => Below w1.heap.size w1 w') [] (by kernel_rfl) ?hs0 ?rg0
  case hs0 =>
    exact nextN (Mem.start w1) 1
  case rg0 =>
  intro hHeld
  refine wpAnyG_take (i := 0) (oi := { dst := some 13, op := Op.load 27 (Operand.tmp 4), type := 27, pos := _, after := #[], guard := none }) (v := ?_) rfl (by kernel_rfl) (by kernel_rfl) (by kernel_rfl) (by kernel_rfl) (fun _ _ _ h => h) (Or.inl ⟨by rfl, ?_⟩) (by assumption) ?_
  rotate_left
  · intro w hSw
    try dsimp only at hSw
    obtain ⟨⟨c0, c1, c2⟩, _⟩ := cells3 (H1.out.a.keep hSw)
    go_simp
    try with_reducible rfl
  try simp only [Act.put, List.setIfInBounds_toArray, List.set_cons_zero, List.set_cons_succ]
  refine wpAnyG_one (i := 1) (o := { dst := some 14, op := Op.call { callee := Callee.value (Operand.func 26), args := #[Operand.tmp 13], argTypes := #[27] }, type := 4, pos := _, after := #[{ on := 0, ground := Ground.data }], guard := none }) (by kernel_rfl) rfl (fun K hK => ?_)
  go_simp
  refine (right_any _ _ _ A n cap).mono ?_
  rintro e wA ⟨rfl, hb⟩
  rw [HRT.out]
  have HA := Lib.hid (next hHeld hb)
  try dsimp only
  refine hK.out _ _ ?_ (fun hHeld => ?_)
  · intro _
    try dsimp only
    exact HA.out
  clear hK K
  try simp only [Act.put, List.setIfInBounds_toArray, List.set_cons_zero, List.set_cons_succ]
  have hHeld := hHeld (by kernel_rfl)
  refine wpAnyG_pure (i := 2) (oi := { dst := some 15, op := Op.unOp UnOp.not 4 (Operand.tmp 14), type := 4, pos := _, after := #[{ on := 1, ground := Ground.data }], guard := none }) (v := ?_) rfl (by kernel_rfl) (by kernel_rfl) (by kernel_rfl) (by kernel_rfl) (fun _ _ _ h => h) (Or.inl ⟨by rfl, ?_⟩) (fun _ => by assumption) ?_
  rotate_left
  · intro w hSw
    try dsimp only at hSw
    go_simp
    try with_reducible rfl
  try simp only [Act.put, List.setIfInBounds_toArray, List.set_cons_zero, List.set_cons_succ]
  refine wpAnyG_pure (i := 3) (oi := { dst := some 16, op := Op.move (Operand.tmp 15), type := 4, pos := _, after := #[{ on := 2, ground := Ground.data }, { on := 1, ground := Ground.chain }], guard := none }) (v := ?_) rfl (by kernel_rfl) (by kernel_rfl) (by kernel_rfl) (by kernel_rfl) (fun _ _ _ h => h) (Or.inl ⟨by rfl, ?_⟩) (fun _ => by assumption) ?_
  rotate_left
  · intro w hSw
    try dsimp only at hSw
    go_simp
    try with_reducible rfl
  try simp only [Act.put, List.setIfInBounds_toArray, List.set_cons_zero, List.set_cons_succ]
  refine wpAnyG_take (i := 4) (oi := { dst := some 17, op := Op.load 27 (Operand.tmp 5), type := 27, pos := _, after := #[{ on := 3, ground := Ground.guard }], guard := some (3, false) }) (v := ?_) rfl (by kernel_rfl) (by kernel_rfl) (by kernel_rfl) (by kernel_rfl) (fun _ _ _ h => h) (Or.inl ⟨by rfl, ?_⟩) (by assumption) ?_
  rotate_left
  · intro w hSw
    try dsimp only at hSw
    obtain ⟨⟨c0, c1, c2⟩, _⟩ := cells3 (H1.out.b.keep hSw)
    go_simp
    try with_reducible rfl
  try simp only [Act.put, List.setIfInBounds_toArray, List.set_cons_zero, List.set_cons_succ]
  refine wpAnyG_one (i := 5) (o := { dst := some 18, op := Op.call { callee := Callee.value (Operand.func 26), args := #[Operand.tmp 17], argTypes := #[27] }, type := 4, pos := _, after := #[{ on := 4, ground := Ground.data }, { on := 3, ground := Ground.chain }, { on := 3, ground := Ground.guard }], guard := some (3, false) }) (by kernel_rfl) rfl (fun K hK => ?_)
  go_simp
  refine (right_any _ _ _ A' n' cap').mono ?_
  rintro e wB ⟨rfl, hb⟩
  rw [HRT2.out]
  have HB := Lib.hid (next hHeld hb)
  try dsimp only
  refine hK.out _ _ ?_ (fun hHeld => ?_)
  · intro _
    try dsimp only
    exact HB.out
  clear hK K
  try simp only [Act.put, List.setIfInBounds_toArray, List.set_cons_zero, List.set_cons_succ]
  have hHeld := hHeld (by kernel_rfl)
  refine wpAnyG_pure (i := 6) (oi := { dst := some 19, op := Op.unOp UnOp.not 4 (Operand.tmp 18), type := 4, pos := _, after := #[{ on := 5, ground := Ground.data }, { on := 3, ground := Ground.guard }], guard := some (3, false) }) (v := ?_) rfl (by kernel_rfl) (by kernel_rfl) (by kernel_rfl) (by kernel_rfl) (fun _ _ _ h => h) (Or.inl ⟨by rfl, ?_⟩) (fun _ => by assumption) ?_
  rotate_left
  · intro w hSw
    try dsimp only at hSw
    go_simp
    try with_reducible rfl
  try simp only [Act.put, List.setIfInBounds_toArray, List.set_cons_zero, List.set_cons_succ]
  refine wpAnyG_pure (i := 7) (oi := { dst := some 20, op := Op.pick (Operand.tmp 16) (Operand.const (Value.bool true)) (Operand.tmp 19), type := 4, pos := _, after := #[{ on := 3, ground := Ground.data }, { on := 6, ground := Ground.data }], guard := none }) (v := ?_) rfl (by kernel_rfl) (by kernel_rfl) (by kernel_rfl) (by kernel_rfl) (fun _ _ _ h => h) (Or.inl ⟨by rfl, ?_⟩) (fun _ => by assumption) ?_
  rotate_left
  · intro w hSw
    try dsimp only at hSw
    go_simp
    try with_reducible rfl
  try simp only [Act.put, List.setIfInBounds_toArray, List.set_cons_zero, List.set_cons_succ]
  refine wpAnyG_pure (i := 8) (oi := { dst := some 21, op := Op.move (Operand.tmp 20), type := 4, pos := _, after := #[{ on := 7, ground := Ground.data }, { on := 5, ground := Ground.chain }], guard := none }) (v := ?_) rfl (by kernel_rfl) (by kernel_rfl) (by kernel_rfl) (by kernel_rfl) (fun _ _ _ h => h) (Or.inl ⟨by rfl, ?_⟩) (fun _ => by assumption) ?_
  rotate_left
  · intro w hSw
    try dsimp only at hSw
    go_simp
    try with_reducible rfl
  try simp only [Act.put, List.setIfInBounds_toArray, List.set_cons_zero, List.set_cons_succ]
  refine wpAnyG_pure (i := 9) (oi := { dst := some 22, op := Op.fieldAddr 27 (Operand.tmp 4) 1, type := 0, pos := _, after := #[{ on := 8, ground := Ground.guard }], guard := some (8, false) }) (v := undef) rfl (by kernel_rfl) (by kernel_rfl) (by kernel_rfl) (by kernel_rfl) (fun _ _ _ h => h) (Or.inr ⟨by rfl, rfl⟩) (fun _ => by assumption) ?_
  try simp only [Act.put, List.setIfInBounds_toArray, List.set_cons_zero, List.set_cons_succ]
  refine wpAnyG_pure (i := 10) (oi := { dst := some 23, op := Op.load 3 (Operand.tmp 22), type := 3, pos := _, after := #[{ on := 9, ground := Ground.data }, { on := 8, ground := Ground.guard }], guard := some (8, false) }) (v := undef) rfl (by kernel_rfl) (by kernel_rfl) (by kernel_rfl) (by kernel_rfl) (fun _ _ _ h => h) (Or.inr ⟨by rfl, rfl⟩) (fun _ => by assumption) ?_
  try simp only [Act.put, List.setIfInBounds_toArray, List.set_cons_zero, List.set_cons_succ]
  refine wpAnyG_pure (i := 11) (oi := { dst := some 24, op := Op.fieldAddr 27 (Operand.tmp 5) 0, type := 0, pos := _, after := #[{ on := 8, ground := Ground.guard }], guard := some (8, false) }) (v := undef) rfl (by kernel_rfl) (by kernel_rfl) (by kernel_rfl) (by kernel_rfl) (fun _ _ _ h => h) (Or.inr ⟨by rfl, rfl⟩) (fun _ => by assumption) ?_
  try simp only [Act.put, List.setIfInBounds_toArray, List.set_cons_zero, List.set_cons_succ]
  refine wpAnyG_pure (i := 12) (oi := { dst := some 25, op := Op.load 3 (Operand.tmp 24), type := 3, pos := _, after := #[{ on := 11, ground := Ground.data }, { on := 8, ground := Ground.guard }], guard := some (8, false) }) (v := undef) rfl (by kernel_rfl) (by kernel_rfl) (by kernel_rfl) (by kernel_rfl) (fun _ _ _ h => h) (Or.inr ⟨by rfl, rfl⟩) (fun _ => by assumption) ?_
  try simp only [Act.put, List.setIfInBounds_toArray, List.set_cons_zero, List.set_cons_succ]
  refine wpAnyG_pure (i := 13) (oi := { dst := some 26, op := Op.binOp BinOp.neq 3 (Operand.tmp 23) (Operand.tmp 25) 3, type := 4, pos := _, after := #[{ on := 10, ground := Ground.data }, { on := 12, ground := Ground.data }, { on := 8, ground := Ground.guard }], guard := some (8, false) }) (v := undef) rfl (by kernel_rfl) (by kernel_rfl) (by kernel_rfl) (by kernel_rfl) (fun _ _ _ h => h) (Or.inr ⟨by rfl, rfl⟩) (fun _ => by assumption) ?_
  try simp only [Act.put, List.setIfInBounds_toArray, List.set_cons_zero, List.set_cons_succ]
  refine wpAnyG_pure (i := 14) (oi := { dst := some 27, op := Op.pick (Operand.tmp 21) (Operand.const (Value.bool true)) (Operand.tmp 26), type := 4, pos := _, after := #[{ on := 8, ground := Ground.data }, { on := 13, ground := Ground.data }], guard := none }) (v := ?_) rfl (by kernel_rfl) (by kernel_rfl) (by kernel_rfl) (by kernel_rfl) (fun _ _ _ h => h) (Or.inl ⟨by rfl, ?_⟩) (fun _ => by assumption) ?_
  rotate_left
  · intro w hSw
    try dsimp only at hSw
    go_simp
    try with_reducible rfl
  try simp only [Act.put, List.setIfInBounds_toArray, List.set_cons_zero, List.set_cons_succ]
  refine wpAnyG_pure (i := 15) (oi := { dst := some 28, op := Op.move (Operand.tmp 27), type := 4, pos := _, after := #[{ on := 14, ground := Ground.data }, { on := 8, ground := Ground.chain }], guard := none }) (v := ?_) rfl (by kernel_rfl) (by kernel_rfl) (by kernel_rfl) (by kernel_rfl) (fun _ _ _ h => h) (Or.inl ⟨by rfl, ?_⟩) (fun _ => by assumption) ?_
  rotate_left
  · intro w hSw
    try dsimp only at hSw
    go_simp
    try with_reducible rfl
  try simp only [Act.put, List.setIfInBounds_toArray, List.set_cons_zero, List.set_cons_succ]
  refine wpAnyG_pure (i := 16) (oi := { dst := some 29, op := Op.fieldAddr 27 (Operand.tmp 4) 0, type := 0, pos := _, after := #[{ on := 15, ground := Ground.guard }], guard := some (15, false) }) (v := undef) rfl (by kernel_rfl) (by kernel_rfl) (by kernel_rfl) (by kernel_rfl) (fun _ _ _ h => h) (Or.inr ⟨by rfl, rfl⟩) (fun _ => by assumption) ?_
  try simp only [Act.put, List.setIfInBounds_toArray, List.set_cons_zero, List.set_cons_succ]
  refine wpAnyG_pure (i := 17) (oi := { dst := some 30, op := Op.load 3 (Operand.tmp 29), type := 3, pos := _, after := #[{ on := 16, ground := Ground.data }, { on := 15, ground := Ground.guard }], guard := some (15, false) }) (v := undef) rfl (by kernel_rfl) (by kernel_rfl) (by kernel_rfl) (by kernel_rfl) (fun _ _ _ h => h) (Or.inr ⟨by rfl, rfl⟩) (fun _ => by assumption) ?_
  try simp only [Act.put, List.setIfInBounds_toArray, List.set_cons_zero, List.set_cons_succ]
  refine wpAnyG_pure (i := 18) (oi := { dst := some 31, op := Op.binOp BinOp.gtr 3 (Operand.tmp 30) (Operand.const (Value.int IntKind.i64 0)) 3, type := 4, pos := _, after := #[{ on := 17, ground := Ground.data }, { on := 15, ground := Ground.guard }], guard := some (15, false) }) (v := undef) rfl (by kernel_rfl) (by kernel_rfl) (by kernel_rfl) (by kernel_rfl) (fun _ _ _ h => h) (Or.inr ⟨by rfl, rfl⟩) (fun _ => by assumption) ?_
  try simp only [Act.put, List.setIfInBounds_toArray, List.set_cons_zero, List.set_cons_succ]
  refine wpAnyG_pure (i := 19) (oi := { dst := some 32, op := Op.move (Operand.tmp 31), type := 4, pos := _, after := #[{ on := 18, ground := Ground.data }, { on := 15, ground := Ground.chain }, { on := 15, ground := Ground.guard }], guard := some (15, false) }) (v := undef) rfl (by kernel_rfl) (by kernel_rfl) (by kernel_rfl) (by kernel_rfl) (fun _ _ _ h => h) (Or.inr ⟨by rfl, rfl⟩) (fun _ => by assumption) ?_
  try simp only [Act.put, List.setIfInBounds_toArray, List.set_cons_zero, List.set_cons_succ]
  refine wpAnyG_pure (i := 20) (oi := { dst := some 33, op := Op.fieldAddr 27 (Operand.tmp 5) 1, type := 0, pos := _, after := #[{ on := 19, ground := Ground.guard }], guard := some (19, true) }) (v := undef) rfl (by kernel_rfl) (by kernel_rfl) (by kernel_rfl) (by kernel_rfl) (fun _ _ _ h => h) (Or.inr ⟨by rfl, rfl⟩) (fun _ => by assumption) ?_
  try simp only [Act.put, List.setIfInBounds_toArray, List.set_cons_zero, List.set_cons_succ]
  refine wpAnyG_pure (i := 21) (oi := { dst := some 34, op := Op.load 3 (Operand.tmp 33), type := 3, pos := _, after := #[{ on := 20, ground := Ground.data }, { on := 19, ground := Ground.guard }], guard := some (19, true) }) (v := undef) rfl (by kernel_rfl) (by kernel_rfl) (by kernel_rfl) (by kernel_rfl) (fun _ _ _ h => h) (Or.inr ⟨by rfl, rfl⟩) (fun _ => by assumption) ?_
  try simp only [Act.put, List.setIfInBounds_toArray, List.set_cons_zero, List.set_cons_succ]
  refine wpAnyG_pure (i := 22) (oi := { dst := some 35, op := Op.fieldAddr 27 (Operand.tmp 4) 0, type := 0, pos := _, after := #[{ on := 19, ground := Ground.guard }], guard := some (19, true) }) (v := undef) rfl (by kernel_rfl) (by kernel_rfl) (by kernel_rfl) (by kernel_rfl) (fun _ _ _ h => h) (Or.inr ⟨by rfl, rfl⟩) (fun _ => by assumption) ?_
  try simp only [Act.put, List.setIfInBounds_toArray, List.set_cons_zero, List.set_cons_succ]
  refine wpAnyG_pure (i := 23) (oi := { dst := some 36, op := Op.load 3 (Operand.tmp 35), type := 3, pos := _, after := #[{ on := 22, ground := Ground.data }, { on := 19, ground := Ground.guard }], guard := some (19, true) }) (v := undef) rfl (by kernel_rfl) (by kernel_rfl) (by kernel_rfl) (by kernel_rfl) (fun _ _ _ h => h) (Or.inr ⟨by rfl, rfl⟩) (fun _ => by assumption) ?_
  try simp only [Act.put, List.setIfInBounds_toArray, List.set_cons_zero, List.set_cons_succ]
  refine wpAnyG_pure (i := 24) (oi := { dst := some 37, op := Op.binOp BinOp.quo 3 (Operand.const (Value.int IntKind.i64 16777216)) (Operand.tmp 36) 3, type := 3, pos := _, after := #[{ on := 23, ground := Ground.data }, { on := 19, ground := Ground.guard }], guard := some (19, true) }) (v := undef) rfl (by kernel_rfl) (by kernel_rfl) (by kernel_rfl) (by kernel_rfl) (fun _ _ _ h => h) (Or.inr ⟨by rfl, rfl⟩) (fun _ => by assumption) ?_
  try simp only [Act.put, List.setIfInBounds_toArray, List.set_cons_zero, List.set_cons_succ]
  refine wpAnyG_pure (i := 25) (oi := { dst := some 38, op := Op.binOp BinOp.gtr 3 (Operand.tmp 34) (Operand.tmp 37) 3, type := 4, pos := _, after := #[{ on := 21, ground := Ground.data }, { on := 24, ground := Ground.data }, { on := 19, ground := Ground.guard }], guard := some (19, true) }) (v := undef) rfl (by kernel_rfl) (by kernel_rfl) (by kernel_rfl) (by kernel_rfl) (fun _ _ _ h => h) (Or.inr ⟨by rfl, rfl⟩) (fun _ => by assumption) ?_
  try simp only [Act.put, List.setIfInBounds_toArray, List.set_cons_zero, List.set_cons_succ]
  refine wpAnyG_pure (i := 26) (oi := { dst := some 39, op := Op.pick (Operand.tmp 32) (Operand.tmp 38) (Operand.const (Value.bool false)), type := 4, pos := _, after := #[{ on := 19, ground := Ground.data }, { on := 25, ground := Ground.data }, { on := 15, ground := Ground.guard }], guard := some (15, false) }) (v := undef) rfl (by kernel_rfl) (by kernel_rfl) (by kernel_rfl) (by kernel_rfl) (fun _ _ _ h => h) (Or.inr ⟨by rfl, rfl⟩) (fun _ => by assumption) ?_
  try simp only [Act.put, List.setIfInBounds_toArray, List.set_cons_zero, List.set_cons_succ]
  refine wpAnyG_pure (i := 27) (oi := { dst := some 40, op := Op.pick (Operand.tmp 28) (Operand.const (Value.bool true)) (Operand.tmp 39), type := 4, pos := _, after := #[{ on := 15, ground := Ground.data }, { on := 26, ground := Ground.data }], guard := none }) (v := ?_) rfl (by kernel_rfl) (by kernel_rfl) (by kernel_rfl) (by kernel_rfl) (fun _ _ _ h => h) (Or.inl ⟨by rfl, ?_⟩) (fun _ => by assumption) ?_
  rotate_left
  · intro w hSw
    try dsimp only at hSw
    go_simp
    try with_reducible rfl
  try simp only [Act.put, List.setIfInBounds_toArray, List.set_cons_zero, List.set_cons_succ]
  refine wpAnyG_done (by kernel_rfl) ?_ _
  refine NoPanic.normal ?_
  --END mulb2
  have hres := (show MulP w wB gf (gf + 1) (gf + 1 + 1) (gf + 1 + 1 + 1) p _ _ from H1.out.keep HB.out).res
  obtain ⟨⟨d0, d1, d2⟩, f0, f1, f2⟩ := cells3 hres
  go_wp2_with fail
  have h3 := set3 hres (.int .i64 0) (.int .i64 0) (.slice none 0 0)
  obtain ⟨w3, hw3⟩ : ∃ x : World, ((wB.setCell ⟨gf + 1 + 1 + 1, 0, none⟩ (.int .i64 0)).setCell ⟨gf + 1 + 1 + 1, 1, none⟩ (.int .i64 0)).setCell ⟨gf + 1 + 1 + 1, 2, none⟩ (.slice none 0 0) = x := ⟨_, rfl⟩
  rw [hw3] at h3 ⊢
  obtain ⟨⟨e0, e1, e2⟩, _⟩ := cells3 h3.1
  refine ⟨.tuple #[.agg #[.int .i64 0, .int .i64 0, .slice none 0 0], .int .i64 50], ?_, rfl, ?_⟩
  · simp [results, Try.results18, go_sem, e0, e1, e2]
  · have hb := (H1.out.keep HB.out).below
    have hn := H1.out.nums
    exact hb.trans (h3.2.below hb.size fun k e => by rw [e]; omega)
set_option maxRecDepth 100000 in
set_option maxHeartbeats 8000000 in
theorem mul_bad3 (w : World) (p : Nat) (R C R' C' : Int) (A A' : Option Addr) (n cap n' cap' : Nat) (hrt : rightB R C n = true) (hrt2 : rightB R' C' n' = true) (hne : (C != R') = true) :
    Calls Try.prog 18 #[fptr (some p), .agg #[.int .i64 R, .int .i64 C, .slice A n cap], .agg #[.int .i64 R', .int .i64 C', .slice A' n' cap']] w (ErrM w 50) := by
  refine of_wide ?_
  refine callsIn_of_wp_marks Try.func18 rfl trivial ?_ rfl
  refine wpIn_wide.2 ?_
  simp only [Try.ntmps18, List.size_toArray, List.length_cons, List.length_nil, Nat.reduceAdd, Nat.reduceSub, Array.replicate_succ, Array.replicate_zero, List.push_toArray, List.append_toArray, List.nil_append, List.cons_append]
  obtain ⟨w1, h1, hw1⟩ := mulP_start w p #[.int .i64 R, .int .i64 C, .slice A n cap] #[.int .i64 R', .int .i64 C', .slice A' n' cap']
  obtain ⟨gf, hgf⟩ : ∃ x, w.heap.size = x := ⟨_, rfl⟩
  rw [hgf] at h1
  have HW1 := Lib.hid (show (((w.alloc (.cells #[fptr (some p)] 24)).alloc (.cells #[.int .i64 R, .int .i64 C, .slice A n cap] 27)).alloc (.cells #[.int .i64 R', .int .i64 C', .slice A' n' cap'] 27)).alloc (.cells #[.int .i64 0, .int .i64 0, .slice none 0 0] 27) = w1 from hw1)
  have H1 := Lib.hid h1
  have HG := Lib.hid hgf
  have HRT := Lib.hid hrt
  have HRT2 := Lib.hid hrt2
  have HNE := Lib.hid hne
  clear h1 hw1 hgf hrt hrt2 hne
  go_wp2_with fail
  rw [HW1.out, HG.out]
  --HELD mulb3
  refine wp_region_noPanic ?_
  refine wp_heldG (fun w' => Below w1.heap.size w1 w') [] (by kernel_rfl) ?hs0 ?rg0
  case hs0 =>
    exact nextN (Mem.start w1) 1
  case rg0 =>
  intro hHeld
  refine wpAnyG_take (i := 0) (oi := { dst := some 13, op := Op.load 27 (Operand.tmp 4), type := 27, pos := _, after := #[], guard := none }) (v := ?_) rfl (by kernel_rfl) (by kernel_rfl) (by kernel_rfl) (by kernel_rfl) (fun _ _ _ h => h) (Or.inl ⟨by rfl, ?_⟩) (by assumption) ?_
  rotate_left
  · intro w hSw
    try dsimp only at hSw
    obtain ⟨⟨c0, c1, c2⟩, _⟩ := cells3 (H1.out.a.keep hSw)
    go_simp
    try with_reducible rfl
  try simp only [Act.put, List.setIfInBounds_toArray, List.set_cons_zero, List.set_cons_succ]
  refine wpAnyG_one (i := 1) (o := { dst := some 14, op := Op.call { callee := Callee.value (Operand.func 26), args := #[Operand.tmp 13], argTypes := #[27] }, type := 4, pos := _, after := #[{ on := 0, ground := Ground.data }], guard := none }) (by kernel_rfl) rfl (fun K hK => ?_)
  go_simp
  refine (right_any _ _ _ A n cap).mono ?_
  rintro e wA ⟨rfl, hb⟩
  rw [HRT.out]
  have HA := Lib.hid (next hHeld hb)
  try dsimp only
  refine hK.out _ _ ?_ (fun hHeld => ?_)
  · intro _
    try dsimp only
    exact HA.out
  clear hK K
  try simp only [Act.put, List.setIfInBounds_toArray, List.set_cons_zero, List.set_cons_succ]
  have hHeld := hHeld (by kernel_rfl)
  refine wpAnyG_pure (i := 2) (oi := { dst := some 15, op := Op.unOp UnOp.not 4 (Operand.tmp 14), type := 4, pos := _, after := #[{ on := 1, ground := Ground.data }], guard := none }) (v := ?_) rfl (by kernel_rfl) (by kernel_rfl) (by kernel_rfl) (by kernel_rfl) (fun _ _ _ h => h) (Or.inl ⟨by rfl, ?_⟩) (fun _ => by assumption) ?_
  rotate_left
  · intro w hSw
    try dsimp only at hSw
    go_simp
    try with_reducible rfl
  try simp only [Act.put, List.setIfInBounds_toArray, List.set_cons_zero, List.set_cons_succ]
  refine wpAnyG_pure (i := 3) (oi := { dst := some 16, op := Op.move (Operand.tmp 15), type := 4, pos := _, after := #[{ on := 2, ground := Ground.data }, { on := 1, ground := Ground.chain }], guard := none }) (v := ?_) rfl (by kernel_rfl) (by kernel_rfl) (by kernel_rfl) (by kernel_rfl) (fun _ _ _ h => h) (Or.inl ⟨by rfl, ?_⟩) (fun _ => by assumption) ?_
  rotate_left
  · intro w hSw
    try dsimp only at hSw
    go_simp
    try with_reducible rfl
  try simp only [Act.put, List.setIfInBounds_toArray, List.set_cons_zero, List.set_cons_succ]
  refine wpAnyG_take (i := 4) (oi := { dst := some 17, op := Op.load 27 (Operand.tmp 5), type := 27, pos := _, after := #[{ on := 3, ground := Ground.guard }], guard := some (3, false) }) (v := ?_) rfl (by kernel_rfl) (by kernel_rfl) (by kernel_rfl) (by kernel_rfl) (fun _ _ _ h => h) (Or.inl ⟨by rfl, ?_⟩) (by assumption) ?_
  rotate_left
  · intro w hSw
    try dsimp only at hSw
    obtain ⟨⟨c0, c1, c2⟩, _⟩ := cells3 (H1.out.b.keep hSw)
    go_simp
    try with_reducible rfl
  try simp only [Act.put, List.setIfInBounds_toArray, List.set_cons_zero, List.set_cons_succ]
  refine wpAnyG_one (i := 5) (o := { dst := some 18, op := Op.call { callee := Callee.value (Operand.func 26), args := #[Operand.tmp 17], argTypes := #[27] }, type := 4, pos := _, after := #[{ on := 4, ground := Ground.data }, { on := 3, ground := Ground.chain }, { on := 3, ground := Ground.guard }], guard := some (3, false) }) (by kernel_rfl) rfl (fun K hK => ?_)
  go_simp
  refine (right_any _ _ _ A' n' cap').mono ?_
  rintro e wB ⟨rfl, hb⟩
  rw [HRT2.out]
  have HB := Lib.hid (next hHeld hb)
  try dsimp only
  refine hK.out _ _ ?_ (fun hHeld => ?_)
  · intro _
    try dsimp only
    exact HB.out
  clear hK K
  try simp only [Act.put, List.setIfInBounds_toArray, List.set_cons_zero, List.set_cons_succ]
  have hHeld := hHeld (by kernel_rfl)
  refine wpAnyG_pure (i := 6) (oi := { dst := some 19, op := Op.unOp UnOp.not 4 (Operand.tmp 18), type := 4, pos := _, after := #[{ on := 5, ground := Ground.data }, { on := 3, ground := Ground.guard }], guard := some (3, false) }) (v := ?_) rfl (by kernel_rfl) (by kernel_rfl) (by kernel_rfl) (by kernel_rfl) (fun _ _ _ h => h) (Or.inl ⟨by rfl, ?_⟩) (fun _ => by assumption) ?_
  rotate_left
  · intro w hSw
    try dsimp only at hSw
    go_simp
    try with_reducible rfl
  try simp only [Act.put, List.setIfInBounds_toArray, List.set_cons_zero, List.set_cons_succ]
  refine wpAnyG_pure (i := 7) (oi := { dst := some 20, op := Op.pick (Operand.tmp 16) (Operand.const (Value.bool true)) (Operand.tmp 19), type := 4, pos := _, after := #[{ on := 3, ground := Ground.data }, { on := 6, ground := Ground.data }], guard := none }) (v := ?_) rfl (by kernel_rfl) (by kernel_rfl) (by kernel_rfl) (by kernel_rfl) (fun _ _ _ h => h) (Or.inl ⟨by rfl, ?_⟩) (fun _ => by assumption) ?_
  rotate_left
  · intro w hSw
    try dsimp only at hSw
    go_simp
    try with_reducible rfl
  try simp only [Act.put, List.setIfInBounds_toArray, List.set_cons_zero, List.set_cons_succ]
  refine wpAnyG_pure (i := 8) (oi := { dst := some 21, op := Op.move (Operand.tmp 20), type := 4, pos := _, after := #[{ on := 7, ground := Ground.data }, { on := 5, ground := Ground.chain }], guard := none }) (v := ?_) rfl (by kernel_rfl) (by kernel_rfl) (by kernel_rfl) (by kernel_rfl) (fun _ _ _ h => h) (Or.inl ⟨by rfl, ?_⟩) (fun _ => by assumption) ?_
  rotate_left
  · intro w hSw
    try dsimp only at hSw
    go_simp
    try with_reducible rfl
  try simp only [Act.put, List.setIfInBounds_toArray, List.set_cons_zero, List.set_cons_succ]
  refine wpAnyG_pure (i := 9) (oi := { dst := some 22, op := Op.fieldAddr 27 (Operand.tmp 4) 1, type := 0, pos := _, after := #[{ on := 8, ground := Ground.guard }], guard := some (8, false) }) (v := ?_) rfl (by kernel_rfl) (by kernel_rfl) (by kernel_rfl) (by kernel_rfl) (fun _ _ _ h => h) (Or.inl ⟨by rfl, ?_⟩) (fun _ => by assumption) ?_
  rotate_left
  · intro w hSw
    try dsimp only at hSw
    go_simp
    try with_reducible rfl
  try simp only [Act.put, List.setIfInBounds_toArray, List.set_cons_zero, List.set_cons_succ]
  refine wpAnyG_take (i := 10) (oi := { dst := some 23, op := Op.load 3 (Operand.tmp 22), type := 3, pos := _, after := #[{ on := 9, ground := Ground.data }, { on := 8, ground := Ground.guard }], guard := some (8, false) }) (v := ?_) rfl (by kernel_rfl) (by kernel_rfl) (by kernel_rfl) (by kernel_rfl) (fun _ _ _ h => h) (Or.inl ⟨by rfl, ?_⟩) (by assumption) ?_
  rotate_left
  · intro w hSw
    try dsimp only at hSw
    obtain ⟨⟨c0, c1, c2⟩, _⟩ := cells3 (H1.out.a.keep hSw)
    go_simp
    try with_reducible rfl
  try simp only [Act.put, List.setIfInBounds_toArray, List.set_cons_zero, List.set_cons_succ]
  refine wpAnyG_pure (i := 11) (oi := { dst := some 24, op := Op.fieldAddr 27 (Operand.tmp 5) 0, type := 0, pos := _, after := #[{ on := 8, ground := Ground.guard }], guard := some (8, false) }) (v := ?_) rfl (by kernel_rfl) (by kernel_rfl) (by kernel_rfl) (by kernel_rfl) (fun _ _ _ h => h) (Or.inl ⟨by rfl, ?_⟩) (fun _ => by assumption) ?_
  rotate_left
  · intro w hSw
    try dsimp only at hSw
    go_simp
    try with_reducible rfl
  try simp only [Act.put, List.setIfInBounds_toArray, List.set_cons_zero, List.set_cons_succ]
  refine wpAnyG_take (i := 12) (oi := { dst := some 25, op := Op.load 3 (Operand.tmp 24), type := 3, pos := _, after := #[{ on := 11, ground := Ground.data }, { on := 8, ground := Ground.guard }], guard := some (8, false) }) (v := ?_) rfl (by kernel_rfl) (by kernel_rfl) (by kernel_rfl) (by kernel_rfl) (fun _ _ _ h => h) (Or.inl ⟨by rfl, ?_⟩) (by assumption) ?_
  rotate_left
  · intro w hSw
    try dsimp only at hSw
    obtain ⟨⟨c0, c1, c2⟩, _⟩ := cells3 (H1.out.b.keep hSw)
    go_simp
    try with_reducible rfl
  try simp only [Act.put, List.setIfInBounds_toArray, List.set_cons_zero, List.set_cons_succ]
  refine wpAnyG_pure (i := 13) (oi := { dst := some 26, op := Op.binOp BinOp.neq 3 (Operand.tmp 23) (Operand.tmp 25) 3, type := 4, pos := _, after := #[{ on := 10, ground := Ground.data }, { on := 12, ground := Ground.data }, { on := 8, ground := Ground.guard }], guard := some (8, false) }) (v := ?_) rfl (by kernel_rfl) (by kernel_rfl) (by kernel_rfl) (by kernel_rfl) (fun _ _ _ h => h) (Or.inl ⟨by rfl, ?_⟩) (fun _ => by assumption) ?_
  rotate_left
  · intro w hSw
    try dsimp only at hSw
    have hne := HNE.out
    go_simp
    try with_reducible rfl
  try simp only [Act.put, List.setIfInBounds_toArray, List.set_cons_zero, List.set_cons_succ]
  refine wpAnyG_pure (i := 14) (oi := { dst := some 27, op := Op.pick (Operand.tmp 21) (Operand.const (Value.bool true)) (Operand.tmp 26), type := 4, pos := _, after := #[{ on := 8, ground := Ground.data }, { on := 13, ground := Ground.data }], guard := none }) (v := ?_) rfl (by kernel_rfl) (by kernel_rfl) (by kernel_rfl) (by kernel_rfl) (fun _ _ _ h => h) (Or.inl ⟨by rfl, ?_⟩) (fun _ => by assumption) ?_
  rotate_left
  · intro w hSw
    try dsimp only at hSw
    go_simp
    try with_reducible rfl
  try simp only [Act.put, List.setIfInBounds_toArray, List.set_cons_zero, List.set_cons_succ]
  refine wpAnyG_pure (i := 15) (oi := { dst := some 28, op := Op.move (Operand.tmp 27), type := 4, pos := _, after := #[{ on := 14, ground := Ground.data }, { on := 8, ground := Ground.chain }], guard := none }) (v := ?_) rfl (by kernel_rfl) (by kernel_rfl) (by kernel_rfl) (by kernel_rfl) (fun _ _ _ h => h) (Or.inl ⟨by rfl, ?_⟩) (fun _ => by assumption) ?_
  rotate_left
  · intro w hSw
    try dsimp only at hSw
    go_simp
    try with_reducible rfl
  try simp only [Act.put, List.setIfInBounds_toArray, List.set_cons_zero, List.set_cons_succ]
  refine wpAnyG_pure (i := 16) (oi := { dst := some 29, op := Op.fieldAddr 27 (Operand.tmp 4) 0, type := 0, pos := _, after := #[{ on := 15, ground := Ground.guard }], guard := some (15, false) }) (v := undef) rfl (by kernel_rfl) (by kernel_rfl) (by kernel_rfl) (by kernel_rfl) (fun _ _ _ h => h) (Or.inr ⟨by rfl, rfl⟩) (fun _ => by assumption) ?_
  try simp only [Act.put, List.setIfInBounds_toArray, List.set_cons_zero, List.set_cons_succ]
  refine wpAnyG_pure (i := 17) (oi := { dst := some 30, op := Op.load 3 (Operand.tmp 29), type := 3, pos := _, after := #[{ on := 16, ground := Ground.data }, { on := 15, ground := Ground.guard }], guard := some (15, false) }) (v := undef) rfl (by kernel_rfl) (by kernel_rfl) (by kernel_rfl) (by kernel_rfl) (fun _ _ _ h => h) (Or.inr ⟨by rfl, rfl⟩) (fun _ => by assumption) ?_
  try simp only [Act.put, List.setIfInBounds_toArray, List.set_cons_zero, List.set_cons_succ]
  refine wpAnyG_pure (i := 18) (oi := { dst := some 31, op := Op.binOp BinOp.gtr 3 (Operand.tmp 30) (Operand.const (Value.int IntKind.i64 0)) 3, type := 4, pos := _, after := #[{ on := 17, ground := Ground.data }, { on := 15, ground := Ground.guard }], guard := some (15, false) }) (v := undef) rfl (by kernel_rfl) (by kernel_rfl) (by kernel_rfl) (by kernel_rfl) (fun _ _ _ h => h) (Or.inr ⟨by rfl, rfl⟩) (fun _ => by assumption) ?_
  try simp only [Act.put, List.setIfInBounds_toArray, List.set_cons_zero, List.set_cons_succ]
  refine wpAnyG_pure (i := 19) (oi := { dst := some 32, op := Op.move (Operand.tmp 31), type := 4, pos := _, after := #[{ on := 18, ground := Ground.data }, { on := 15, ground := Ground.chain }, { on := 15, ground := Ground.guard }], guard := some (15, false) }) (v := undef) rfl (by kernel_rfl) (by kernel_rfl) (by kernel_rfl) (by kernel_rfl) (fun _ _ _ h => h) (Or.inr ⟨by rfl, rfl⟩) (fun _ => by assumption) ?_
  try simp only [Act.put, List.setIfInBounds_toArray, List.set_cons_zero, List.set_cons_succ]
  refine wpAnyG_pure (i := 20) (oi := { dst := some 33, op := Op.fieldAddr 27 (Operand.tmp 5) 1, type := 0, pos := _, after := #[{ on := 19, ground := Ground.guard }], guard := some (19, true) }) (v := undef) rfl (by kernel_rfl) (by kernel_rfl) (by kernel_rfl) (by kernel_rfl) (fun _ _ _ h => h) (Or.inr ⟨by rfl, rfl⟩) (fun _ => by assumption) ?_
  try simp only [Act.put, List.setIfInBounds_toArray, List.set_cons_zero, List.set_cons_succ]
  refine wpAnyG_pure (i := 21) (oi := { dst := some 34, op := Op.load 3 (Operand.tmp 33), type := 3, pos := _, after := #[{ on := 20, ground := Ground.data }, { on := 19, ground := Ground.guard }], guard := some (19, true) }) (v := undef) rfl (by kernel_rfl) (by kernel_rfl) (by kernel_rfl) (by kernel_rfl) (fun _ _ _ h => h) (Or.inr ⟨by rfl, rfl⟩) (fun _ => by assumption) ?_
  try simp only [Act.put, List.setIfInBounds_toArray, List.set_cons_zero, List.set_cons_succ]
  refine wpAnyG_pure (i := 22) (oi := { dst := some 35, op := Op.fieldAddr 27 (Operand.tmp 4) 0, type := 0, pos := _, after := #[{ on := 19, ground := Ground.guard }], guard := some (19, true) }) (v := undef) rfl (by kernel_rfl) (by kernel_rfl) (by kernel_rfl) (by kernel_rfl) (fun _ _ _ h => h) (Or.inr ⟨by rfl, rfl⟩) (fun _ => by assumption) ?_
  try simp only [Act.put, List.setIfInBounds_toArray, List.set_cons_zero, List.set_cons_succ]
  refine wpAnyG_pure (i := 23) (oi := { dst := some 36, op := Op.load 3 (Operand.tmp 35), type := 3, pos := _, after := #[{ on := 22, ground := Ground.data }, { on := 19, ground := Ground.guard }], guard := some (19, true) }) (v := undef) rfl (by kernel_rfl) (by kernel_rfl) (by kernel_rfl) (by kernel_rfl) (fun _ _ _ h => h) (Or.inr ⟨by rfl, rfl⟩) (fun _ => by assumption) ?_
  try simp only [Act.put, List.setIfInBounds_toArray, List.set_cons_zero, List.set_cons_succ]
  refine wpAnyG_pure (i := 24) (oi := { dst := some 37, op := Op.binOp BinOp.quo 3 (Operand.const (Value.int IntKind.i64 16777216)) (Operand.tmp 36) 3, type := 3, pos := _, after := #[{ on := 23, ground := Ground.data }, { on := 19, ground := Ground.guard }], guard := some (19, true) }) (v := undef) rfl (by kernel_rfl) (by kernel_rfl) (by kernel_rfl) (by kernel_rfl) (fun _ _ _ h => h) (Or.inr ⟨by rfl, rfl⟩) (fun _ => by assumption) ?_
  try simp only [Act.put, List.setIfInBounds_toArray, List.set_cons_zero, List.set_cons_succ]
  refine wpAnyG_pure (i := 25) (oi := { dst := some 38, op := Op.binOp BinOp.gtr 3 (Operand.tmp 34) (Operand.tmp 37) 3, type := 4, pos := _, after := #[{ on := 21, ground := Ground.data }, { on := 24, ground := Ground.data }, { on := 19, ground := Ground.guard }], guard := some (19, true) }) (v := undef) rfl (by kernel_rfl) (by kernel_rfl) (by kernel_rfl) (by kernel_rfl) (fun _ _ _ h => h) (Or.inr ⟨by rfl, rfl⟩) (fun _ => by assumption) ?_
  try simp only [Act.put, List.setIfInBounds_toArray, List.set_cons_zero, List.set_cons_succ]
  refine wpAnyG_pure (i := 26) (oi := { dst := some 39, op := Op.pick (Operand.tmp 32) (Operand.tmp 38) (Operand.const (Value.bool false)), type := 4, pos := _, after := #[{ on := 19, ground := Ground.data }, { on := 25, ground := Ground.data }, { on := 15, ground := Ground.guard }], guard := some (15, false) }) (v := undef) rfl (by kernel_rfl) (by kernel_rfl) (by kernel_rfl) (by kernel_rfl) (fun _ _ _ h => h) (Or.inr ⟨by rfl, rfl⟩) (fun _ => by assumption) ?_
  try simp only [Act.put, List.setIfInBounds_toArray, List.set_cons_zero, List.set_cons_succ]
  refine wpAnyG_pure (i := 27) (oi := { dst := some 40, op := Op.pick (Operand.tmp 28) (Operand.const (Value.bool true)) (Operand.tmp 39), type := 4, pos := _, after := #[{ on := 15, ground := Ground.data }, { on := 26, ground := Ground.data }], guard := none }) (v := ?_) rfl (by kernel_rfl) (by kernel_rfl) (by kernel_rfl) (by kernel_rfl) (fun _ _ _ h => h) (Or.inl ⟨by rfl, ?_⟩) (fun _ => by assumption) ?_
  rotate_left
  · intro w hSw
    try dsimp only at hSw
    go_simp
    try with_reducible rfl
  try simp only [Act.put, List.setIfInBounds_toArray, List.set_cons_zero, List.set_cons_succ]
  refine wpAnyG_done (by kernel_rfl) ?_ _
  refine NoPanic.normal ?_
  --END mulb3
  have hres := (show MulP w wB gf (gf + 1) (gf + 1 + 1) (gf + 1 + 1 + 1) p _ _ from H1.out.keep HB.out).res
  obtain ⟨⟨d0, d1, d2⟩, f0, f1, f2⟩ := cells3 hres
  go_wp2_with fail
  have h3 := set3 hres (.int .i64 0) (.int .i64 0) (.slice none 0 0)
  obtain ⟨w3, hw3⟩ : ∃ x : World, ((wB.setCell ⟨gf + 1 + 1 + 1, 0, none⟩ (.int .i64 0)).setCell ⟨gf + 1 + 1 + 1, 1, none⟩ (.int .i64 0)).setCell ⟨gf + 1 + 1 + 1, 2, none⟩ (.slice none 0 0) = x := ⟨_, rfl⟩
  rw [hw3] at h3 ⊢
  obtain ⟨⟨e0, e1, e2⟩, _⟩ := cells3 h3.1
  refine ⟨.tuple #[.agg #[.int .i64 0, .int .i64 0, .slice none 0 0], .int .i64 50], ?_, rfl, ?_⟩
  · simp [results, Try.results18, go_sem, e0, e1, e2]
  · have hb := (H1.out.keep HB.out).below
    have hn := H1.out.nums
    exact hb.trans (h3.2.below hb.size fun k e => by rw [e]; omega)
theorem rd_of {w W : World} {p g i j c d : Nat} {A' : Option Addr} {b : M} (hB : In w p A' (flat c d b)) (hf : Fr (fun k => k = p) w W) (hj : j < c) (hg : w.heap.size ≤ g) (hd : 0 < d) : ∃ gr o, rowA A' d j = some ⟨gr, o, none⟩ ∧ Rd W p g i d gr o (b j) := by
  obtain ⟨ab, off, hx, hab, ⟨o, hA, _⟩, hcs⟩ := row_at hB.1 hj hd
  have hne : ab ≠ p := hB.2 ab o hA (by rw [flat_len]; have := idx_lt (c := d) hj hd; omega)
  exact ⟨ab, off, hx, ⟨fun k hk => (World.cell?_of_block (hf.block ab hab hne)).trans (hcs k hk), .inl (by omega), hne, Nat.lt_of_lt_of_le hab hf.size⟩⟩
/-- While a product is reckoned. -/
structure MulI (w : World) (gf gb g0 g8 p B g r c d : Nat) (A' : Option Addr) (n' cap' : Nat) (a b : M) (i j : Nat) (W : World) : Prop where
  fr : Fr (fun k => k = p) w W
  fld : Fld W p
  ff : Blk W gf 24 (fcellv p)
  mb : Blk W gb 27 (mcells c d A' n' cap')
  res : Blk W g0 27 zmx
  var : Blk W g8 27 (mcells r d (some ⟨g, 0, none⟩) (r * d) (r * d))
  row : Wm W B g (r * d) r d (mulUp c a b i j)
section
variable {w W W' : World} {gf gb g0 g8 p B g r c d : Nat} {A' : Option Addr} {n' cap' : Nat} {a b : M} {i j : Nat}
theorem MulI.fr_ {S : Nat → Prop} (h : MulI w gf gb g0 g8 p B g r c d A' n' cap' a b i j W) (hf : Fr S W W') (hS : ∀ k, S k → w.heap.size ≤ k) (hp : p < w.heap.size) (hg : ¬ S gf ∧ ¬ S gb ∧ ¬ S g0 ∧ ¬ S g8 ∧ ¬ S g) : MulI w gf gb g0 g8 p B g r c d A' n' cap' a b i j W' :=
  ⟨h.fr.trans hf fun k hk hs => absurd (hS k hs) (by omega), h.fld.fr hf fun hs => absurd (hS p hs) (by omega), h.ff.fr hf hg.1, h.mb.fr hf hg.2.1, h.res.fr hf hg.2.2.1, h.var.fr hf hg.2.2.2.1, h.row.fr hf hg.2.2.2.2⟩
theorem MulI.keep (h : MulI w gf gb g0 g8 p B g r c d A' n' cap' a b i j W) (hp : p < w.heap.size) (hb : Below W.heap.size W W') : MulI w gf gb g0 g8 p B g r c d A' n' cap' a b i j W' :=
  h.fr_ (Fr.quiet (S := fun _ => False) hb) (fun _ h => h.elim) hp ⟨fun h => h, fun h => h, fun h => h, fun h => h, fun h => h⟩
theorem MulI.congr {i' j' : Nat} (h : MulI w gf gb g0 g8 p B g r c d A' n' cap' a b i j W) (e : ∀ x, x < r → ∀ k, k < d → mulUp c a b i j x k = mulUp c a b i' j' x k) : MulI w gf gb g0 g8 p B g r c d A' n' cap' a b i' j' W :=
  ⟨h.fr, h.fld, h.ff, h.mb, h.res, h.var, h.row.congr e⟩
/-- Behind more. -/
theorem MulI.more (h : MulI w gf gb g0 g8 p B g r c d A' n' cap' a b i j W) (hf : Fr (fun k => k = g ∨ k = p) W W') (hF : Fld W' p) (hw : Wm W' B g (r * d) r d (addRow (mulUp c a b i j) i (fun k => b j k) (a i j))) (hg : w.heap.size ≤ g) (hne : (gf ≠ g ∧ gf ≠ p) ∧ (gb ≠ g ∧ gb ≠ p) ∧ (g0 ≠ g ∧ g0 ≠ p) ∧ g8 ≠ g ∧ g8 ≠ p) : MulI w gf gb g0 g8 p B g r c d A' n' cap' a b i (j + 1) W' :=
  ⟨h.fr.trans hf fun k hk hs => hs.elim (fun e => absurd hk (by omega)) fun e => e, hF, h.ff.fr hf (by omega), h.mb.fr hf (by omega), h.res.fr hf (by omega), h.var.fr hf (by omega), hw.congr fun x hx k hk => by
    unfold addRow mulUp
    by_cases e : x = i
    · subst e
      rw [if_pos rfl, if_neg (by omega), if_pos rfl, if_neg (by omega), if_pos rfl, mul_comm (b j k)]; rfl
    · rw [if_neg e]
      by_cases e2 : x < i
      · rw [if_pos e2, if_pos e2]
      · rw [if_neg e2, if_neg e2, if_neg e, if_neg e]⟩
end
set_option maxRecDepth 100000 in
set_option maxHeartbeats 8000000 in
theorem mul_ok0 (w : World) (p : Nat) (hp : Fld w p) (r c d : Nat) (A A' : Option Addr) (n cap n' cap' : Nat) (a b : M) (hrt : rightB r c n = true) (hrt2 : rightB c d n' = true) (hrd : r ≤ 100 ∧ c ≤ 100 ∧ d ≤ 100) (hcap : n ≤ cap ∧ n' ≤ cap') (hA : In w p A (flat r c a)) (hB : In w p A' (flat c d b)) (hz : r = 0) :
    Calls Try.prog 18 #[fptr (some p), .agg #[.int .i64 (r : Int), .int .i64 (c : Int), .slice A n cap], .agg #[.int .i64 (c : Int), .int .i64 (d : Int), .slice A' n' cap']] w (NewF w p r d (mulM c a b)) := by
  have hn : n = r * c := by obtain ⟨r', c', e1, e2, _, _, e⟩ := right_nat hrt; rw [e, Int.ofNat.inj e1, Int.ofNat.inj e2]
  have hn' : n' = c * d := by obtain ⟨r', c', e1, e2, _, _, e⟩ := right_nat hrt2; rw [e, Int.ofNat.inj e1, Int.ofNat.inj e2]
  have hl : (n : Int) ≤ 1000000000 ∧ (n' : Int) ≤ 1000000000 ∧ ((r * d : Nat) : Int) ≤ 1000000000 := by
    have k1 : r * c ≤ 100 * 100 := Nat.mul_le_mul hrd.1 hrd.2.1
    have k2 : c * d ≤ 100 * 100 := Nat.mul_le_mul hrd.2.1 hrd.2.2
    have k3 : r * d ≤ 100 * 100 := Nat.mul_le_mul hrd.1 hrd.2.2
    omega
  have hpw := hp.lt
  have hr0 : ¬ 0 < r := by omega
  have hdv : decide (0 < r) = false := decide_eq_false hr0
  have HDV := Lib.hid (And.intro hr0 hdv)
  refine of_wide ?_
  refine callsIn_of_wp_marks Try.func18 rfl trivial ?_ rfl
  refine wpIn_wide.2 ?_
  simp only [Try.ntmps18, List.size_toArray, List.length_cons, List.length_nil, Nat.reduceAdd, Nat.reduceSub, Array.replicate_succ, Array.replicate_zero, List.push_toArray, List.append_toArray, List.nil_append, List.cons_append]
  obtain ⟨w1, h1, hw1⟩ := mulP_start w p #[.int .i64 (r : Int), .int .i64 (c : Int), .slice A n cap] #[.int .i64 (c : Int), .int .i64 (d : Int), .slice A' n' cap']
  obtain ⟨gf, hgf⟩ : ∃ x, w.heap.size = x := ⟨_, rfl⟩
  rw [hgf] at h1
  have HW1 := Lib.hid (show (((w.alloc (.cells #[fptr (some p)] 24)).alloc (.cells #[.int .i64 (r : Int), .int .i64 (c : Int), .slice A n cap] 27)).alloc (.cells #[.int .i64 (c : Int), .int .i64 (d : Int), .slice A' n' cap'] 27)).alloc (.cells #[.int .i64 0, .int .i64 0, .slice none 0 0] 27) = w1 from hw1)
  have H1 := Lib.hid h1
  have HG := Lib.hid hgf
  have HP := Lib.hid hp
  have HRT := Lib.hid hrt
  have HRT2 := Lib.hid hrt2
  have HRD := Lib.hid hrd
  have HCAP := Lib.hid hcap
  have HAA := Lib.hid hA
  have HBB := Lib.hid hB
  have HN := Lib.hid hn
  have HN2 := Lib.hid hn'
  have HL := Lib.hid hl
  have HPW := Lib.hid hpw
  have HZ := Lib.hid hz
  clear h1 hw1 hgf hp hrt hrt2 hrd hcap hA hB hn hn' hl hpw hr0 hdv hz
  go_wp2_with fail
  rw [HW1.out, HG.out]
  --HELD mulo0
  refine wp_region_noPanic ?_
  refine wp_heldG (fun w' => Below w1.heap.size w1 w') [] (by kernel_rfl) ?hs0 ?rg0
  case hs0 =>
    exact nextN (Mem.start w1) 1
  case rg0 =>
  intro hHeld
  refine wpAnyG_take (i := 0) (oi := { dst := some 13, op := Op.load 27 (Operand.tmp 4), type := 27, pos := _, after := #[], guard := none }) (v := ?_) rfl (by kernel_rfl) (by kernel_rfl) (by kernel_rfl) (by kernel_rfl) (fun _ _ _ h => h) (Or.inl ⟨by rfl, ?_⟩) (by assumption) ?_
  rotate_left
  · intro w hSw
    try dsimp only at hSw
    obtain ⟨⟨c0, c1, c2⟩, _⟩ := cells3 (H1.out.a.keep hSw)
    go_simp
    try with_reducible rfl
  try simp only [Act.put, List.setIfInBounds_toArray, List.set_cons_zero, List.set_cons_succ]
  refine wpAnyG_one (i := 1) (o := { dst := some 14, op := Op.call { callee := Callee.value (Operand.func 26), args := #[Operand.tmp 13], argTypes := #[27] }, type := 4, pos := _, after := #[{ on := 0, ground := Ground.data }], guard := none }) (by kernel_rfl) rfl (fun K hK => ?_)
  go_simp
  refine (right_any _ _ _ A n cap).mono ?_
  rintro e wA ⟨rfl, hb⟩
  rw [HRT.out]
  have HA := Lib.hid (next hHeld hb)
  try dsimp only
  refine hK.out _ _ ?_ (fun hHeld => ?_)
  · intro _
    try dsimp only
    exact HA.out
  clear hK K
  try simp only [Act.put, List.setIfInBounds_toArray, List.set_cons_zero, List.set_cons_succ]
  have hHeld := hHeld (by kernel_rfl)
  refine wpAnyG_pure (i := 2) (oi := { dst := some 15, op := Op.unOp UnOp.not 4 (Operand.tmp 14), type := 4, pos := _, after := #[{ on := 1, ground := Ground.data }], guard := none }) (v := ?_) rfl (by kernel_rfl) (by kernel_rfl) (by kernel_rfl) (by kernel_rfl) (fun _ _ _ h => h) (Or.inl ⟨by rfl, ?_⟩) (fun _ => by assumption) ?_
  rotate_left
  · intro w hSw
    try dsimp only at hSw
    go_simp
    try with_reducible rfl
  try simp only [Act.put, List.setIfInBounds_toArray, List.set_cons_zero, List.set_cons_succ]
  refine wpAnyG_pure (i := 3) (oi := { dst := some 16, op := Op.move (Operand.tmp 15), type := 4, pos := _, after := #[{ on := 2, ground := Ground.data }, { on := 1, ground := Ground.chain }], guard := none }) (v := ?_) rfl (by kernel_rfl) (by kernel_rfl) (by kernel_rfl) (by kernel_rfl) (fun _ _ _ h => h) (Or.inl ⟨by rfl, ?_⟩) (fun _ => by assumption) ?_
  rotate_left
  · intro w hSw
    try dsimp only at hSw
    go_simp
    try with_reducible rfl
  try simp only [Act.put, List.setIfInBounds_toArray, List.set_cons_zero, List.set_cons_succ]
  refine wpAnyG_take (i := 4) (oi := { dst := some 17, op := Op.load 27 (Operand.tmp 5), type := 27, pos := _, after := #[{ on := 3, ground := Ground.guard }], guard := some (3, false) }) (v := ?_) rfl (by kernel_rfl) (by kernel_rfl) (by kernel_rfl) (by kernel_rfl) (fun _ _ _ h => h) (Or.inl ⟨by rfl, ?_⟩) (by assumption) ?_
  rotate_left
  · intro w hSw
    try dsimp only at hSw
    obtain ⟨⟨c0, c1, c2⟩, _⟩ := cells3 (H1.out.b.keep hSw)
    go_simp
    try with_reducible rfl
  try simp only [Act.put, List.setIfInBounds_toArray, List.set_cons_zero, List.set_cons_succ]
  refine wpAnyG_one (i := 5) (o := { dst := some 18, op := Op.call { callee := Callee.value (Operand.func 26), args := #[Operand.tmp 17], argTypes := #[27] }, type := 4, pos := _, after := #[{ on := 4, ground := Ground.data }, { on := 3, ground := Ground.chain }, { on := 3, ground := Ground.guard }], guard := some (3, false) }) (by kernel_rfl) rfl (fun K hK => ?_)
  go_simp
  refine (right_any _ _ _ A' n' cap').mono ?_
  rintro e wB ⟨rfl, hb⟩
  rw [HRT2.out]
  have HB := Lib.hid (next hHeld hb)
  try dsimp only
  refine hK.out _ _ ?_ (fun hHeld => ?_)
  · intro _
    try dsimp only
    exact HB.out
  clear hK K
  try simp only [Act.put, List.setIfInBounds_toArray, List.set_cons_zero, List.set_cons_succ]
  have hHeld := hHeld (by kernel_rfl)
  refine wpAnyG_pure (i := 6) (oi := { dst := some 19, op := Op.unOp UnOp.not 4 (Operand.tmp 18), type := 4, pos := _, after := #[{ on := 5, ground := Ground.data }, { on := 3, ground := Ground.guard }], guard := some (3, false) }) (v := ?_) rfl (by kernel_rfl) (by kernel_rfl) (by kernel_rfl) (by kernel_rfl) (fun _ _ _ h => h) (Or.inl ⟨by rfl, ?_⟩) (fun _ => by assumption) ?_
  rotate_left
  · intro w hSw
    try dsimp only at hSw
    go_simp
    try with_reducible rfl
  try simp only [Act.put, List.setIfInBounds_toArray, List.set_cons_zero, List.set_cons_succ]
  refine wpAnyG_pure (i := 7) (oi := { dst := some 20, op := Op.pick (Operand.tmp 16) (Operand.const (Value.bool true)) (Operand.tmp 19), type := 4, pos := _, after := #[{ on := 3, ground := Ground.data }, { on := 6, ground := Ground.data }], guard := none }) (v := ?_) rfl (by kernel_rfl) (by kernel_rfl) (by kernel_rfl) (by kernel_rfl) (fun _ _ _ h => h) (Or.inl ⟨by rfl, ?_⟩) (fun _ => by assumption) ?_
  rotate_left
  · intro w hSw
    try dsimp only at hSw
    go_simp
    try with_reducible rfl
  try simp only [Act.put, List.setIfInBounds_toArray, List.set_cons_zero, List.set_cons_succ]
  refine wpAnyG_pure (i := 8) (oi := { dst := some 21, op := Op.move (Operand.tmp 20), type := 4, pos := _, after := #[{ on := 7, ground := Ground.data }, { on := 5, ground := Ground.chain }], guard := none }) (v := ?_) rfl (by kernel_rfl) (by kernel_rfl) (by kernel_rfl) (by kernel_rfl) (fun _ _ _ h => h) (Or.inl ⟨by rfl, ?_⟩) (fun _ => by assumption) ?_
  rotate_left
  · intro w hSw
    try dsimp only at hSw
    go_simp
    try with_reducible rfl
  try simp only [Act.put, List.setIfInBounds_toArray, List.set_cons_zero, List.set_cons_succ]
  refine wpAnyG_pure (i := 9) (oi := { dst := some 22, op := Op.fieldAddr 27 (Operand.tmp 4) 1, type := 0, pos := _, after := #[{ on := 8, ground := Ground.guard }], guard := some (8, false) }) (v := ?_) rfl (by kernel_rfl) (by kernel_rfl) (by kernel_rfl) (by kernel_rfl) (fun _ _ _ h => h) (Or.inl ⟨by rfl, ?_⟩) (fun _ => by assumption) ?_
  rotate_left
  · intro w hSw
    try dsimp only at hSw
    go_simp
    try with_reducible rfl
  try simp only [Act.put, List.setIfInBounds_toArray, List.set_cons_zero, List.set_cons_succ]
  refine wpAnyG_take (i := 10) (oi := { dst := some 23, op := Op.load 3 (Operand.tmp 22), type := 3, pos := _, after := #[{ on := 9, ground := Ground.data }, { on := 8, ground := Ground.guard }], guard := some (8, false) }) (v := ?_) rfl (by kernel_rfl) (by kernel_rfl) (by kernel_rfl) (by kernel_rfl) (fun _ _ _ h => h) (Or.inl ⟨by rfl, ?_⟩) (by assumption) ?_
  rotate_left
  · intro w hSw
    try dsimp only at hSw
    obtain ⟨⟨c0, c1, c2⟩, _⟩ := cells3 (H1.out.a.keep hSw)
    go_simp
    try with_reducible rfl
  try simp only [Act.put, List.setIfInBounds_toArray, List.set_cons_zero, List.set_cons_succ]
  refine wpAnyG_pure (i := 11) (oi := { dst := some 24, op := Op.fieldAddr 27 (Operand.tmp 5) 0, type := 0, pos := _, after := #[{ on := 8, ground := Ground.guard }], guard := some (8, false) }) (v := ?_) rfl (by kernel_rfl) (by kernel_rfl) (by kernel_rfl) (by kernel_rfl) (fun _ _ _ h => h) (Or.inl ⟨by rfl, ?_⟩) (fun _ => by assumption) ?_
  rotate_left
  · intro w hSw
    try dsimp only at hSw
    go_simp
    try with_reducible rfl
  try simp only [Act.put, List.setIfInBounds_toArray, List.set_cons_zero, List.set_cons_succ]
  refine wpAnyG_take (i := 12) (oi := { dst := some 25, op := Op.load 3 (Operand.tmp 24), type := 3, pos := _, after := #[{ on := 11, ground := Ground.data }, { on := 8, ground := Ground.guard }], guard := some (8, false) }) (v := ?_) rfl (by kernel_rfl) (by kernel_rfl) (by kernel_rfl) (by kernel_rfl) (fun _ _ _ h => h) (Or.inl ⟨by rfl, ?_⟩) (by assumption) ?_
  rotate_left
  · intro w hSw
    try dsimp only at hSw
    obtain ⟨⟨c0, c1, c2⟩, _⟩ := cells3 (H1.out.b.keep hSw)
    go_simp
    try with_reducible rfl
  try simp only [Act.put, List.setIfInBounds_toArray, List.set_cons_zero, List.set_cons_succ]
  refine wpAnyG_pure (i := 13) (oi := { dst := some 26, op := Op.binOp BinOp.neq 3 (Operand.tmp 23) (Operand.tmp 25) 3, type := 4, pos := _, after := #[{ on := 10, ground := Ground.data }, { on := 12, ground := Ground.data }, { on := 8, ground := Ground.guard }], guard := some (8, false) }) (v := ?_) rfl (by kernel_rfl) (by kernel_rfl) (by kernel_rfl) (by kernel_rfl) (fun _ _ _ h => h) (Or.inl ⟨by rfl, ?_⟩) (fun _ => by assumption) ?_
  rotate_left
  · intro w hSw
    try dsimp only at hSw
    go_simp
    try with_reducible rfl
  try simp only [Act.put, List.setIfInBounds_toArray, List.set_cons_zero, List.set_cons_succ]
  refine wpAnyG_pure (i := 14) (oi := { dst := some 27, op := Op.pick (Operand.tmp 21) (Operand.const (Value.bool true)) (Operand.tmp 26), type := 4, pos := _, after := #[{ on := 8, ground := Ground.data }, { on := 13, ground := Ground.data }], guard := none }) (v := ?_) rfl (by kernel_rfl) (by kernel_rfl) (by kernel_rfl) (by kernel_rfl) (fun _ _ _ h => h) (Or.inl ⟨by rfl, ?_⟩) (fun _ => by assumption) ?_
  rotate_left
  · intro w hSw
    try dsimp only at hSw
    go_simp
    try with_reducible rfl
  try simp only [Act.put, List.setIfInBounds_toArray, List.set_cons_zero, List.set_cons_succ]
  refine wpAnyG_pure (i := 15) (oi := { dst := some 28, op := Op.move (Operand.tmp 27), type := 4, pos := _, after := #[{ on := 14, ground := Ground.data }, { on := 8, ground := Ground.chain }], guard := none }) (v := ?_) rfl (by kernel_rfl) (by kernel_rfl) (by kernel_rfl) (by kernel_rfl) (fun _ _ _ h => h) (Or.inl ⟨by rfl, ?_⟩) (fun _ => by assumption) ?_
  rotate_left
  · intro w hSw
    try dsimp only at hSw
    go_simp
    try with_reducible rfl
  try simp only [Act.put, List.setIfInBounds_toArray, List.set_cons_zero, List.set_cons_succ]
  refine wpAnyG_pure (i := 16) (oi := { dst := some 29, op := Op.fieldAddr 27 (Operand.tmp 4) 0, type := 0, pos := _, after := #[{ on := 15, ground := Ground.guard }], guard := some (15, false) }) (v := ?_) rfl (by kernel_rfl) (by kernel_rfl) (by kernel_rfl) (by kernel_rfl) (fun _ _ _ h => h) (Or.inl ⟨by rfl, ?_⟩) (fun _ => by assumption) ?_
  rotate_left
  · intro w hSw
    try dsimp only at hSw
    go_simp
    try with_reducible rfl
  try simp only [Act.put, List.setIfInBounds_toArray, List.set_cons_zero, List.set_cons_succ]
  refine wpAnyG_take (i := 17) (oi := { dst := some 30, op := Op.load 3 (Operand.tmp 29), type := 3, pos := _, after := #[{ on := 16, ground := Ground.data }, { on := 15, ground := Ground.guard }], guard := some (15, false) }) (v := ?_) rfl (by kernel_rfl) (by kernel_rfl) (by kernel_rfl) (by kernel_rfl) (fun _ _ _ h => h) (Or.inl ⟨by rfl, ?_⟩) (by assumption) ?_
  rotate_left
  · intro w hSw
    try dsimp only at hSw
    obtain ⟨⟨c0, c1, c2⟩, _⟩ := cells3 (H1.out.a.keep hSw)
    go_simp
    try with_reducible rfl
  try simp only [Act.put, List.setIfInBounds_toArray, List.set_cons_zero, List.set_cons_succ]
  refine wpAnyG_pure (i := 18) (oi := { dst := some 31, op := Op.binOp BinOp.gtr 3 (Operand.tmp 30) (Operand.const (Value.int IntKind.i64 0)) 3, type := 4, pos := _, after := #[{ on := 17, ground := Ground.data }, { on := 15, ground := Ground.guard }], guard := some (15, false) }) (v := ?_) rfl (by kernel_rfl) (by kernel_rfl) (by kernel_rfl) (by kernel_rfl) (fun _ _ _ h => h) (Or.inl ⟨by rfl, ?_⟩) (fun _ => by assumption) ?_
  rotate_left
  · intro w hSw
    try dsimp only at hSw
    obtain ⟨hr0, hdv⟩ := HDV.out
    go_simp
    try with_reducible rfl
  try simp only [Act.put, List.setIfInBounds_toArray, List.set_cons_zero, List.set_cons_succ]
  refine wpAnyG_pure (i := 19) (oi := { dst := some 32, op := Op.move (Operand.tmp 31), type := 4, pos := _, after := #[{ on := 18, ground := Ground.data }, { on := 15, ground := Ground.chain }, { on := 15, ground := Ground.guard }], guard := some (15, false) }) (v := ?_) rfl (by kernel_rfl) (by kernel_rfl) (by kernel_rfl) (by kernel_rfl) (fun _ _ _ h => h) (Or.inl ⟨by rfl, ?_⟩) (fun _ => by assumption) ?_
  rotate_left
  · intro w hSw
    try dsimp only at hSw
    go_simp
    try with_reducible rfl
  try simp only [Act.put, List.setIfInBounds_toArray, List.set_cons_zero, List.set_cons_succ]
  refine wpAnyG_pure (i := 20) (oi := { dst := some 33, op := Op.fieldAddr 27 (Operand.tmp 5) 1, type := 0, pos := _, after := #[{ on := 19, ground := Ground.guard }], guard := some (19, true) }) (v := undef) rfl (by kernel_rfl) (by kernel_rfl) (by kernel_rfl) (by kernel_rfl) (fun _ _ _ h => h) (Or.inr ⟨by rfl, rfl⟩) (fun _ => by assumption) ?_
  try simp only [Act.put, List.setIfInBounds_toArray, List.set_cons_zero, List.set_cons_succ]
  refine wpAnyG_pure (i := 21) (oi := { dst := some 34, op := Op.load 3 (Operand.tmp 33), type := 3, pos := _, after := #[{ on := 20, ground := Ground.data }, { on := 19, ground := Ground.guard }], guard := some (19, true) }) (v := undef) rfl (by kernel_rfl) (by kernel_rfl) (by kernel_rfl) (by kernel_rfl) (fun _ _ _ h => h) (Or.inr ⟨by rfl, rfl⟩) (fun _ => by assumption) ?_
  try simp only [Act.put, List.setIfInBounds_toArray, List.set_cons_zero, List.set_cons_succ]
  refine wpAnyG_pure (i := 22) (oi := { dst := some 35, op := Op.fieldAddr 27 (Operand.tmp 4) 0, type := 0, pos := _, after := #[{ on := 19, ground := Ground.guard }], guard := some (19, true) }) (v := undef) rfl (by kernel_rfl) (by kernel_rfl) (by kernel_rfl) (by kernel_rfl) (fun _ _ _ h => h) (Or.inr ⟨by rfl, rfl⟩) (fun _ => by assumption) ?_
  try simp only [Act.put, List.setIfInBounds_toArray, List.set_cons_zero, List.set_cons_succ]
  refine wpAnyG_pure (i := 23) (oi := { dst := some 36, op := Op.load 3 (Operand.tmp 35), type := 3, pos := _, after := #[{ on := 22, ground := Ground.data }, { on := 19, ground := Ground.guard }], guard := some (19, true) }) (v := undef) rfl (by kernel_rfl) (by kernel_rfl) (by kernel_rfl) (by kernel_rfl) (fun _ _ _ h => h) (Or.inr ⟨by rfl, rfl⟩) (fun _ => by assumption) ?_
  try simp only [Act.put, List.setIfInBounds_toArray, List.set_cons_zero, List.set_cons_succ]
  refine wpAnyG_pure (i := 24) (oi := { dst := some 37, op := Op.binOp BinOp.quo 3 (Operand.const (Value.int IntKind.i64 16777216)) (Operand.tmp 36) 3, type := 3, pos := _, after := #[{ on := 23, ground := Ground.data }, { on := 19, ground := Ground.guard }], guard := some (19, true) }) (v := undef) rfl (by kernel_rfl) (by kernel_rfl) (by kernel_rfl) (by kernel_rfl) (fun _ _ _ h => h) (Or.inr ⟨by rfl, rfl⟩) (fun _ => by assumption) ?_
  try simp only [Act.put, List.setIfInBounds_toArray, List.set_cons_zero, List.set_cons_succ]
  refine wpAnyG_pure (i := 25) (oi := { dst := some 38, op := Op.binOp BinOp.gtr 3 (Operand.tmp 34) (Operand.tmp 37) 3, type := 4, pos := _, after := #[{ on := 21, ground := Ground.data }, { on := 24, ground := Ground.data }, { on := 19, ground := Ground.guard }], guard := some (19, true) }) (v := undef) rfl (by kernel_rfl) (by kernel_rfl) (by kernel_rfl) (by kernel_rfl) (fun _ _ _ h => h) (Or.inr ⟨by rfl, rfl⟩) (fun _ => by assumption) ?_
  try simp only [Act.put, List.setIfInBounds_toArray, List.set_cons_zero, List.set_cons_succ]
  refine wpAnyG_pure (i := 26) (oi := { dst := some 39, op := Op.pick (Operand.tmp 32) (Operand.tmp 38) (Operand.const (Value.bool false)), type := 4, pos := _, after := #[{ on := 19, ground := Ground.data }, { on := 25, ground := Ground.data }, { on := 15, ground := Ground.guard }], guard := some (15, false) }) (v := ?_) rfl (by kernel_rfl) (by kernel_rfl) (by kernel_rfl) (by kernel_rfl) (fun _ _ _ h => h) (Or.inl ⟨by rfl, ?_⟩) (fun _ => by assumption) ?_
  rotate_left
  · intro w hSw
    try dsimp only at hSw
    go_simp
    try with_reducible rfl
  try simp only [Act.put, List.setIfInBounds_toArray, List.set_cons_zero, List.set_cons_succ]
  refine wpAnyG_pure (i := 27) (oi := { dst := some 40, op := Op.pick (Operand.tmp 28) (Operand.const (Value.bool true)) (Operand.tmp 39), type := 4, pos := _, after := #[{ on := 15, ground := Ground.data }, { on := 26, ground := Ground.data }], guard := none }) (v := ?_) rfl (by kernel_rfl) (by kernel_rfl) (by kernel_rfl) (by kernel_rfl) (fun _ _ _ h => h) (Or.inl ⟨by rfl, ?_⟩) (fun _ => by assumption) ?_
  rotate_left
  · intro w hSw
    try dsimp only at hSw
    go_simp
    try with_reducible rfl
  try simp only [Act.put, List.setIfInBounds_toArray, List.set_cons_zero, List.set_cons_succ]
  refine wpAnyG_done (by kernel_rfl) ?_ _
  refine NoPanic.normal ?_
  --END mulo0
  have H2 := Lib.hid (H1.out.keep HB.out)
  obtain ⟨⟨a0, a1, a2⟩, _⟩ := cells3 H2.out.a
  obtain ⟨⟨b0, b1, b2⟩, _⟩ := cells3 H2.out.b
  go_wp2_with fail
  refine (none_any wB r d HL.out.2.2).mono ?_
  rintro e w3 ⟨g, rfl, ho, hb⟩
  have H3 := Lib.hid (And.intro (H2.out.keep hb) (show Wm w3 wB.heap.size g (r * d) r d (fun _ _ => 0) from ho))
  obtain ⟨w4, g4, h4, hw4, hg4⟩ := boxed w3 (mcells r d (some ⟨g, 0, none⟩) (r * d) (r * d))
  have HW4 := Lib.hid (show w3.alloc (.cells #[.int .i64 (r : Int), .int .i64 (d : Int), .slice (some ⟨g, 0, none⟩) (r * d) (r * d)] 27) = w4 from hw4)
  obtain ⟨⟨d0, d1, d2⟩, _⟩ := cells3 (H3.out.1.keep h4.1).a
  rw [← HW4.out] at d0 d1 d2
  have H4 := Lib.hid h4
  have HG4 := Lib.hid hg4
  clear ho hb h4 hw4 hg4 a0 a1 a2 b0 b1 b2
  go_wp2_with fail
  rw [HW4.out, HG4.out]
  refine (rows_any w4 _ _ _).mono ?_
  rintro e w5' ⟨rfl, rfl⟩
  obtain ⟨w5, bm, h5, hw5, hbm⟩ := boxed w4 (mcells r c A n cap)
  have HW5 := Lib.hid (show w4.alloc (.cells #[.int .i64 (r : Int), .int .i64 (c : Int), .slice A n cap] 27) = w5 from hw5)
  rw [HW5.out, hbm]
  have hap : w.heap.size = gf ∧ gf + 4 ≤ wB.heap.size ∧ wB.heap.size ≤ g ∧ g < g4 ∧ bm = g4 + 1 ∧ w5.heap.size = bm + 1 ∧ p < gf := by
    have k1 := H2.out.nums; have k3 := H3.out.2.form; have k4 := HG4.out; have k5 := H4.out.2.2; have k6 := h5.2.2; have k7 := HPW.out
    omega
  have HAP := Lib.hid hap
  have hP5 := (H3.out.1.keep H4.out.1).keep h5.1
  have HI0 := Lib.hid (show MulI w gf (gf + 1 + 1) (gf + 1 + 1 + 1) g4 p wB.heap.size g r c d A' n' cap' a b 0 0 w5 from ⟨Fr.quiet hP5.below, HP.out.keep hP5.below, hP5.f, hP5.b, hP5.res, H4.out.2.1.keep h5.1, ((H3.out.2.keep H4.out.1).keep h5.1).congr fun x _ k _ => (mulUp_start c a b x k).symm⟩)
  have H5 := Lib.hid h5
  clear hw5 h5 hap d0 d1 d2 hbm hP5
  go_wp2_with fail
  refine (wpIn_wide (n := 5)).1 ?_
  refine wpIn_rows bm r c A n cap rfl H5.out.2.1 (by have := HRD.out; omega) HN.out HL.out.1 HCAP.out.1 (fun k => k = g ∨ k = p) (by have := HAP.out; omega)
    (fun i W => MulI w gf (gf + 1 + 1) (gf + 1 + 1 + 1) g4 p wB.heap.size g r c d A' n' cap' a b i 0 W) ?hI HI0.out ?hround ?hdone
  case hI =>
    intro i W W' h hf
    have hap := HAP.out
    exact h.fr_ hf (fun k e => by omega) HPW.out ⟨by omega, by omega, by omega, by omega, by omega⟩
  case hround =>
    intro l i W hi hlt
    have HLT := Lib.hid hlt
    obtain ⟨X, hX⟩ : ∃ X, rowA A c i = X := ⟨_, rfl⟩
    rw [hX]
    have HX := Lib.hid hX
    clear hlt hi hX
    gi_wp2
    refine ⟨trivial, fun W2 hi2 => ?_⟩
    have H := Lib.hid hi2
    clear hi2
    gi_wp2
    gi_loopw [53] (fun x wr => ∃ j : Nat, x = .int .i64 (j : Int) ∧ j ≤ c ∧ MulI w gf (gf + 1 + 1) (gf + 1 + 1 + 1) g4 p wB.heap.size g r c d A' n' cap' a b i j wr ∧ Fr (fun k => k = g ∨ k = p) W2 wr) (fun x _ => c - (intOf x).toNat)
    case atStart => exact ⟨0, rfl, Nat.zero_le _, H.out, Fr.refl _ _⟩
    case round =>
      obtain ⟨j, rfl, hj, h1, h2⟩ := hrel
      by_cases hjc : j < c
      · obtain ⟨ab, off, hx, hab, _, hcs⟩ := row_at (HAA.out.field h1.fr).1 HLT.out (show 0 < c by omega)
        rw [HX.out] at hx
        subst hx
        have hji : (j : Int) < (c : Int) := by omega
        have hj0 : (0 : Int) ≤ (j : Int) := by omega
        have hj9 : (j : Int) ≤ 1000000 := by have := HRD.out; omega
        have hr1 := hcs j hjc
        have HJ := Lib.hid (And.intro h1 (And.intro h2 hjc))
        clear h1 h2 hj hjc hcs hab
        gi_wp2
        --HELD mulo0r
        refine wpIn_only ?_
        refine wpIn_heldG (fun w' => Blk w' gf 24 (fcellv p) ∧ Blk w' g4 27 (mcells r d (some ⟨g, 0, none⟩) (r * d) (r * d)) ∧ Blk w' (gf + 1 + 1) 27 (mcells c d A' n' cap')) [] (by kernel_rfl) (by kernel_rfl) (fun ⟨_, _, h⟩ => h) ?hs0 ?rg0
        case hs0 =>
          exact ⟨HJ.out.1.ff, HJ.out.1.var, HJ.out.1.mb⟩
        case rg0 =>
        intro hHeld
        refine wpAnyG_take (i := 0) (oi := { dst := some 58, op := Op.load 24 (Operand.tmp 3), type := 24, pos := _, after := #[], guard := none }) (v := ?_) rfl (by kernel_rfl) (by kernel_rfl) (by kernel_rfl) (by kernel_rfl) (fun _ _ _ h => h) (Or.inl ⟨by rfl, ?_⟩) (by assumption) ?_
        rotate_left
        · intro w hSw
          try dsimp only at hSw
          have c0 := hSw.1.cell 0
          simp only [fcellv, List.getElem?_toArray, List.getElem?_cons_zero] at c0
          go_simp
          try with_reducible rfl
        try simp only [Act.put, List.setIfInBounds_toArray, List.set_cons_zero, List.set_cons_succ]
        refine wpAnyG_take (i := 1) (oi := { dst := some 59, op := Op.load 27 (Operand.tmp 8), type := 27, pos := _, after := #[], guard := none }) (v := ?_) rfl (by kernel_rfl) (by kernel_rfl) (by kernel_rfl) (by kernel_rfl) (fun _ _ _ h => h) (Or.inl ⟨by rfl, ?_⟩) (by assumption) ?_
        rotate_left
        · intro w hSw
          try dsimp only at hSw
          obtain ⟨⟨c0, c1, c2⟩, _⟩ := cells3 hSw.2.1
          go_simp
          try with_reducible rfl
        try simp only [Act.put, List.setIfInBounds_toArray, List.set_cons_zero, List.set_cons_succ]
        refine wpAnyG_pure (i := 2) (oi := { dst := some 60, op := Op.move (Operand.tmp 9), type := 3, pos := _, after := #[], guard := none }) (v := ?_) rfl (by kernel_rfl) (by kernel_rfl) (by kernel_rfl) (by kernel_rfl) (fun _ _ _ h => h) (Or.inl ⟨by rfl, ?_⟩) (fun _ => by assumption) ?_
        rotate_left
        · intro w hSw
          try dsimp only at hSw
          go_simp
          try with_reducible rfl
        try simp only [Act.put, List.setIfInBounds_toArray, List.set_cons_zero, List.set_cons_succ]
        refine wpAnyG_take (i := 4) (oi := { dst := some 62, op := Op.load 27 (Operand.tmp 5), type := 27, pos := _, after := #[], guard := none }) (v := ?_) rfl (by kernel_rfl) (by kernel_rfl) (by kernel_rfl) (by kernel_rfl) (fun _ _ _ h => h) (Or.inl ⟨by rfl, ?_⟩) (by assumption) ?_
        rotate_left
        · intro w hSw
          try dsimp only at hSw
          obtain ⟨⟨c0, c1, c2⟩, _⟩ := cells3 hSw.2.2
          go_simp
          try with_reducible rfl
        try simp only [Act.put, List.setIfInBounds_toArray, List.set_cons_zero, List.set_cons_succ]
        refine wpAnyG_pure (i := 5) (oi := { dst := some 63, op := Op.move (Operand.tmp 11), type := 3, pos := _, after := #[], guard := none }) (v := ?_) rfl (by kernel_rfl) (by kernel_rfl) (by kernel_rfl) (by kernel_rfl) (fun _ _ _ h => h) (Or.inl ⟨by rfl, ?_⟩) (fun _ => by assumption) ?_
        rotate_left
        · intro w hSw
          try dsimp only at hSw
          go_simp
          try with_reducible rfl
        try simp only [Act.put, List.setIfInBounds_toArray, List.set_cons_zero, List.set_cons_succ]
        refine wpAnyG_pure (i := 7) (oi := { dst := some 65, op := Op.move (Operand.tmp 12), type := 5, pos := _, after := #[], guard := none }) (v := ?_) rfl (by kernel_rfl) (by kernel_rfl) (by kernel_rfl) (by kernel_rfl) (fun _ _ _ h => h) (Or.inl ⟨by rfl, ?_⟩) (fun _ => by assumption) ?_
        rotate_left
        · intro w hSw
          try dsimp only at hSw
          go_simp
          try with_reducible rfl
        try simp only [Act.put, List.setIfInBounds_toArray, List.set_cons_zero, List.set_cons_succ]
        refine wpAnyG_one (i := 3) (o := { dst := some 61, op := Op.call { callee := Callee.value (Operand.func 49), args := #[Operand.tmp 59, Operand.tmp 60], argTypes := #[27, 3] }, type := 22, pos := _, after := #[{ on := 1, ground := Ground.data }, { on := 2, ground := Ground.data }], guard := none }) (by kernel_rfl) rfl (fun K hK => ?_)
        go_simp
        refine (row_any _ r d i (some ⟨g, 0, none⟩) (r * d) (r * d) HLT.out (by have := HRD.out; omega) rfl HL.out.2.2 (Nat.le_refl _)).mono ?_
        rintro e w6 ⟨rfl, hb⟩
        have H6 := Lib.hid (next (nextN (Mem.start wr) 1) hb)
        try dsimp only
        refine hK.out _ _ ?_ (fun hHeld => ?_)
        · intro _
          try dsimp only
          exact ⟨hHeld.1.keep hb, hHeld.2.1.keep hb, hHeld.2.2.keep hb⟩
        clear hK K
        try simp only [Act.put, List.setIfInBounds_toArray, List.set_cons_zero, List.set_cons_succ]
        have hHeld := hHeld (by kernel_rfl)
        refine wpAnyG_one (i := 6) (o := { dst := some 64, op := Op.call { callee := Callee.value (Operand.func 49), args := #[Operand.tmp 62, Operand.tmp 63], argTypes := #[27, 3] }, type := 22, pos := _, after := #[{ on := 4, ground := Ground.data }, { on := 5, ground := Ground.data }, { on := 3, ground := Ground.chain }], guard := none }) (by kernel_rfl) rfl (fun K hK => ?_)
        clear hb
        go_simp
        refine (row_any _ c d j A' n' cap' HJ.out.2.2 (by have := HRD.out; omega) HN2.out HL.out.2.1 HCAP.out.2).mono ?_
        rintro e w7 ⟨rfl, hb⟩
        have H7 := Lib.hid (HJ.out.1.keep HPW.out (next H6.out hb))
        have H7F := Lib.hid (next H6.out hb)
        try dsimp only
        refine hK.out _ _ ?_ (fun hHeld => ?_)
        · intro _
          try dsimp only
          exact ⟨hHeld.1.keep hb, hHeld.2.1.keep hb, hHeld.2.2.keep hb⟩
        clear hK K
        try simp only [Act.put, List.setIfInBounds_toArray, List.set_cons_zero, List.set_cons_succ]
        have hHeld := hHeld (by kernel_rfl)
        refine wpAnyG_one (i := 8) (o := { dst := some 66, op := Op.call { callee := Callee.value (Operand.func 48), args := #[Operand.tmp 58, Operand.tmp 61, Operand.tmp 64, Operand.tmp 65], argTypes := #[24, 22, 22, 5] }, type := 0, pos := _, after := #[{ on := 0, ground := Ground.data }, { on := 3, ground := Ground.data }, { on := 6, ground := Ground.data }, { on := 7, ground := Ground.data }, { on := 6, ground := Ground.chain }], guard := none }) (by kernel_rfl) rfl (fun K hK => ?_)
        clear hb
        go_simp
        refine (more_row w7 p H7.out.fld wB.heap.size g (r * d) r d _ H7.out.row i HLT.out HL.out.2.2 (by have := HAP.out; omega) (rowA A' d j) d (b j) (fun hd => rd_of HBB.out H7.out.fr HJ.out.2.2 (by have := HAP.out; omega) hd) (a i j) d).mono ?_
        rintro e w8 ⟨rfl, hw8, hf8, hfr8⟩
        have hap := HAP.out
        have H8 := Lib.hid (And.intro (H7.out.more hfr8 hf8 hw8 (by omega) (by omega)) ((HJ.out.2.1.trans (Fr.quiet (S := fun k => k = g ∨ k = p) H7F.out) fun _ _ h => h).trans hfr8 fun _ _ h => h))
        clear hw8 hf8 hfr8 hap
        try dsimp only
        refine hK.out _ _ ?_ (fun hHeld => ?_)
        · intro _
          try dsimp only
          exact ⟨H8.out.1.ff, H8.out.1.var, H8.out.1.mb⟩
        clear hK K
        try simp only [Act.put, List.setIfInBounds_toArray, List.set_cons_zero, List.set_cons_succ]
        have hHeld := hHeld (by kernel_rfl)
        refine wpAnyG_done (by kernel_rfl) ?_ _
        refine onlyN_end ?_
        --END mulo0r
        gi_wp2
        go_roundw
        case rel => exact ⟨j + 1, by simp, HJ.out.2.2, H8.out.1, H8.out.2⟩
        case measure => simp [intOf]; omega
      · obtain rfl : j = c := by omega
        have HJ := Lib.hid (And.intro h1 h2)
        clear h1 h2 hj
        gi_wp2
        exact ⟨HJ.out.2, HJ.out.1.congr fun x _ k _ => mulUp_next j a b i x k⟩
  case hdone =>
    intro D W hD hi hK
    have H := Lib.hid hi
    have HK := Lib.hid (And.intro hD hK)
    obtain ⟨⟨c0, c1, c2⟩, _⟩ := cells3 hi.var
    obtain ⟨⟨d0, d1, d2⟩, f0, f1, f2⟩ := cells3 hi.res
    obtain ⟨W3, hW3⟩ : ∃ x : World, ((W.setCell ⟨gf + 1 + 1 + 1, 0, none⟩ (.int .i64 (r : Int))).setCell ⟨gf + 1 + 1 + 1, 1, none⟩ (.int .i64 (d : Int))).setCell ⟨gf + 1 + 1 + 1, 2, none⟩ (.slice (some ⟨g, 0, none⟩) (r * d) (r * d)) = x := ⟨_, rfl⟩
    have h3 := set3 hi.res (.int .i64 (r : Int)) (.int .i64 (d : Int)) (.slice (some ⟨g, 0, none⟩) (r * d) (r * d))
    rw [hW3] at h3
    have HW3 := Lib.hid hW3
    have HR := Lib.hid h3
    clear hi hK hD h3 hW3
    go_wp2_with fail
    rw [HW3.out]
    have hap := HAP.out
    have hd := HK.out.1
    have hKD : W3.heap[D]? = some (.deferred (some [])) := by
      have h1 := (Array.getElem?_eq_some_iff.1 HK.out.2).1
      rw [HR.out.2.block D h1 (by omega)]; exact HK.out.2
    have hst := shut_still (B := 0) (.deferred none) hKD rfl (Nat.zero_le _)
    obtain ⟨⟨e0, e1, e2⟩, _⟩ := cells3 (hst.blk HR.out.1)
    refine ⟨by simp, .inl ⟨_, _, rfl, run_takeDeferred hKD, ?_⟩⟩
    refine ⟨.tuple #[.agg #[.int .i64 (r : Int), .int .i64 (d : Int), .slice (some ⟨g, 0, none⟩) (r * d) (r * d)], .int .i64 0], ?_, ?_⟩
    · simp [results, Try.results18, go_sem, e0, e1, e2]
    · have hw := (H.out.row.fr HR.out.2 (by omega)).congr (m' := mulM c a b) fun x hx k _ => mulUp_done c a b hx k
      refine ⟨some ⟨g, 0, none⟩, r * d, rfl, Nat.le_refl _, ?_, ?_, ?_⟩
      · exact Nw.of_own (Own.down (Own.fr hw (put_fr (k := D) _) (fun g' e1 e2 => by injection e1 with e1; have := congrArg Addr.block e1; dsimp only at this; omega)) (by omega))
      · exact (H.out.fld.fr HR.out.2 (by omega)).fr (put_fr (k := D) _) (by omega)
      · exact (H.out.fr.trans HR.out.2 fun k hk e => absurd hk (by omega)).trans (put_fr (k := D) _) fun k hk e => absurd hk (by omega)
set_option maxRecDepth 100000 in
set_option maxHeartbeats 8000000 in
theorem mul_ok1 (w : World) (p : Nat) (hp : Fld w p) (r c d : Nat) (A A' : Option Addr) (n cap n' cap' : Nat) (a b : M) (hrt : rightB r c n = true) (hrt2 : rightB c d n' = true) (hrd : r ≤ 100 ∧ c ≤ 100 ∧ d ≤ 100) (hcap : n ≤ cap ∧ n' ≤ cap') (hA : In w p A (flat r c a)) (hB : In w p A' (flat c d b)) (hz : 0 < r) :
    Calls Try.prog 18 #[fptr (some p), .agg #[.int .i64 (r : Int), .int .i64 (c : Int), .slice A n cap], .agg #[.int .i64 (c : Int), .int .i64 (d : Int), .slice A' n' cap']] w (NewF w p r d (mulM c a b)) := by
  have hn : n = r * c := by obtain ⟨r', c', e1, e2, _, _, e⟩ := right_nat hrt; rw [e, Int.ofNat.inj e1, Int.ofNat.inj e2]
  have hn' : n' = c * d := by obtain ⟨r', c', e1, e2, _, _, e⟩ := right_nat hrt2; rw [e, Int.ofNat.inj e1, Int.ofNat.inj e2]
  have hl : (n : Int) ≤ 1000000000 ∧ (n' : Int) ≤ 1000000000 ∧ ((r * d : Nat) : Int) ≤ 1000000000 := by
    have k1 : r * c ≤ 100 * 100 := Nat.mul_le_mul hrd.1 hrd.2.1
    have k2 : c * d ≤ 100 * 100 := Nat.mul_le_mul hrd.2.1 hrd.2.2
    have k3 : r * d ≤ 100 * 100 := Nat.mul_le_mul hrd.1 hrd.2.2
    omega
  have hpw := hp.lt
  have hr0 : ¬ r = 0 := by omega
  have hr1 : (0 : Int) < (r : Int) := by omega
  obtain ⟨q, hq⟩ : ∃ q, IntKind.i64.wrap ((16777216 : Int).tdiv (r : Int)) = q := ⟨_, rfl⟩
  have hdv : decide (q < (d : Int)) = false := by
    refine decide_eq_false ?_
    have h1 : (16777216 : Int) / (r : Int) ≥ 100 := Int.le_ediv_of_mul_le hr1 (by omega)
    have h2 : (16777216 : Int) / (r : Int) ≤ 16777216 := Int.ediv_le_self _ (by decide)
    rw [Int.tdiv_eq_ediv_of_nonneg (by decide), IntWalk.i64_in _ (by omega)] at hq
    omega
  have HDV := Lib.hid (And.intro hr0 (And.intro hz (And.intro hq hdv)))
  refine of_wide ?_
  refine callsIn_of_wp_marks Try.func18 rfl trivial ?_ rfl
  refine wpIn_wide.2 ?_
  simp only [Try.ntmps18, List.size_toArray, List.length_cons, List.length_nil, Nat.reduceAdd, Nat.reduceSub, Array.replicate_succ, Array.replicate_zero, List.push_toArray, List.append_toArray, List.nil_append, List.cons_append]
  obtain ⟨w1, h1, hw1⟩ := mulP_start w p #[.int .i64 (r : Int), .int .i64 (c : Int), .slice A n cap] #[.int .i64 (c : Int), .int .i64 (d : Int), .slice A' n' cap']
  obtain ⟨gf, hgf⟩ : ∃ x, w.heap.size = x := ⟨_, rfl⟩
  rw [hgf] at h1
  have HW1 := Lib.hid (show (((w.alloc (.cells #[fptr (some p)] 24)).alloc (.cells #[.int .i64 (r : Int), .int .i64 (c : Int), .slice A n cap] 27)).alloc (.cells #[.int .i64 (c : Int), .int .i64 (d : Int), .slice A' n' cap'] 27)).alloc (.cells #[.int .i64 0, .int .i64 0, .slice none 0 0] 27) = w1 from hw1)
  have H1 := Lib.hid h1
  have HG := Lib.hid hgf
  have HP := Lib.hid hp
  have HRT := Lib.hid hrt
  have HRT2 := Lib.hid hrt2
  have HRD := Lib.hid hrd
  have HCAP := Lib.hid hcap
  have HAA := Lib.hid hA
  have HBB := Lib.hid hB
  have HN := Lib.hid hn
  have HN2 := Lib.hid hn'
  have HL := Lib.hid hl
  have HPW := Lib.hid hpw
  clear h1 hw1 hgf hp hrt hrt2 hrd hcap hA hB hn hn' hl hpw hr0 hr1 hdv hz hq
  go_wp2_with fail
  rw [HW1.out, HG.out]
  --HELD mulo1
  refine wp_region_noPanic ?_
  refine wp_heldG (fun w' => Below w1.heap.size w1 w') [] (by kernel_rfl) ?hs0 ?rg0
  case hs0 =>
    exact nextN (Mem.start w1) 1
  case rg0 =>
  intro hHeld
  refine wpAnyG_take (i := 0) (oi := { dst := some 13, op := Op.load 27 (Operand.tmp 4), type := 27, pos := _, after := #[], guard := none }) (v := ?_) rfl (by kernel_rfl) (by kernel_rfl) (by kernel_rfl) (by kernel_rfl) (fun _ _ _ h => h) (Or.inl ⟨by rfl, ?_⟩) (by assumption) ?_
  rotate_left
  · intro w hSw
    try dsimp only at hSw
    obtain ⟨⟨c0, c1, c2⟩, _⟩ := cells3 (H1.out.a.keep hSw)
    go_simp
    try with_reducible rfl
  try simp only [Act.put, List.setIfInBounds_toArray, List.set_cons_zero, List.set_cons_succ]
  refine wpAnyG_one (i := 1) (o := { dst := some 14, op := Op.call { callee := Callee.value (Operand.func 26), args := #[Operand.tmp 13], argTypes := #[27] }, type := 4, pos := _, after := #[{ on := 0, ground := Ground.data }], guard := none }) (by kernel_rfl) rfl (fun K hK => ?_)
  go_simp
  refine (right_any _ _ _ A n cap).mono ?_
  rintro e wA ⟨rfl, hb⟩
  rw [HRT.out]
  have HA := Lib.hid (next hHeld hb)
  try dsimp only
  refine hK.out _ _ ?_ (fun hHeld => ?_)
  · intro _
    try dsimp only
    exact HA.out
  clear hK K
  try simp only [Act.put, List.setIfInBounds_toArray, List.set_cons_zero, List.set_cons_succ]
  have hHeld := hHeld (by kernel_rfl)
  refine wpAnyG_pure (i := 2) (oi := { dst := some 15, op := Op.unOp UnOp.not 4 (Operand.tmp 14), type := 4, pos := _, after := #[{ on := 1, ground := Ground.data }], guard := none }) (v := ?_) rfl (by kernel_rfl) (by kernel_rfl) (by kernel_rfl) (by kernel_rfl) (fun _ _ _ h => h) (Or.inl ⟨by rfl, ?_⟩) (fun _ => by assumption) ?_
  rotate_left
  · intro w hSw
    try dsimp only at hSw
    go_simp
    try with_reducible rfl
  try simp only [Act.put, List.setIfInBounds_toArray, List.set_cons_zero, List.set_cons_succ]
  refine wpAnyG_pure (i := 3) (oi := { dst := some 16, op := Op.move (Operand.tmp 15), type := 4, pos := _, after := #[{ on := 2, ground := Ground.data }, { on := 1, ground := Ground.chain }], guard := none }) (v := ?_) rfl (by kernel_rfl) (by kernel_rfl) (by kernel_rfl) (by kernel_rfl) (fun _ _ _ h => h) (Or.inl ⟨by rfl, ?_⟩) (fun _ => by assumption) ?_
  rotate_left
  · intro w hSw
    try dsimp only at hSw
    go_simp
    try with_reducible rfl
  try simp only [Act.put, List.setIfInBounds_toArray, List.set_cons_zero, List.set_cons_succ]
  refine wpAnyG_take (i := 4) (oi := { dst := some 17, op := Op.load 27 (Operand.tmp 5), type := 27, pos := _, after := #[{ on := 3, ground := Ground.guard }], guard := some (3, false) }) (v := ?_) rfl (by kernel_rfl) (by kernel_rfl) (by kernel_rfl) (by kernel_rfl) (fun _ _ _ h => h) (Or.inl ⟨by rfl, ?_⟩) (by assumption) ?_
  rotate_left
  · intro w hSw
    try dsimp only at hSw
    obtain ⟨⟨c0, c1, c2⟩, _⟩ := cells3 (H1.out.b.keep hSw)
    go_simp
    try with_reducible rfl
  try simp only [Act.put, List.setIfInBounds_toArray, List.set_cons_zero, List.set_cons_succ]
  refine wpAnyG_one (i := 5) (o := { dst := some 18, op := Op.call { callee := Callee.value (Operand.func 26), args := #[Operand.tmp 17], argTypes := #[27] }, type := 4, pos := _, after := #[{ on := 4, ground := Ground.data }, { on := 3, ground := Ground.chain }, { on := 3, ground := Ground.guard }], guard := some (3, false) }) (by kernel_rfl) rfl (fun K hK => ?_)
  go_simp
  refine (right_any _ _ _ A' n' cap').mono ?_
  rintro e wB ⟨rfl, hb⟩
  rw [HRT2.out]
  have HB := Lib.hid (next hHeld hb)
  try dsimp only
  refine hK.out _ _ ?_ (fun hHeld => ?_)
  · intro _
    try dsimp only
    exact HB.out
  clear hK K
  try simp only [Act.put, List.setIfInBounds_toArray, List.set_cons_zero, List.set_cons_succ]
  have hHeld := hHeld (by kernel_rfl)
  refine wpAnyG_pure (i := 6) (oi := { dst := some 19, op := Op.unOp UnOp.not 4 (Operand.tmp 18), type := 4, pos := _, after := #[{ on := 5, ground := Ground.data }, { on := 3, ground := Ground.guard }], guard := some (3, false) }) (v := ?_) rfl (by kernel_rfl) (by kernel_rfl) (by kernel_rfl) (by kernel_rfl) (fun _ _ _ h => h) (Or.inl ⟨by rfl, ?_⟩) (fun _ => by assumption) ?_
  rotate_left
  · intro w hSw
    try dsimp only at hSw
    go_simp
    try with_reducible rfl
  try simp only [Act.put, List.setIfInBounds_toArray, List.set_cons_zero, List.set_cons_succ]
  refine wpAnyG_pure (i := 7) (oi := { dst := some 20, op := Op.pick (Operand.tmp 16) (Operand.const (Value.bool true)) (Operand.tmp 19), type := 4, pos := _, after := #[{ on := 3, ground := Ground.data }, { on := 6, ground := Ground.data }], guard := none }) (v := ?_) rfl (by kernel_rfl) (by kernel_rfl) (by kernel_rfl) (by kernel_rfl) (fun _ _ _ h => h) (Or.inl ⟨by rfl, ?_⟩) (fun _ => by assumption) ?_
  rotate_left
  · intro w hSw
    try dsimp only at hSw
    go_simp
    try with_reducible rfl
  try simp only [Act.put, List.setIfInBounds_toArray, List.set_cons_zero, List.set_cons_succ]
  refine wpAnyG_pure (i := 8) (oi := { dst := some 21, op := Op.move (Operand.tmp 20), type := 4, pos := _, after := #[{ on := 7, ground := Ground.data }, { on := 5, ground := Ground.chain }], guard := none }) (v := ?_) rfl (by kernel_rfl) (by kernel_rfl) (by kernel_rfl) (by kernel_rfl) (fun _ _ _ h => h) (Or.inl ⟨by rfl, ?_⟩) (fun _ => by assumption) ?_
  rotate_left
  · intro w hSw
    try dsimp only at hSw
    go_simp
    try with_reducible rfl
  try simp only [Act.put, List.setIfInBounds_toArray, List.set_cons_zero, List.set_cons_succ]
  refine wpAnyG_pure (i := 9) (oi := { dst := some 22, op := Op.fieldAddr 27 (Operand.tmp 4) 1, type := 0, pos := _, after := #[{ on := 8, ground := Ground.guard }], guard := some (8, false) }) (v := ?_) rfl (by kernel_rfl) (by kernel_rfl) (by kernel_rfl) (by kernel_rfl) (fun _ _ _ h => h) (Or.inl ⟨by rfl, ?_⟩) (fun _ => by assumption) ?_
  rotate_left
  · intro w hSw
    try dsimp only at hSw
    go_simp
    try with_reducible rfl
  try simp only [Act.put, List.setIfInBounds_toArray, List.set_cons_zero, List.set_cons_succ]
  refine wpAnyG_take (i := 10) (oi := { dst := some 23, op := Op.load 3 (Operand.tmp 22), type := 3, pos := _, after := #[{ on := 9, ground := Ground.data }, { on := 8, ground := Ground.guard }], guard := some (8, false) }) (v := ?_) rfl (by kernel_rfl) (by kernel_rfl) (by kernel_rfl) (by kernel_rfl) (fun _ _ _ h => h) (Or.inl ⟨by rfl, ?_⟩) (by assumption) ?_
  rotate_left
  · intro w hSw
    try dsimp only at hSw
    obtain ⟨⟨c0, c1, c2⟩, _⟩ := cells3 (H1.out.a.keep hSw)
    go_simp
    try with_reducible rfl
  try simp only [Act.put, List.setIfInBounds_toArray, List.set_cons_zero, List.set_cons_succ]
  refine wpAnyG_pure (i := 11) (oi := { dst := some 24, op := Op.fieldAddr 27 (Operand.tmp 5) 0, type := 0, pos := _, after := #[{ on := 8, ground := Ground.guard }], guard := some (8, false) }) (v := ?_) rfl (by kernel_rfl) (by kernel_rfl) (by kernel_rfl) (by kernel_rfl) (fun _ _ _ h => h) (Or.inl ⟨by rfl, ?_⟩) (fun _ => by assumption) ?_
  rotate_left
  · intro w hSw
    try dsimp only at hSw
    go_simp
    try with_reducible rfl
  try simp only [Act.put, List.setIfInBounds_toArray, List.set_cons_zero, List.set_cons_succ]
  refine wpAnyG_take (i := 12) (oi := { dst := some 25, op := Op.load 3 (Operand.tmp 24), type := 3, pos := _, after := #[{ on := 11, ground := Ground.data }, { on := 8, ground := Ground.guard }], guard := some (8, false) }) (v := ?_) rfl (by kernel_rfl) (by kernel_rfl) (by kernel_rfl) (by kernel_rfl) (fun _ _ _ h => h) (Or.inl ⟨by rfl, ?_⟩) (by assumption) ?_
  rotate_left
  · intro w hSw
    try dsimp only at hSw
    obtain ⟨⟨c0, c1, c2⟩, _⟩ := cells3 (H1.out.b.keep hSw)
    go_simp
    try with_reducible rfl
  try simp only [Act.put, List.setIfInBounds_toArray, List.set_cons_zero, List.set_cons_succ]
  refine wpAnyG_pure (i := 13) (oi := { dst := some 26, op := Op.binOp BinOp.neq 3 (Operand.tmp 23) (Operand.tmp 25) 3, type := 4, pos := _, after := #[{ on := 10, ground := Ground.data }, { on := 12, ground := Ground.data }, { on := 8, ground := Ground.guard }], guard := some (8, false) }) (v := ?_) rfl (by kernel_rfl) (by kernel_rfl) (by kernel_rfl) (by kernel_rfl) (fun _ _ _ h => h) (Or.inl ⟨by rfl, ?_⟩) (fun _ => by assumption) ?_
  rotate_left
  · intro w hSw
    try dsimp only at hSw
    go_simp
    try with_reducible rfl
  try simp only [Act.put, List.setIfInBounds_toArray, List.set_cons_zero, List.set_cons_succ]
  refine wpAnyG_pure (i := 14) (oi := { dst := some 27, op := Op.pick (Operand.tmp 21) (Operand.const (Value.bool true)) (Operand.tmp 26), type := 4, pos := _, after := #[{ on := 8, ground := Ground.data }, { on := 13, ground := Ground.data }], guard := none }) (v := ?_) rfl (by kernel_rfl) (by kernel_rfl) (by kernel_rfl) (by kernel_rfl) (fun _ _ _ h => h) (Or.inl ⟨by rfl, ?_⟩) (fun _ => by assumption) ?_
  rotate_left
  · intro w hSw
    try dsimp only at hSw
    go_simp
    try with_reducible rfl
  try simp only [Act.put, List.setIfInBounds_toArray, List.set_cons_zero, List.set_cons_succ]
  refine wpAnyG_pure (i := 15) (oi := { dst := some 28, op := Op.move (Operand.tmp 27), type := 4, pos := _, after := #[{ on := 14, ground := Ground.data }, { on := 8, ground := Ground.chain }], guard := none }) (v := ?_) rfl (by kernel_rfl) (by kernel_rfl) (by kernel_rfl) (by kernel_rfl) (fun _ _ _ h => h) (Or.inl ⟨by rfl, ?_⟩) (fun _ => by assumption) ?_
  rotate_left
  · intro w hSw
    try dsimp only at hSw
    go_simp
    try with_reducible rfl
  try simp only [Act.put, List.setIfInBounds_toArray, List.set_cons_zero, List.set_cons_succ]
  refine wpAnyG_pure (i := 16) (oi := { dst := some 29, op := Op.fieldAddr 27 (Operand.tmp 4) 0, type := 0, pos := _, after := #[{ on := 15, ground := Ground.guard }], guard := some (15, false) }) (v := ?_) rfl (by kernel_rfl) (by kernel_rfl) (by kernel_rfl) (by kernel_rfl) (fun _ _ _ h => h) (Or.inl ⟨by rfl, ?_⟩) (fun _ => by assumption) ?_
  rotate_left
  · intro w hSw
    try dsimp only at hSw
    go_simp
    try with_reducible rfl
  try simp only [Act.put, List.setIfInBounds_toArray, List.set_cons_zero, List.set_cons_succ]
  refine wpAnyG_take (i := 17) (oi := { dst := some 30, op := Op.load 3 (Operand.tmp 29), type := 3, pos := _, after := #[{ on := 16, ground := Ground.data }, { on := 15, ground := Ground.guard }], guard := some (15, false) }) (v := ?_) rfl (by kernel_rfl) (by kernel_rfl) (by kernel_rfl) (by kernel_rfl) (fun _ _ _ h => h) (Or.inl ⟨by rfl, ?_⟩) (by assumption) ?_
  rotate_left
  · intro w hSw
    try dsimp only at hSw
    obtain ⟨⟨c0, c1, c2⟩, _⟩ := cells3 (H1.out.a.keep hSw)
    go_simp
    try with_reducible rfl
  try simp only [Act.put, List.setIfInBounds_toArray, List.set_cons_zero, List.set_cons_succ]
  refine wpAnyG_pure (i := 18) (oi := { dst := some 31, op := Op.binOp BinOp.gtr 3 (Operand.tmp 30) (Operand.const (Value.int IntKind.i64 0)) 3, type := 4, pos := _, after := #[{ on := 17, ground := Ground.data }, { on := 15, ground := Ground.guard }], guard := some (15, false) }) (v := ?_) rfl (by kernel_rfl) (by kernel_rfl) (by kernel_rfl) (by kernel_rfl) (fun _ _ _ h => h) (Or.inl ⟨by rfl, ?_⟩) (fun _ => by assumption) ?_
  rotate_left
  · intro w hSw
    try dsimp only at hSw
    obtain ⟨hr0, hrz, hqq, hdv⟩ := HDV.out
    go_simp
    try with_reducible rfl
  try simp only [Act.put, List.setIfInBounds_toArray, List.set_cons_zero, List.set_cons_succ]
  refine wpAnyG_pure (i := 19) (oi := { dst := some 32, op := Op.move (Operand.tmp 31), type := 4, pos := _, after := #[{ on := 18, ground := Ground.data }, { on := 15, ground := Ground.chain }, { on := 15, ground := Ground.guard }], guard := some (15, false) }) (v := ?_) rfl (by kernel_rfl) (by kernel_rfl) (by kernel_rfl) (by kernel_rfl) (fun _ _ _ h => h) (Or.inl ⟨by rfl, ?_⟩) (fun _ => by assumption) ?_
  rotate_left
  · intro w hSw
    try dsimp only at hSw
    go_simp
    try with_reducible rfl
  try simp only [Act.put, List.setIfInBounds_toArray, List.set_cons_zero, List.set_cons_succ]
  refine wpAnyG_pure (i := 20) (oi := { dst := some 33, op := Op.fieldAddr 27 (Operand.tmp 5) 1, type := 0, pos := _, after := #[{ on := 19, ground := Ground.guard }], guard := some (19, true) }) (v := ?_) rfl (by kernel_rfl) (by kernel_rfl) (by kernel_rfl) (by kernel_rfl) (fun _ _ _ h => h) (Or.inl ⟨by rfl, ?_⟩) (fun _ => by assumption) ?_
  rotate_left
  · intro w hSw
    try dsimp only at hSw
    go_simp
    try with_reducible rfl
  try simp only [Act.put, List.setIfInBounds_toArray, List.set_cons_zero, List.set_cons_succ]
  refine wpAnyG_take (i := 21) (oi := { dst := some 34, op := Op.load 3 (Operand.tmp 33), type := 3, pos := _, after := #[{ on := 20, ground := Ground.data }, { on := 19, ground := Ground.guard }], guard := some (19, true) }) (v := ?_) rfl (by kernel_rfl) (by kernel_rfl) (by kernel_rfl) (by kernel_rfl) (fun _ _ _ h => h) (Or.inl ⟨by rfl, ?_⟩) (by assumption) ?_
  rotate_left
  · intro w hSw
    try dsimp only at hSw
    obtain ⟨⟨c0, c1, c2⟩, _⟩ := cells3 (H1.out.b.keep hSw)
    go_simp
    try with_reducible rfl
  try simp only [Act.put, List.setIfInBounds_toArray, List.set_cons_zero, List.set_cons_succ]
  refine wpAnyG_pure (i := 22) (oi := { dst := some 35, op := Op.fieldAddr 27 (Operand.tmp 4) 0, type := 0, pos := _, after := #[{ on := 19, ground := Ground.guard }], guard := some (19, true) }) (v := ?_) rfl (by kernel_rfl) (by kernel_rfl) (by kernel_rfl) (by kernel_rfl) (fun _ _ _ h => h) (Or.inl ⟨by rfl, ?_⟩) (fun _ => by assumption) ?_
  rotate_left
  · intro w hSw
    try dsimp only at hSw
    go_simp
    try with_reducible rfl
  try simp only [Act.put, List.setIfInBounds_toArray, List.set_cons_zero, List.set_cons_succ]
  refine wpAnyG_take (i := 23) (oi := { dst := some 36, op := Op.load 3 (Operand.tmp 35), type := 3, pos := _, after := #[{ on := 22, ground := Ground.data }, { on := 19, ground := Ground.guard }], guard := some (19, true) }) (v := ?_) rfl (by kernel_rfl) (by kernel_rfl) (by kernel_rfl) (by kernel_rfl) (fun _ _ _ h => h) (Or.inl ⟨by rfl, ?_⟩) (by assumption) ?_
  rotate_left
  · intro w hSw
    try dsimp only at hSw
    obtain ⟨⟨c0, c1, c2⟩, _⟩ := cells3 (H1.out.a.keep hSw)
    go_simp
    try with_reducible rfl
  try simp only [Act.put, List.setIfInBounds_toArray, List.set_cons_zero, List.set_cons_succ]
  refine wpAnyG_pure (i := 24) (oi := { dst := some 37, op := Op.binOp BinOp.quo 3 (Operand.const (Value.int IntKind.i64 16777216)) (Operand.tmp 36) 3, type := 3, pos := _, after := #[{ on := 23, ground := Ground.data }, { on := 19, ground := Ground.guard }], guard := some (19, true) }) (v := ?_) rfl (by kernel_rfl) (by kernel_rfl) (by kernel_rfl) (by kernel_rfl) (fun _ _ _ h => h) (Or.inl ⟨by rfl, ?_⟩) (fun _ => by assumption) ?_
  rotate_left
  · intro w hSw
    try dsimp only at hSw
    obtain ⟨hr0, hr1, hdv⟩ := HDV.out
    go_simp
    try with_reducible rfl
  try simp only [Act.put, List.setIfInBounds_toArray, List.set_cons_zero, List.set_cons_succ]
  refine wpAnyG_pure (i := 25) (oi := { dst := some 38, op := Op.binOp BinOp.gtr 3 (Operand.tmp 34) (Operand.tmp 37) 3, type := 4, pos := _, after := #[{ on := 21, ground := Ground.data }, { on := 24, ground := Ground.data }, { on := 19, ground := Ground.guard }], guard := some (19, true) }) (v := ?_) rfl (by kernel_rfl) (by kernel_rfl) (by kernel_rfl) (by kernel_rfl) (fun _ _ _ h => h) (Or.inl ⟨by rfl, ?_⟩) (fun _ => by assumption) ?_
  rotate_left
  · intro w hSw
    try dsimp only at hSw
    obtain ⟨hr0, hr1, hdv⟩ := HDV.out
    go_simp
    try with_reducible rfl
  try simp only [Act.put, List.setIfInBounds_toArray, List.set_cons_zero, List.set_cons_succ]
  refine wpAnyG_pure (i := 26) (oi := { dst := some 39, op := Op.pick (Operand.tmp 32) (Operand.tmp 38) (Operand.const (Value.bool false)), type := 4, pos := _, after := #[{ on := 19, ground := Ground.data }, { on := 25, ground := Ground.data }, { on := 15, ground := Ground.guard }], guard := some (15, false) }) (v := ?_) rfl (by kernel_rfl) (by kernel_rfl) (by kernel_rfl) (by kernel_rfl) (fun _ _ _ h => h) (Or.inl ⟨by rfl, ?_⟩) (fun _ => by assumption) ?_
  rotate_left
  · intro w hSw
    try dsimp only at hSw
    go_simp
    try with_reducible rfl
  try simp only [Act.put, List.setIfInBounds_toArray, List.set_cons_zero, List.set_cons_succ]
  refine wpAnyG_pure (i := 27) (oi := { dst := some 40, op := Op.pick (Operand.tmp 28) (Operand.const (Value.bool true)) (Operand.tmp 39), type := 4, pos := _, after := #[{ on := 15, ground := Ground.data }, { on := 26, ground := Ground.data }], guard := none }) (v := ?_) rfl (by kernel_rfl) (by kernel_rfl) (by kernel_rfl) (by kernel_rfl) (fun _ _ _ h => h) (Or.inl ⟨by rfl, ?_⟩) (fun _ => by assumption) ?_
  rotate_left
  · intro w hSw
    try dsimp only at hSw
    go_simp
    try with_reducible rfl
  try simp only [Act.put, List.setIfInBounds_toArray, List.set_cons_zero, List.set_cons_succ]
  refine wpAnyG_done (by kernel_rfl) ?_ _
  refine NoPanic.normal ?_
  --END mulo1
  have H2 := Lib.hid (H1.out.keep HB.out)
  obtain ⟨⟨a0, a1, a2⟩, _⟩ := cells3 H2.out.a
  obtain ⟨⟨b0, b1, b2⟩, _⟩ := cells3 H2.out.b
  go_wp2_with fail
  refine (none_any wB r d HL.out.2.2).mono ?_
  rintro e w3 ⟨g, rfl, ho, hb⟩
  have H3 := Lib.hid (And.intro (H2.out.keep hb) (show Wm w3 wB.heap.size g (r * d) r d (fun _ _ => 0) from ho))
  obtain ⟨w4, g4, h4, hw4, hg4⟩ := boxed w3 (mcells r d (some ⟨g, 0, none⟩) (r * d) (r * d))
  have HW4 := Lib.hid (show w3.alloc (.cells #[.int .i64 (r : Int), .int .i64 (d : Int), .slice (some ⟨g, 0, none⟩) (r * d) (r * d)] 27) = w4 from hw4)
  obtain ⟨⟨d0, d1, d2⟩, _⟩ := cells3 (H3.out.1.keep h4.1).a
  rw [← HW4.out] at d0 d1 d2
  have H4 := Lib.hid h4
  have HG4 := Lib.hid hg4
  clear ho hb h4 hw4 hg4 a0 a1 a2 b0 b1 b2
  go_wp2_with fail
  rw [HW4.out, HG4.out]
  refine (rows_any w4 _ _ _).mono ?_
  rintro e w5' ⟨rfl, rfl⟩
  obtain ⟨w5, bm, h5, hw5, hbm⟩ := boxed w4 (mcells r c A n cap)
  have HW5 := Lib.hid (show w4.alloc (.cells #[.int .i64 (r : Int), .int .i64 (c : Int), .slice A n cap] 27) = w5 from hw5)
  rw [HW5.out, hbm]
  have hap : w.heap.size = gf ∧ gf + 4 ≤ wB.heap.size ∧ wB.heap.size ≤ g ∧ g < g4 ∧ bm = g4 + 1 ∧ w5.heap.size = bm + 1 ∧ p < gf := by
    have k1 := H2.out.nums; have k3 := H3.out.2.form; have k4 := HG4.out; have k5 := H4.out.2.2; have k6 := h5.2.2; have k7 := HPW.out
    omega
  have HAP := Lib.hid hap
  have hP5 := (H3.out.1.keep H4.out.1).keep h5.1
  have HI0 := Lib.hid (show MulI w gf (gf + 1 + 1) (gf + 1 + 1 + 1) g4 p wB.heap.size g r c d A' n' cap' a b 0 0 w5 from ⟨Fr.quiet hP5.below, HP.out.keep hP5.below, hP5.f, hP5.b, hP5.res, H4.out.2.1.keep h5.1, ((H3.out.2.keep H4.out.1).keep h5.1).congr fun x _ k _ => (mulUp_start c a b x k).symm⟩)
  have H5 := Lib.hid h5
  clear hw5 h5 hap d0 d1 d2 hbm hP5
  go_wp2_with fail
  refine (wpIn_wide (n := 5)).1 ?_
  refine wpIn_rows bm r c A n cap rfl H5.out.2.1 (by have := HRD.out; omega) HN.out HL.out.1 HCAP.out.1 (fun k => k = g ∨ k = p) (by have := HAP.out; omega)
    (fun i W => MulI w gf (gf + 1 + 1) (gf + 1 + 1 + 1) g4 p wB.heap.size g r c d A' n' cap' a b i 0 W) ?hI HI0.out ?hround ?hdone
  case hI =>
    intro i W W' h hf
    have hap := HAP.out
    exact h.fr_ hf (fun k e => by omega) HPW.out ⟨by omega, by omega, by omega, by omega, by omega⟩
  case hround =>
    intro l i W hi hlt
    have HLT := Lib.hid hlt
    obtain ⟨X, hX⟩ : ∃ X, rowA A c i = X := ⟨_, rfl⟩
    rw [hX]
    have HX := Lib.hid hX
    clear hlt hi hX
    gi_wp2
    refine ⟨trivial, fun W2 hi2 => ?_⟩
    have H := Lib.hid hi2
    clear hi2
    gi_wp2
    gi_loopw [53] (fun x wr => ∃ j : Nat, x = .int .i64 (j : Int) ∧ j ≤ c ∧ MulI w gf (gf + 1 + 1) (gf + 1 + 1 + 1) g4 p wB.heap.size g r c d A' n' cap' a b i j wr ∧ Fr (fun k => k = g ∨ k = p) W2 wr) (fun x _ => c - (intOf x).toNat)
    case atStart => exact ⟨0, rfl, Nat.zero_le _, H.out, Fr.refl _ _⟩
    case round =>
      obtain ⟨j, rfl, hj, h1, h2⟩ := hrel
      by_cases hjc : j < c
      · obtain ⟨ab, off, hx, hab, _, hcs⟩ := row_at (HAA.out.field h1.fr).1 HLT.out (show 0 < c by omega)
        rw [HX.out] at hx
        subst hx
        have hji : (j : Int) < (c : Int) := by omega
        have hj0 : (0 : Int) ≤ (j : Int) := by omega
        have hj9 : (j : Int) ≤ 1000000 := by have := HRD.out; omega
        have hr1 := hcs j hjc
        have HJ := Lib.hid (And.intro h1 (And.intro h2 hjc))
        clear h1 h2 hj hjc hcs hab
        gi_wp2
        --HELD mulo1r
        refine wpIn_only ?_
        refine wpIn_heldG (fun w' => Blk w' gf 24 (fcellv p) ∧ Blk w' g4 27 (mcells r d (some ⟨g, 0, none⟩) (r * d) (r * d)) ∧ Blk w' (gf + 1 + 1) 27 (mcells c d A' n' cap')) [] (by kernel_rfl) (by kernel_rfl) (fun ⟨_, _, h⟩ => h) ?hs0 ?rg0
        case hs0 =>
          exact ⟨HJ.out.1.ff, HJ.out.1.var, HJ.out.1.mb⟩
        case rg0 =>
        intro hHeld
        refine wpAnyG_take (i := 0) (oi := { dst := some 58, op := Op.load 24 (Operand.tmp 3), type := 24, pos := _, after := #[], guard := none }) (v := ?_) rfl (by kernel_rfl) (by kernel_rfl) (by kernel_rfl) (by kernel_rfl) (fun _ _ _ h => h) (Or.inl ⟨by rfl, ?_⟩) (by assumption) ?_
        rotate_left
        · intro w hSw
          try dsimp only at hSw
          have c0 := hSw.1.cell 0
          simp only [fcellv, List.getElem?_toArray, List.getElem?_cons_zero] at c0
          go_simp
          try with_reducible rfl
        try simp only [Act.put, List.setIfInBounds_toArray, List.set_cons_zero, List.set_cons_succ]
        refine wpAnyG_take (i := 1) (oi := { dst := some 59, op := Op.load 27 (Operand.tmp 8), type := 27, pos := _, after := #[], guard := none }) (v := ?_) rfl (by kernel_rfl) (by kernel_rfl) (by kernel_rfl) (by kernel_rfl) (fun _ _ _ h => h) (Or.inl ⟨by rfl, ?_⟩) (by assumption) ?_
        rotate_left
        · intro w hSw
          try dsimp only at hSw
          obtain ⟨⟨c0, c1, c2⟩, _⟩ := cells3 hSw.2.1
          go_simp
          try with_reducible rfl
        try simp only [Act.put, List.setIfInBounds_toArray, List.set_cons_zero, List.set_cons_succ]
        refine wpAnyG_pure (i := 2) (oi := { dst := some 60, op := Op.move (Operand.tmp 9), type := 3, pos := _, after := #[], guard := none }) (v := ?_) rfl (by kernel_rfl) (by kernel_rfl) (by kernel_rfl) (by kernel_rfl) (fun _ _ _ h => h) (Or.inl ⟨by rfl, ?_⟩) (fun _ => by assumption) ?_
        rotate_left
        · intro w hSw
          try dsimp only at hSw
          go_simp
          try with_reducible rfl
        try simp only [Act.put, List.setIfInBounds_toArray, List.set_cons_zero, List.set_cons_succ]
        refine wpAnyG_take (i := 4) (oi := { dst := some 62, op := Op.load 27 (Operand.tmp 5), type := 27, pos := _, after := #[], guard := none }) (v := ?_) rfl (by kernel_rfl) (by kernel_rfl) (by kernel_rfl) (by kernel_rfl) (fun _ _ _ h => h) (Or.inl ⟨by rfl, ?_⟩) (by assumption) ?_
        rotate_left
        · intro w hSw
          try dsimp only at hSw
          obtain ⟨⟨c0, c1, c2⟩, _⟩ := cells3 hSw.2.2
          go_simp
          try with_reducible rfl
        try simp only [Act.put, List.setIfInBounds_toArray, List.set_cons_zero, List.set_cons_succ]
        refine wpAnyG_pure (i := 5) (oi := { dst := some 63, op := Op.move (Operand.tmp 11), type := 3, pos := _, after := #[], guard := none }) (v := ?_) rfl (by kernel_rfl) (by kernel_rfl) (by kernel_rfl) (by kernel_rfl) (fun _ _ _ h => h) (Or.inl ⟨by rfl, ?_⟩) (fun _ => by assumption) ?_
        rotate_left
        · intro w hSw
          try dsimp only at hSw
          go_simp
          try with_reducible rfl
        try simp only [Act.put, List.setIfInBounds_toArray, List.set_cons_zero, List.set_cons_succ]
        refine wpAnyG_pure (i := 7) (oi := { dst := some 65, op := Op.move (Operand.tmp 12), type := 5, pos := _, after := #[], guard := none }) (v := ?_) rfl (by kernel_rfl) (by kernel_rfl) (by kernel_rfl) (by kernel_rfl) (fun _ _ _ h => h) (Or.inl ⟨by rfl, ?_⟩) (fun _ => by assumption) ?_
        rotate_left
        · intro w hSw
          try dsimp only at hSw
          go_simp
          try with_reducible rfl
        try simp only [Act.put, List.setIfInBounds_toArray, List.set_cons_zero, List.set_cons_succ]
        refine wpAnyG_one (i := 3) (o := { dst := some 61, op := Op.call { callee := Callee.value (Operand.func 49), args := #[Operand.tmp 59, Operand.tmp 60], argTypes := #[27, 3] }, type := 22, pos := _, after := #[{ on := 1, ground := Ground.data }, { on := 2, ground := Ground.data }], guard := none }) (by kernel_rfl) rfl (fun K hK => ?_)
        go_simp
        refine (row_any _ r d i (some ⟨g, 0, none⟩) (r * d) (r * d) HLT.out (by have := HRD.out; omega) rfl HL.out.2.2 (Nat.le_refl _)).mono ?_
        rintro e w6 ⟨rfl, hb⟩
        have H6 := Lib.hid (next (nextN (Mem.start wr) 1) hb)
        try dsimp only
        refine hK.out _ _ ?_ (fun hHeld => ?_)
        · intro _
          try dsimp only
          exact ⟨hHeld.1.keep hb, hHeld.2.1.keep hb, hHeld.2.2.keep hb⟩
        clear hK K
        try simp only [Act.put, List.setIfInBounds_toArray, List.set_cons_zero, List.set_cons_succ]
        have hHeld := hHeld (by kernel_rfl)
        refine wpAnyG_one (i := 6) (o := { dst := some 64, op := Op.call { callee := Callee.value (Operand.func 49), args := #[Operand.tmp 62, Operand.tmp 63], argTypes := #[27, 3] }, type := 22, pos := _, after := #[{ on := 4, ground := Ground.data }, { on := 5, ground := Ground.data }, { on := 3, ground := Ground.chain }], guard := none }) (by kernel_rfl) rfl (fun K hK => ?_)
        clear hb
        go_simp
        refine (row_any _ c d j A' n' cap' HJ.out.2.2 (by have := HRD.out; omega) HN2.out HL.out.2.1 HCAP.out.2).mono ?_
        rintro e w7 ⟨rfl, hb⟩
        have H7 := Lib.hid (HJ.out.1.keep HPW.out (next H6.out hb))
        have H7F := Lib.hid (next H6.out hb)
        try dsimp only
        refine hK.out _ _ ?_ (fun hHeld => ?_)
        · intro _
          try dsimp only
          exact ⟨hHeld.1.keep hb, hHeld.2.1.keep hb, hHeld.2.2.keep hb⟩
        clear hK K
        try simp only [Act.put, List.setIfInBounds_toArray, List.set_cons_zero, List.set_cons_succ]
        have hHeld := hHeld (by kernel_rfl)
        refine wpAnyG_one (i := 8) (o := { dst := some 66, op := Op.call { callee := Callee.value (Operand.func 48), args := #[Operand.tmp 58, Operand.tmp 61, Operand.tmp 64, Operand.tmp 65], argTypes := #[24, 22, 22, 5] }, type := 0, pos := _, after := #[{ on := 0, ground := Ground.data }, { on := 3, ground := Ground.data }, { on := 6, ground := Ground.data }, { on := 7, ground := Ground.data }, { on := 6, ground := Ground.chain }], guard := none }) (by kernel_rfl) rfl (fun K hK => ?_)
        clear hb
        go_simp
        refine (more_row w7 p H7.out.fld wB.heap.size g (r * d) r d _ H7.out.row i HLT.out HL.out.2.2 (by have := HAP.out; omega) (rowA A' d j) d (b j) (fun hd => rd_of HBB.out H7.out.fr HJ.out.2.2 (by have := HAP.out; omega) hd) (a i j) d).mono ?_
        rintro e w8 ⟨rfl, hw8, hf8, hfr8⟩
        have hap := HAP.out
        have H8 := Lib.hid (And.intro (H7.out.more hfr8 hf8 hw8 (by omega) (by omega)) ((HJ.out.2.1.trans (Fr.quiet (S := fun k => k = g ∨ k = p) H7F.out) fun _ _ h => h).trans hfr8 fun _ _ h => h))
        clear hw8 hf8 hfr8 hap
        try dsimp only
        refine hK.out _ _ ?_ (fun hHeld => ?_)
        · intro _
          try dsimp only
          exact ⟨H8.out.1.ff, H8.out.1.var, H8.out.1.mb⟩
        clear hK K
        try simp only [Act.put, List.setIfInBounds_toArray, List.set_cons_zero, List.set_cons_succ]
        have hHeld := hHeld (by kernel_rfl)
        refine wpAnyG_done (by kernel_rfl) ?_ _
        refine onlyN_end ?_
        --END mulo1r
        gi_wp2
        go_roundw
        case rel => exact ⟨j + 1, by simp, HJ.out.2.2, H8.out.1, H8.out.2⟩
        case measure => simp [intOf]; omega
      · obtain rfl : j = c := by omega
        have HJ := Lib.hid (And.intro h1 h2)
        clear h1 h2 hj
        gi_wp2
        exact ⟨HJ.out.2, HJ.out.1.congr fun x _ k _ => mulUp_next j a b i x k⟩
  case hdone =>
    intro D W hD hi hK
    have H := Lib.hid hi
    have HK := Lib.hid (And.intro hD hK)
    obtain ⟨⟨c0, c1, c2⟩, _⟩ := cells3 hi.var
    obtain ⟨⟨d0, d1, d2⟩, f0, f1, f2⟩ := cells3 hi.res
    obtain ⟨W3, hW3⟩ : ∃ x : World, ((W.setCell ⟨gf + 1 + 1 + 1, 0, none⟩ (.int .i64 (r : Int))).setCell ⟨gf + 1 + 1 + 1, 1, none⟩ (.int .i64 (d : Int))).setCell ⟨gf + 1 + 1 + 1, 2, none⟩ (.slice (some ⟨g, 0, none⟩) (r * d) (r * d)) = x := ⟨_, rfl⟩
    have h3 := set3 hi.res (.int .i64 (r : Int)) (.int .i64 (d : Int)) (.slice (some ⟨g, 0, none⟩) (r * d) (r * d))
    rw [hW3] at h3
    have HW3 := Lib.hid hW3
    have HR := Lib.hid h3
    clear hi hK hD h3 hW3
    go_wp2_with fail
    rw [HW3.out]
    have hap := HAP.out
    have hd := HK.out.1
    have hKD : W3.heap[D]? = some (.deferred (some [])) := by
      have h1 := (Array.getElem?_eq_some_iff.1 HK.out.2).1
      rw [HR.out.2.block D h1 (by omega)]; exact HK.out.2
    have hst := shut_still (B := 0) (.deferred none) hKD rfl (Nat.zero_le _)
    obtain ⟨⟨e0, e1, e2⟩, _⟩ := cells3 (hst.blk HR.out.1)
    refine ⟨by simp, .inl ⟨_, _, rfl, run_takeDeferred hKD, ?_⟩⟩
    refine ⟨.tuple #[.agg #[.int .i64 (r : Int), .int .i64 (d : Int), .slice (some ⟨g, 0, none⟩) (r * d) (r * d)], .int .i64 0], ?_, ?_⟩
    · simp [results, Try.results18, go_sem, e0, e1, e2]
    · have hw := (H.out.row.fr HR.out.2 (by omega)).congr (m' := mulM c a b) fun x hx k _ => mulUp_done c a b hx k
      refine ⟨some ⟨g, 0, none⟩, r * d, rfl, Nat.le_refl _, ?_, ?_, ?_⟩
      · exact Nw.of_own (Own.down (Own.fr hw (put_fr (k := D) _) (fun g' e1 e2 => by injection e1 with e1; have := congrArg Addr.block e1; dsimp only at this; omega)) (by omega))
      · exact (H.out.fld.fr HR.out.2 (by omega)).fr (put_fr (k := D) _) (by omega)
      · exact (H.out.fr.trans HR.out.2 fun k hk e => absurd hk (by omega)).trans (put_fr (k := D) _) fun k hk e => absurd hk (by omega)
/-- Does Mul refuse? -/
def mulB (R C : Int) (n : Nat) (R' C' : Int) (n' : Nat) : Bool := rightB R C n && rightB R' C' n' && C == R'
theorem mul_bad (w : World) (p : Nat) (R C R' C' : Int) (A A' : Option Addr) (n cap n' cap' : Nat) (h : mulB R C n R' C' n' = false) :
    Calls Try.prog 18 #[fptr (some p), .agg #[.int .i64 R, .int .i64 C, .slice A n cap], .agg #[.int .i64 R', .int .i64 C', .slice A' n' cap']] w (ErrM w 50) := by
  cases h1 : rightB R C n with
  | false => exact mul_bad1 w p R C R' C' A A' n cap n' cap' h1
  | true =>
    cases h2 : rightB R' C' n' with
    | false => exact mul_bad2 w p R C R' C' A A' n cap n' cap' h1 h2
    | true =>
      refine mul_bad3 w p R C R' C' A A' n cap n' cap' h1 h2 ?_
      unfold mulB at h
      rw [h1, h2] at h
      simpa using h
theorem mul_ok (w : World) (p : Nat) (hp : Fld w p) (r c d : Nat) (A A' : Option Addr) (n cap n' cap' : Nat) (a b : M) (hrt : rightB r c n = true) (hrt2 : rightB c d n' = true) (hrd : r ≤ 100 ∧ c ≤ 100 ∧ d ≤ 100) (hcap : n ≤ cap ∧ n' ≤ cap') (hA : In w p A (flat r c a)) (hB : In w p A' (flat c d b)) :
    Calls Try.prog 18 #[fptr (some p), .agg #[.int .i64 (r : Int), .int .i64 (c : Int), .slice A n cap], .agg #[.int .i64 (c : Int), .int .i64 (d : Int), .slice A' n' cap']] w (NewF w p r d (mulM c a b)) := by
  rcases Nat.eq_zero_or_pos r with h | h
  · exact mul_ok0 w p hp r c d A A' n cap n' cap' a b hrt hrt2 hrd hcap hA hB h
  · exact mul_ok1 w p hp r c d A A' n cap n' cap' a b hrt hrt2 hrd hcap hA hB h
end Go.Proofs.Ythdapoipfnnaeaa.MxW
/- The reduced form of a matrix, plain. -/
namespace Go.Proofs.Ythdapoipfnnaeaa.Mx
open Gf
set_option linter.unusedVariables false

/-- The first row from one on whose entry in a column is not nought; r: there is none. -/
def findP (A : M) (r k : Nat) : Nat → Nat → Nat
  | 0, i => i
  | n + 1, i => if i < r ∧ A i k = 0 then findP A r k n (i + 1) else i
def find (A : M) (r k i : Nat) : Nat := findP A r k (r - i) i
def swapM (A : M) (a b : Nat) : M := fun i k => if i = a then A b k else if i = b then A a k else A i k
def scaleM (A : M) (a : Nat) (v : UInt8) : M := fun i k => if i = a then mul (A i k) v else A i k
/-- Row a, times t i, added to each other row i. -/
def elim (t : Nat → UInt8) (A : M) (a : Nat) : M := fun i k => if i = a then A i k else A i k ^^^ mul (A a k) (t i)
/-- One column's step, on the matrix that is reduced (its column cc) and on any matrix. -/
def pivA (A : M) (at_ from_ cc : Nat) : M := scaleM (swapM A at_ from_) at_ (inv (A from_ cc))
def pivB (A B : M) (at_ from_ cc : Nat) : M := scaleM (swapM B at_ from_) at_ (inv (A from_ cc))
def stepX (A X : M) (at_ from_ cc : Nat) : M := elim (fun i => pivA A at_ from_ cc i cc) (pivB A X at_ from_ cc) at_
structure RS where
  at_ : Nat
  A : M
  B : M
def redStep (r cc : Nat) (s : RS) : RS := if find s.A r cc s.at_ < r then ⟨s.at_ + 1, stepX s.A s.A s.at_ (find s.A r cc s.at_) cc, stepX s.A s.B s.at_ (find s.A r cc s.at_) cc⟩ else s
/-- Behind so many columns. -/
def redTo (r : Nat) (A B : M) : Nat → RS
  | 0 => ⟨0, A, B⟩
  | n + 1 => redStep r n (redTo r A B n)
section
variable {A B : M} {r k i j : Nat}
theorem findP_ge : ∀ (n i : Nat), i ≤ findP A r k n i
  | 0, i => Nat.le_refl _
  | n + 1, i => by
    unfold findP
    by_cases h : i < r ∧ A i k = 0
    · rw [if_pos h]; have := findP_ge n (i + 1); omega
    · rw [if_neg h]; exact Nat.le_refl _
theorem findP_zero : ∀ (n i j : Nat), i ≤ j → j < findP A r k n i → A j k = 0
  | 0, i, j, h1, h2 => by unfold findP at h2; omega
  | n + 1, i, j, h1, h2 => by
    unfold findP at h2
    by_cases h : i < r ∧ A i k = 0
    · rw [if_pos h] at h2
      by_cases e : j = i
      · rw [e]; exact h.2
      · exact findP_zero n (i + 1) j (by omega) h2
    · rw [if_neg h] at h2; omega
theorem findP_le : ∀ (n i : Nat), i ≤ r → findP A r k n i ≤ r
  | 0, i, h => h
  | n + 1, i, h => by
    unfold findP
    by_cases h1 : i < r ∧ A i k = 0
    · rw [if_pos h1]; exact findP_le n (i + 1) (by omega)
    · rw [if_neg h1]; exact h
theorem findP_ne : ∀ (n i : Nat), r - i ≤ n → findP A r k n i < r → A (findP A r k n i) k ≠ 0
  | 0, i, h, h1 => by unfold findP at h1; omega
  | n + 1, i, h, h1 => by
    unfold findP at h1 ⊢
    by_cases h2 : i < r ∧ A i k = 0
    · rw [if_pos h2] at h1 ⊢; exact findP_ne n (i + 1) (by omega) h1
    · rw [if_neg h2] at h1 ⊢
      exact fun e => h2 ⟨h1, e⟩
theorem find_ge : i ≤ find A r k i := findP_ge _ _
theorem find_zero (h1 : i ≤ j) (h2 : j < find A r k i) : A j k = 0 := findP_zero _ _ _ h1 h2
theorem find_le (h : i ≤ r) : find A r k i ≤ r := findP_le _ _ h
theorem find_ne (h : find A r k i < r) : A (find A r k i) k ≠ 0 := findP_ne _ _ (Nat.le_refl _) h
/-- Where it is, if it is known. -/
theorem find_is {f : Nat} (h1 : i ≤ f) (h2 : ∀ j, i ≤ j → j < f → A j k = 0) (h3 : f < r → A f k ≠ 0) (h4 : f ≤ r) : find A r k i = f := by
  rcases Nat.lt_trichotomy (find A r k i) f with h | h | h
  · exact absurd (h2 _ find_ge h) (find_ne (by omega))
  · exact h
  · have h5 := find_le (A := A) (r := r) (k := k) (i := i) (by omega)
    exact absurd (find_zero h1 h) (h3 (by omega))
theorem redTo_at : ∀ (n : Nat), (redTo r A B n).at_ ≤ r ∧ (redTo r A B n).at_ ≤ n
  | 0 => ⟨Nat.zero_le _, Nat.le_refl _⟩
  | n + 1 => by
    have h := redTo_at n
    show (redStep r n (redTo r A B n)).at_ ≤ r ∧ (redStep r n (redTo r A B n)).at_ ≤ n + 1
    unfold redStep
    by_cases h1 : find (redTo r A B n).A r n (redTo r A B n).at_ < r
    · rw [if_pos h1]
      have := find_ge (A := (redTo r A B n).A) (r := r) (k := n) (i := (redTo r A B n).at_)
      exact ⟨by show (redTo r A B n).at_ + 1 ≤ r; omega, by show (redTo r A B n).at_ + 1 ≤ n + 1; omega⟩
    · rw [if_neg h1]; omega
/-- Behind the last row nothing turns any more. -/
theorem redTo_full {n : Nat} (h : (redTo r A B n).at_ = r) : ∀ m, n ≤ m → redTo r A B m = redTo r A B n := by
  intro m hm
  induction m with
  | zero => obtain rfl : n = 0 := by omega
            rfl
  | succ m ih =>
    by_cases e : n = m + 1
    · rw [e]
    · have h1 := ih (by omega)
      show redStep r m (redTo r A B m) = _
      rw [h1]
      unfold redStep
      rw [if_neg]
      have := find_ge (A := (redTo r A B n).A) (r := r) (k := m) (i := (redTo r A B n).at_)
      omega
end
/-- Steps of the loops over one row. -/
def swapUp (A : M) (a b j : Nat) : M := fun i k => if k < j then swapM A a b i k else A i k
theorem swapUp_step (A : M) (a b j i k : Nat) : upd (upd (swapUp A a b j) a j (A b j)) b j (A a j) i k = swapUp A a b (j + 1) i k := by
  unfold upd swapUp swapM
  by_cases h1 : i = b ∧ k = j
  · obtain ⟨rfl, rfl⟩ := h1
    rw [if_pos ⟨rfl, rfl⟩, if_pos (by omega)]
    by_cases h2 : i = a
    · subst h2; rw [if_pos rfl]
    · rw [if_neg h2, if_pos rfl]
  · rw [if_neg h1]
    by_cases h2 : i = a ∧ k = j
    · obtain ⟨rfl, rfl⟩ := h2
      rw [if_pos ⟨rfl, rfl⟩, if_pos (by omega), if_pos rfl]
    · rw [if_neg h2]
      by_cases h3 : k < j
      · rw [if_pos h3, if_pos (show k < j + 1 by omega)]
      · rw [if_neg h3]
        by_cases h4 : k < j + 1
        · obtain rfl : k = j := by omega
          rw [if_pos h4, if_neg (by omega), if_neg (by omega)]
        · rw [if_neg h4]
def scaleUp (A : M) (a : Nat) (v : UInt8) (j : Nat) : M := fun i k => if i = a ∧ k < j then mul (A i k) v else A i k
theorem scaleUp_step (A : M) (a : Nat) (v : UInt8) (j i k : Nat) : upd (scaleUp A a v j) a j (mul (A a j) v) i k = scaleUp A a v (j + 1) i k := by
  unfold upd scaleUp
  by_cases h : i = a ∧ k = j
  · obtain ⟨rfl, rfl⟩ := h
    rw [if_pos ⟨rfl, rfl⟩, if_pos ⟨rfl, by omega⟩]
  · rw [if_neg h]
    by_cases h2 : i = a ∧ k < j
    · rw [if_pos h2, if_pos ⟨h2.1, by omega⟩]
    · rw [if_neg h2, if_neg (by omega)]
/-- Rows ahead of j are reckoned. -/
def elimUp (t : Nat → UInt8) (A : M) (a j : Nat) : M := fun i k => if i < j then elim t A a i k else A i k
theorem elimUp_at (t : Nat → UInt8) (A : M) (a j k : Nat) : elimUp t A a j a k = A a k := by
  unfold elimUp elim
  split
  · rw [if_pos rfl]
  · rfl
theorem elimUp_ge (t : Nat → UInt8) (A : M) (a : Nat) {i j : Nat} (h : j ≤ i) (k : Nat) : elimUp t A a j i k = A i k := by unfold elimUp; rw [if_neg (by omega)]
theorem elimUp_skip (t : Nat → UInt8) (A : M) (a i k : Nat) : elimUp t A a a i k = elimUp t A a (a + 1) i k := by
  unfold elimUp elim
  by_cases h : i < a
  · rw [if_pos h, if_pos (show i < a + 1 by omega)]
  · rw [if_neg h]
    by_cases h2 : i = a
    · subst h2; rw [if_pos (show i < i + 1 by omega), if_pos rfl]
    · rw [if_neg (show ¬ i < a + 1 by omega)]
theorem elimUp_done (t : Nat → UInt8) (A : M) (a : Nat) {r i : Nat} (h : i < r) (k : Nat) : elimUp t A a r i k = elim t A a i k := by unfold elimUp; rw [if_pos h]
end Go.Proofs.Ythdapoipfnnaeaa.Mx
/- For reduce: the state of its loops. -/
namespace Go.Proofs.Ythdapoipfnnaeaa.MxW
open Go.RowKit Go.Shelf Mem Gf FdW Mx Rng
open PlW (In)
set_option linter.unusedVariables false

/-- A matrix of the caller's that is written. -/
def Wo (w : World) (X : Option Addr) (cap r c : Nat) (m : M) : Prop := Mem.Own w 0 5 X cap ((flat r c m).map u8v)
section
variable {w w' : World} {X : Option Addr} {cap r c : Nat} {m m' : M}
theorem Wo.some (h : Wo w X cap r c m) (hr : 0 < r) (hc : 0 < c) : ∃ g, X = some ⟨g, 0, none⟩ ∧ Wm w 0 g cap r c m := by
  rcases Own.form h with ⟨_, _, e⟩ | ⟨g, rfl, _⟩
  · have := congrArg List.length e
    rw [List.length_map, flat_len] at this
    have h2 := idx_lt (i := 0) (k := 0) hr hc
    simp at this; omega
  · exact ⟨g, rfl, h⟩
theorem Wo.fr {S : Nat → Prop} (h : Wo w X cap r c m) (hf : Fr S w w') (hg : ∀ g, X = Option.some ⟨g, 0, none⟩ → ¬ S g) : Wo w' X cap r c m := Own.fr h hf hg
theorem Wo.keep (h : Wo w X cap r c m) (hb : Below w.heap.size w w') : Wo w' X cap r c m := Own.keep h hb
theorem Wo.congr (h : Wo w X cap r c m) (hm : ∀ i, i < r → ∀ k, k < c → m i k = m' i k) : Wo w X cap r c m' := by unfold Wo; rw [← flat_congr hm]; exact h
theorem Wo.le (h : Wo w X cap r c m) : r * c ≤ cap := by have := Own.le h; rwa [List.length_map, flat_len] at this
end
/-- Where it lies. -/
def Bk (X : Option Addr) (k : Nat) : Prop := X = some ⟨k, 0, none⟩
/-- What reduce may turn. -/
def RS' (XA XB : Option Addr) (p : Nat) (k : Nat) : Prop := Bk XA k ∨ Bk XB k ∨ k = p
/-- While a matrix is reduced. -/
structure RedI (w : World) (p gf gA gB gt : Nat) (XA XB : Option Addr) (capA capB r c d : Nat) (W : World) (at_ : Nat) (A B : M) : Prop where
  fr : Fr (RS' XA XB p) w W
  fld : Fld W p
  ff : Blk W gf 24 (fcellv p)
  ma : Blk W gA 27 (mcells r c XA (r * c) capA)
  mb : Blk W gB 27 (mcells r d XB (r * d) capB)
  mt : Blk W gt 3 #[.int .i64 (at_ : Int)]
  ra : Wo W XA capA r c A
  rb : Wo W XB capB r d B
/-- Where the blocks lie. -/
structure RedN (w : World) (p gf gA gB gt : Nat) (XA XB : Option Addr) : Prop where
  np : p < w.heap.size
  na : ∀ k, Bk XA k → k < w.heap.size ∧ k ≠ p
  nb : ∀ k, Bk XB k → k < w.heap.size ∧ k ≠ p
  nab : ∀ k, Bk XA k → ¬ Bk XB k
  n1 : w.heap.size = gf
  n2 : gA = gf + 1
  n3 : gB = gf + 1 + 1
  n4 : gt = gf + 1 + 1 + 1
section
variable {w W W' : World} {p gf gA gB gt : Nat} {XA XB : Option Addr} {capA capB r c d at_ : Nat} {A B A' B' : M}
theorem RedN.rs (h : RedN w p gf gA gB gt XA XB) {k : Nat} (hk : RS' XA XB p k) : k < w.heap.size := by
  rcases hk with hk | hk | hk
  · exact (h.na k hk).1
  · exact (h.nb k hk).1
  · rw [hk]; exact h.np
/-- New blocks of the call's own are turned, the boxes stay. -/
theorem RedI.own {S : Nat → Prop} (h : RedI w p gf gA gB gt XA XB capA capB r c d W at_ A B) (hn : RedN w p gf gA gB gt XA XB) (hf : Fr S W W') (hS : ∀ k, S k → gt < k) : RedI w p gf gA gB gt XA XB capA capB r c d W' at_ A B := by
  have hlt : ∀ k, k < w.heap.size → ¬ S k := fun k hk hs => by
    have h1 := hS k hs
    have h2 := hn.n1; have h3 := hn.n4
    omega
  have hg : ∀ k, k ≤ gt → ¬ S k := fun k hk hs => by have h1 := hS k hs; omega
  have h3 := hn.n2; have h4 := hn.n3; have h5 := hn.n4
  exact ⟨h.fr.trans hf fun k hk hs => absurd hs (hlt k hk), h.fld.fr hf (hlt p hn.np), h.ff.fr hf (hg _ (by omega)), h.ma.fr hf (hg _ (by omega)), h.mb.fr hf (hg _ (by omega)), h.mt.fr hf (hg _ (Nat.le_refl _)), h.ra.fr hf fun g e => hlt g (hn.na g e).1, h.rb.fr hf fun g e => hlt g (hn.nb g e).1⟩
theorem RedI.keep (h : RedI w p gf gA gB gt XA XB capA capB r c d W at_ A B) (hb : Below W.heap.size W W') : RedI w p gf gA gB gt XA XB capA capB r c d W' at_ A B :=
  ⟨h.fr.trans (Fr.quiet (S := fun _ => False) hb) fun _ _ h => h.elim, h.fld.keep hb, h.ff.keep hb, h.ma.keep hb, h.mb.keep hb, h.mt.keep hb, h.ra.keep hb, h.rb.keep hb⟩
/-- The blocks of the two matrices and the field are turned. -/
theorem RedI.turn {S : Nat → Prop} (h : RedI w p gf gA gB gt XA XB capA capB r c d W at_ A B) (hn : RedN w p gf gA gB gt XA XB) (hf : Fr S W W') (hS : ∀ k, S k → RS' XA XB p k) (hF : Fld W' p) (ha : Wo W' XA capA r c A') (hb : Wo W' XB capB r d B') : RedI w p gf gA gB gt XA XB capA capB r c d W' at_ A' B' := by
  have hg : ∀ k, gf ≤ k → ¬ S k := fun k hk hs => by have h1 := hn.rs (hS k hs); have h2 := hn.n1; omega
  have h3 := hn.n2; have h4 := hn.n3; have h5 := hn.n4
  exact ⟨h.fr.trans hf fun k _ hs => hS k hs, hF, h.ff.fr hf (hg _ (Nat.le_refl _)), h.ma.fr hf (hg _ (by omega)), h.mb.fr hf (hg _ (by omega)), h.mt.fr hf (hg _ (by omega)), ha, hb⟩
theorem RedI.field (h : RedI w p gf gA gB gt XA XB capA capB r c d W at_ A B) (hn : RedN w p gf gA gB gt XA XB) (hf : Fr (fun k => k = p) W W') (hF : Fld W' p) : RedI w p gf gA gB gt XA XB capA capB r c d W' at_ A B :=
  h.turn hn hf (fun k e => .inr (.inr e)) hF (h.ra.fr hf fun g e e2 => (hn.na g e).2 e2) (h.rb.fr hf fun g e e2 => (hn.nb g e).2 e2)
theorem RedI.congr (h : RedI w p gf gA gB gt XA XB capA capB r c d W at_ A B) (hA : ∀ i, i < r → ∀ k, k < c → A i k = A' i k) (hB : ∀ i, i < r → ∀ k, k < d → B i k = B' i k) : RedI w p gf gA gB gt XA XB capA capB r c d W at_ A' B' :=
  ⟨h.fr, h.fld, h.ff, h.ma, h.mb, h.mt, h.ra.congr hA, h.rb.congr hB⟩
/-- One entry of the first matrix; of the second one. -/
theorem RedI.setA {g : Nat} (hX : XA = some ⟨g, 0, none⟩) (h : RedI w p gf gA gB gt XA XB capA capB r c d W at_ A B) (hn : RedN w p gf gA gB gt XA XB) {i k : Nat} (hi : i < r) (hk : k < c) (x : UInt8) :
    RedI w p gf gA gB gt XA XB capA capB r c d (W.setCell ⟨g, i * c + k, none⟩ (.int .u8 (x.toNat : Int))) at_ (upd A i k x) B := by
  have hf := setF (p := g) W ⟨g, i * c + k, none⟩ rfl (.int .u8 (x.toNat : Int))
  have ha := h.ra
  subst hX
  have hw : Wm W 0 g capA r c A := ha
  exact h.turn hn hf (fun k e => .inl (by rw [e]; rfl)) (h.fld.fr hf fun e => (hn.na g rfl).2 e.symm) (hw.set hi hk x) (h.rb.fr hf fun g' e e2 => hn.nab g rfl (by rw [← e2]; exact e))
theorem RedI.setB {g : Nat} (hX : XB = some ⟨g, 0, none⟩) (h : RedI w p gf gA gB gt XA XB capA capB r c d W at_ A B) (hn : RedN w p gf gA gB gt XA XB) {i k : Nat} (hi : i < r) (hk : k < d) (x : UInt8) :
    RedI w p gf gA gB gt XA XB capA capB r c d (W.setCell ⟨g, i * d + k, none⟩ (.int .u8 (x.toNat : Int))) at_ A (upd B i k x) := by
  have hf := setF (p := g) W ⟨g, i * d + k, none⟩ rfl (.int .u8 (x.toNat : Int))
  have hb := h.rb
  subst hX
  have hw : Wm W 0 g capB r d B := hb
  exact h.turn hn hf (fun k e => .inr (.inl (by rw [e]; rfl))) (h.fld.fr hf fun e => (hn.nb g rfl).2 e.symm) (h.ra.fr hf fun g' e e2 => hn.nab g' e (by rw [e2]; rfl)) (hw.set hi hk x)
theorem RedI.atA {g : Nat} (hX : XA = some ⟨g, 0, none⟩) (h : RedI w p gf gA gB gt XA XB capA capB r c d W at_ A B) {i k : Nat} (hi : i < r) (hk : k < c) : W.cell? ⟨g, i * c + k, none⟩ = some (.int .u8 ((A i k).toNat : Int)) ∧ W.frozen? ⟨g, i * c + k, none⟩ = false := by
  have ha := h.ra
  subst hX
  exact Wm.at_ ha hi hk
theorem RedI.atB {g : Nat} (hX : XB = some ⟨g, 0, none⟩) (h : RedI w p gf gA gB gt XA XB capA capB r c d W at_ A B) {i k : Nat} (hi : i < r) (hk : k < d) : W.cell? ⟨g, i * d + k, none⟩ = some (.int .u8 ((B i k).toNat : Int)) ∧ W.frozen? ⟨g, i * d + k, none⟩ = false := by
  have hb := h.rb
  subst hX
  exact Wm.at_ hb hi hk
end
/-- What reduce leaves. -/
def RedOk (w : World) (p : Nat) (XA XB : Option Addr) (capA capB r c d : Nat) (A B : M) (e : Ending) (w' : World) : Prop :=
  e = .returned (.int .i64 ((redTo r A B c).at_ : Int)) ∧ Wo w' XA capA r c (redTo r A B c).A ∧ Wo w' XB capB r d (redTo r A B c).B ∧ Fld w' p ∧ Fr (RS' XA XB p) w w'
/-- The loop over the columns: the column's variable gc, the marks Ds of the loops over rows. -/
structure RedW (w : World) (p gf gA gB gt : Nat) (XA XB : Option Addr) (capA capB r c d gc n : Nat) (Ds : List Nat) (W : World) (at_ : Nat) (A B : M) : Prop where
  inv : RedI w p gf gA gB gt XA XB capA capB r c d W at_ A B
  mc : Blk W gc 3 #[.int .i64 (n : Int)]
  gtc : gt < gc
  ds : ∀ D ∈ Ds, gt < D ∧ W.heap[D]? = some (.deferred (some []))
  nd : Ds.Nodup
section
variable {w W W' : World} {p gf gA gB gt : Nat} {XA XB : Option Addr} {capA capB r c d gc n : Nat} {Ds : List Nat} {at_ : Nat} {A B A' B' : M}
/-- Blocks that lie ahead are turned. -/
theorem RedW.turn {S : Nat → Prop} {a' : Nat} (h : RedW w p gf gA gB gt XA XB capA capB r c d gc n Ds W at_ A B) (hf : Fr S W W') (hS : ∀ k, S k → k ≤ gt) (hi : RedI w p gf gA gB gt XA XB capA capB r c d W' a' A' B') : RedW w p gf gA gB gt XA XB capA capB r c d gc n Ds W' a' A' B' :=
  ⟨hi, h.mc.fr hf (fun hs => by have := hS _ hs; have := h.gtc; omega), h.gtc, fun D hD => ⟨(h.ds D hD).1, (hf.block D (Array.getElem?_eq_some_iff.1 (h.ds D hD).2).1 (fun hs => by have := hS _ hs; have := (h.ds D hD).1; omega)).trans (h.ds D hD).2⟩, h.nd⟩
theorem RedW.keep (h : RedW w p gf gA gB gt XA XB capA capB r c d gc n Ds W at_ A B) (hb : Below W.heap.size W W') : RedW w p gf gA gB gt XA XB capA capB r c d gc n Ds W' at_ A B :=
  h.turn (Fr.quiet (S := fun _ => False) hb) (fun _ h => h.elim) (h.inv.keep hb)
theorem RedW.congr (h : RedW w p gf gA gB gt XA XB capA capB r c d gc n Ds W at_ A B) (hA : ∀ i, i < r → ∀ k, k < c → A i k = A' i k) (hB : ∀ i, i < r → ∀ k, k < d → B i k = B' i k) : RedW w p gf gA gB gt XA XB capA capB r c d gc n Ds W at_ A' B' :=
  ⟨h.inv.congr hA hB, h.mc, h.gtc, h.ds, h.nd⟩
theorem RedN.le (hn : RedN w p gf gA gB gt XA XB) {k : Nat} (hk : RS' XA XB p k) : k ≤ gt := by have h1 := hn.rs hk; have h2 := hn.n1; have h3 := hn.n4; omega
theorem RedW.field (h : RedW w p gf gA gB gt XA XB capA capB r c d gc n Ds W at_ A B) (hn : RedN w p gf gA gB gt XA XB) (hf : Fr (fun k => k = p) W W') (hF : Fld W' p) : RedW w p gf gA gB gt XA XB capA capB r c d gc n Ds W' at_ A B :=
  h.turn hf (fun k e => hn.le (.inr (.inr e))) (h.inv.field hn hf hF)
theorem RedW.setA {g : Nat} (hX : XA = some ⟨g, 0, none⟩) (h : RedW w p gf gA gB gt XA XB capA capB r c d gc n Ds W at_ A B) (hn : RedN w p gf gA gB gt XA XB) {i k : Nat} (hi : i < r) (hk : k < c) (x : UInt8) :
    RedW w p gf gA gB gt XA XB capA capB r c d gc n Ds (W.setCell ⟨g, i * c + k, none⟩ (.int .u8 (x.toNat : Int))) at_ (upd A i k x) B :=
  h.turn (setF (p := g) W ⟨g, i * c + k, none⟩ rfl _) (fun k e => hn.le (.inl (by rw [e]; exact hX))) (h.inv.setA hX hn hi hk x)
theorem RedW.setB {g : Nat} (hX : XB = some ⟨g, 0, none⟩) (h : RedW w p gf gA gB gt XA XB capA capB r c d gc n Ds W at_ A B) (hn : RedN w p gf gA gB gt XA XB) {i k : Nat} (hi : i < r) (hk : k < d) (x : UInt8) :
    RedW w p gf gA gB gt XA XB capA capB r c d gc n Ds (W.setCell ⟨g, i * d + k, none⟩ (.int .u8 (x.toNat : Int))) at_ A (upd B i k x) :=
  h.turn (setF (p := g) W ⟨g, i * d + k, none⟩ rfl _) (fun k e => hn.le (.inr (.inl (by rw [e]; exact hX)))) (h.inv.setB hX hn hi hk x)
/-- One row more. -/
theorem RedW.next (h : RedW w p gf gA gB gt XA XB capA capB r c d gc n Ds W at_ A B) (hn : RedN w p gf gA gB gt XA XB) : RedW w p gf gA gB gt XA XB capA capB r c d gc n Ds (W.setCell ⟨gt, 0, none⟩ (.int .i64 ((at_ : Int) + 1))) (at_ + 1) A B := by
  have hf := setF (p := gt) W ⟨gt, 0, none⟩ rfl (.int .i64 ((at_ : Int) + 1))
  have hlt : ∀ k, k < w.heap.size → k ≠ gt := fun k hk e => by have h2 := hn.n1; have h3 := hn.n4; omega
  have h1 := hn.n1; have h2 := hn.n2; have h3 := hn.n3; have h4 := hn.n4
  have hi := h.inv
  refine h.turn hf (fun k e => by omega) ⟨hi.fr.trans hf fun k hk e => absurd e (hlt k hk), hi.fld.fr hf (hlt p hn.np), hi.ff.fr hf (by omega), hi.ma.fr hf (by omega), hi.mb.fr hf (by omega), ?_, hi.ra.fr hf fun g e => hlt g (hn.na g e).1, hi.rb.fr hf fun g e => hlt g (hn.nb g e).1⟩
  have := hi.mt.set_ 0 (.int .i64 ((at_ : Int) + 1))
  rw [show ((at_ + 1 : Nat) : Int) = (at_ : Int) + 1 from by omega]
  exact this
/-- The next column, in a variable of its own. -/
theorem RedW.col (h : RedW w p gf gA gB gt XA XB capA capB r c d gc n Ds W at_ A B) (hn : RedN w p gf gA gB gt XA XB) : RedW w p gf gA gB gt XA XB capA capB r c d W.heap.size (n + 1) Ds (W.alloc (.cells #[.int .i64 ((n : Int) + 1)] 3)) at_ A B := by
  have hk := h.keep (nextA (Mem.start W) (.cells #[.int .i64 ((n : Int) + 1)] 3))
  have h1 := h.inv.mt.lt
  refine ⟨hk.inv, ?_, h1, hk.ds, hk.nd⟩
  rw [show ((n + 1 : Nat) : Int) = (n : Int) + 1 from by omega]
  exact Blk.new W _ _
/-- One mark more. -/
theorem RedW.mark (h : RedW w p gf gA gB gt XA XB capA capB r c d gc n Ds W at_ A B) {D : Nat} (hD : gt < D) (hK : W.heap[D]? = some (.deferred (some []))) (hnew : D ∉ Ds) : RedW w p gf gA gB gt XA XB capA capB r c d gc n (D :: Ds) W at_ A B :=
  ⟨h.inv, h.mc, h.gtc, fun D' hD' => by
    rcases List.mem_cons.1 hD' with rfl | h'
    · exact ⟨hD, hK⟩
    · exact h.ds D' h', List.nodup_cons.2 ⟨hnew, h.nd⟩⟩
theorem RedW.lt (h : RedW w p gf gA gB gt XA XB capA capB r c d gc n Ds W at_ A B) {D : Nat} (hD : W.heap.size ≤ D) : D ∉ Ds := fun h' => by
  have := (Array.getElem?_eq_some_iff.1 (h.ds D h').2).1
  omega
end
theorem red_start (w : World) (p gf : Nat) (hp : Fld w p) (hgf : w.heap.size = gf) (r c d ga : Nat) (XB : Option Addr) (capA capB : Nat) (A B : M) (hr : 0 < r) (hc : 0 < c) (hA : Wo w (some ⟨ga, 0, none⟩) capA r c A) (hB : Wo w XB capB r d B) (hne : p ≠ ga ∧ ¬ Bk XB p ∧ ¬ Bk XB ga) :
    RedN w p gf (gf + 1) (gf + 1 + 1) (gf + 1 + 1 + 1) (some ⟨ga, 0, none⟩) XB ∧ ∃ w0, RedW w p gf (gf + 1) (gf + 1 + 1) (gf + 1 + 1 + 1) (some ⟨ga, 0, none⟩) XB capA capB r c d (gf + 1 + 1 + 1 + 1) 0 [] w0 0 A B ∧
      ((((w.alloc (.cells #[fptr (some p)] 24)).alloc (.cells #[.int .i64 (r : Int), .int .i64 (c : Int), .slice (some ⟨ga, 0, none⟩) (r * c) capA] 27)).alloc (.cells #[.int .i64 (r : Int), .int .i64 (d : Int), .slice XB (r * d) capB] 27)).alloc (.cells #[.int .i64 0] 3)).alloc (.cells #[.int .i64 0] 3) = w0 := by
  have hn : RedN w p gf (gf + 1) (gf + 1 + 1) (gf + 1 + 1 + 1) (some ⟨ga, 0, none⟩) XB := by
    refine ⟨hp.lt, fun k e => ?_, fun k e => ?_, fun k e e2 => ?_, hgf, rfl, rfl, rfl⟩
    · have e1 : ga = k := by have e' : some (⟨ga, 0, none⟩ : Addr) = some ⟨k, 0, none⟩ := e
                             injection e' with e'; exact congrArg Addr.block e'
      subst e1
      obtain ⟨g, e3, h3⟩ := hA.some hr hc
      injection e3 with e3; have e4 := congrArg Addr.block e3; dsimp only at e4; subst e4
      exact ⟨h3.form.2.1, fun e => hne.1 e.symm⟩
    · rcases Own.form hB with ⟨e1, _⟩ | ⟨g, e1, _, h2, _⟩
      · have e' : XB = some ⟨k, 0, none⟩ := e
        rw [e1] at e'; cases e'
      · have e' : XB = some ⟨k, 0, none⟩ := e
        rw [e1] at e'; injection e' with e'; have e4 := congrArg Addr.block e'; dsimp only at e4; subst e4
        exact ⟨h2, fun e5 => hne.2.1 (by rw [← e5]; exact e)⟩
    · have e' : some (⟨ga, 0, none⟩ : Addr) = some ⟨k, 0, none⟩ := e
      injection e' with e'; have e4 := congrArg Addr.block e'; dsimp only at e4; subst e4
      exact hne.2.2 e2
  refine ⟨hn, ?_⟩
  obtain ⟨x1, g1, h1, e1, n1⟩ := boxedT w #[fptr (some p)] 24
  obtain ⟨x2, g2, h2, e2, n2⟩ := boxed x1 #[.int .i64 (r : Int), .int .i64 (c : Int), .slice (some ⟨ga, 0, none⟩) (r * c) capA]
  obtain ⟨x3, g3, h3, e3, n3⟩ := boxed x2 #[.int .i64 (r : Int), .int .i64 (d : Int), .slice XB (r * d) capB]
  obtain ⟨x4, g4, h4, e4, n4⟩ := boxedT x3 #[.int .i64 0] 3
  obtain ⟨x5, g5, h5, e5, n5⟩ := boxedT x4 #[.int .i64 0] 3
  have k1 := h1.2.2; have k2 := h2.2.2; have k3 := h3.2.2; have k4 := h4.2.2; have k5 := h5.2.2
  obtain rfl : g1 = gf := by omega
  obtain rfl : g2 = g1 + 1 := by omega
  obtain rfl : g3 = g1 + 1 + 1 := by omega
  obtain rfl : g4 = g1 + 1 + 1 + 1 := by omega
  obtain rfl : g5 = g1 + 1 + 1 + 1 + 1 := by omega
  have b2 := next h1.1 h2.1
  have b3 := next b2 h3.1
  have b4 := next b3 h4.1
  have b5 := next b4 h5.1
  refine ⟨x5, ⟨⟨Fr.quiet b5, hp.keep b5, (((h1.2.1.keep h2.1).keep h3.1).keep h4.1).keep h5.1, ((h2.2.1.keep h3.1).keep h4.1).keep h5.1, (h3.2.1.keep h4.1).keep h5.1, h4.2.1.keep h5.1, hA.keep b5, hB.keep b5⟩, h5.2.1, by omega, (fun _ h => by cases h), List.nodup_nil⟩, by rw [e1, e2, e3, e4, e5]⟩
/-- A column is done. -/
theorem redTo_yes {r n f : Nat} {A B : M} (hf : f < r) (h : find (redTo r A B n).A r n (redTo r A B n).at_ = f) : redTo r A B (n + 1) = ⟨(redTo r A B n).at_ + 1, stepX (redTo r A B n).A (redTo r A B n).A (redTo r A B n).at_ f n, stepX (redTo r A B n).A (redTo r A B n).B (redTo r A B n).at_ f n⟩ := by
  show redStep r n (redTo r A B n) = _
  unfold redStep
  rw [h, if_pos hf]
theorem redTo_no {r n : Nat} {A B : M} (h : find (redTo r A B n).A r n (redTo r A B n).at_ = r) : redTo r A B (n + 1) = redTo r A B n := by
  show redStep r n (redTo r A B n) = _
  unfold redStep
  rw [h, if_neg (Nat.lt_irrefl r)]
/-- Blocks are turned that are none of these. -/
theorem RedW.far {w W W' : World} {p gf gA gB gt : Nat} {XA XB : Option Addr} {capA capB r c d gc n : Nat} {Ds : List Nat} {at_ : Nat} {A B : M} {S : Nat → Prop} (h : RedW w p gf gA gB gt XA XB capA capB r c d gc n Ds W at_ A B) (hn : RedN w p gf gA gB gt XA XB) (hf : Fr S W W') (hS : ∀ k, S k → gt < k ∧ k ≠ gc ∧ k ∉ Ds) : RedW w p gf gA gB gt XA XB capA capB r c d gc n Ds W' at_ A B :=
  ⟨h.inv.own hn hf fun k hk => (hS k hk).1, h.mc.fr hf fun hs => (hS _ hs).2.1 rfl, h.gtc, fun D hD => ⟨(h.ds D hD).1, (hf.block D (Array.getElem?_eq_some_iff.1 (h.ds D hD).2).1 fun hs => (hS D hs).2.2 hD).trans (h.ds D hD).2⟩, h.nd⟩
/-- Behind more, on the first matrix; on the second one. -/
theorem RedW.moreA {w W W' : World} {p gf gA gB gt : Nat} {XA XB : Option Addr} {capA capB r c d gc n : Nat} {Ds : List Nat} {at_ : Nat} {A B A' : M} (h : RedW w p gf gA gB gt XA XB capA capB r c d gc n Ds W at_ A B) (hn : RedN w p gf gA gB gt XA XB) (hw : Wo W' XA capA r c A') (hF : Fld W' p) (hf : Fr (fun k => Bk XA k ∨ k = p) W W') : RedW w p gf gA gB gt XA XB capA capB r c d gc n Ds W' at_ A' B :=
  have hS : ∀ k, (Bk XA k ∨ k = p) → RS' XA XB p k := fun k hk => hk.elim .inl (fun e => .inr (.inr e))
  h.turn hf (fun k hk => hn.le (hS k hk)) (h.inv.turn hn hf hS hF hw (h.inv.rb.fr hf fun g e e2 => e2.elim (fun e2 => hn.nab g e2 e) (fun e2 => (hn.nb g e).2 e2)))
theorem RedW.moreB {w W W' : World} {p gf gA gB gt : Nat} {XA XB : Option Addr} {capA capB r c d gc n : Nat} {Ds : List Nat} {at_ : Nat} {A B B' : M} (h : RedW w p gf gA gB gt XA XB capA capB r c d gc n Ds W at_ A B) (hn : RedN w p gf gA gB gt XA XB) (hw : Wo W' XB capB r d B') (hF : Fld W' p) (hf : Fr (fun k => Bk XB k ∨ k = p) W W') : RedW w p gf gA gB gt XA XB capA capB r c d gc n Ds W' at_ A B' :=
  have hS : ∀ k, (Bk XB k ∨ k = p) → RS' XA XB p k := fun k hk => hk.elim (fun e => .inr (.inl e)) (fun e => .inr (.inr e))
  h.turn hf (fun k hk => hn.le (hS k hk)) (h.inv.turn hn hf hS hF (h.inv.ra.fr hf fun g e e2 => e2.elim (fun e2 => hn.nab g e e2) (fun e2 => (hn.na g e).2 e2)) hw)
def MoreO (w : World) (p : Nat) (X : Option Addr) (cap r c : Nat) (m : M) (e : Ending) (w' : World) : Prop := e = .returned (.tuple #[]) ∧ Wo w' X cap r c m ∧ Fld w' p ∧ Fr (fun k => Bk X k ∨ k = p) w w'
/-- A row of a matrix added to another row of it. -/
theorem more_own (w : World) (p : Nat) (hp : Fld w p) (X : Option Addr) (cap r c : Nat) (m : M) (hw : Wo w X cap r c m) (i j : Nat) (hi : i < r) (hj : j < r) (hij : j ≠ i) (hc9 : ((r * c : Nat) : Int) ≤ 1000000000) (hne : ∀ k, Bk X k → k ≠ p) (t : UInt8) :
    Calls Try.prog 48 #[fptr (some p), .slice (rowA X c i) c c, .slice (rowA X c j) c c, .int .u8 (t.toNat : Int)] w (MoreO w p X cap r c (addRow m i (m j) t)) := by
  by_cases hc : c = 0
  · subst hc
    refine (more_nil w _ _ _ _ _ t).mono ?_
    rintro e w' ⟨rfl, rfl⟩
    exact ⟨rfl, hw.congr fun _ _ k hk => absurd hk (by omega), hp, Fr.refl _ _⟩
  · obtain ⟨g, rfl, hm⟩ := hw.some (by omega) (show 0 < c by omega)
    have hpg : p ≠ g := fun e => hne g rfl e.symm
    refine (more_row w p hp 0 g cap r c m hm i hi hc9 hpg (rowA (some ⟨g, 0, none⟩) c j) c (m j) (fun hd => ⟨g, j * c, by rw [rowA_some hd, Nat.zero_add], ⟨fun k hk => (hm.at_ hj hk).1, .inr fun k k' hk hk' e => ?_, fun e => hpg e.symm, hm.form.2.1⟩⟩) t c).mono ?_
    · apply hij
      have e1 := congrArg (· / c) e
      simp only [idx_div hk, idx_div hk'] at e1
      exact e1
    · rintro e w' ⟨he, h1, h2, h3⟩
      exact ⟨he, h1, h2, h3.mono fun k _ hk => hk.elim (fun e => .inl (by rw [e]; rfl)) .inr⟩
theorem elim_more {A : M} {tf : Nat → UInt8} {t i r c : Nat} (hi : i ≠ t) : ∀ x, x < r → ∀ k, k < c → addRow (elimUp tf A t i) i (elimUp tf A t i t) (tf i) x k = elimUp tf A t (i + 1) x k := fun x _ k _ => by
  unfold addRow
  rw [elimUp_at, elimUp_ge tf A t (Nat.le_refl i)]
  by_cases h : x = i
  · subst h
    rw [if_pos rfl]
    unfold elimUp elim
    rw [if_pos (Nat.lt_succ_self x), if_neg hi]
  · rw [if_neg h]
    unfold elimUp
    by_cases h2 : x < i
    · rw [if_pos h2, if_pos (show x < i + 1 by omega)]
    · rw [if_neg h2, if_neg (show ¬ x < i + 1 by omega)]
/-- Rows t to fm - 1 are nought in column n. -/
def ZerosTo (A : M) (n t fm : Nat) : Prop := ∀ j, t ≤ j → j < fm → A j n = 0
theorem zeros_start (A : M) (n t : Nat) : ZerosTo A n t t := fun j h1 h2 => by omega
theorem zeros_next {A : M} {n t fm : Nat} (h : ZerosTo A n t fm) (h0 : A fm n = 0) : ZerosTo A n t (fm + 1) := fun j h1 h2 => by
  by_cases e : j = fm
  · rw [e]; exact h0
  · exact h j h1 (by omega)
theorem scaleUp_all (A : M) (a : Nat) (v : UInt8) {j k : Nat} (hk : k < j) (i : Nat) : scaleUp A a v j i k = scaleM A a v i k := by
  unfold scaleUp scaleM
  by_cases h : i = a
  · rw [if_pos ⟨h, hk⟩, if_pos h]
  · rw [if_neg (fun h' => h h'.1), if_neg h]
/-- The two matrices while both are dealt with, one behind the other. -/
def phA (A : M) (t fm n j : Nat) : M := if j = 0 then A else pivA A t fm n
def phB (A B : M) (t fm n j : Nat) : M := if j ≤ 1 then B else pivB A B t fm n
theorem RedW.old {w W : World} {p gf gA gB gt : Nat} {XA XB : Option Addr} {capA capB r c d gc n : Nat} {Ds : List Nat} {at_ : Nat} {A B : M} (hn : RedN w p gf gA gB gt XA XB) (h : RedW w p gf gA gB gt XA XB capA capB r c d gc n Ds W at_ A B) : gt < W.heap.size ∧ gc < W.heap.size := ⟨h.inv.mt.lt, h.mc.lt⟩
theorem marks_still {w W W' : World} {p gf gA gB gt : Nat} {XA XB : Option Addr} {capA capB r c d gc n : Nat} {Ds : List Nat} {at_ : Nat} {A B : M} (h : RedW w p gf gA gB gt XA XB capA capB r c d gc n Ds W at_ A B) (hf : Fr (fun k => k ∈ Ds) W W') : Still 0 W W' :=
  hf.mono fun k _ hk => ⟨Nat.zero_le _, _, (h.ds k hk).2, rfl⟩
/-- The function's end: its marks are shut. -/
theorem red_leave {w W : World} {p gf gA gB gt : Nat} {XA XB : Option Addr} {capA capB r c d gc n : Nat} {Ds : List Nat} {at_ : Nat} {MA MB A B : M} {fn : Func} {tmps : Array Value} {v : Value} (hn : RedN w p gf gA gB gt XA XB) (h : RedW w p gf gA gB gt XA XB capA capB r c d gc n Ds W at_ MA MB)
    (he : RedOk w p XA XB capA capB r c d A B (.returned v) W) (hr : ∀ W', (results fn tmps).run Try.prog W' = .ok v W') :
    LeavesInM Fence.wide 5 Try.prog fn tmps (RedOk w p XA XB capA capB r c d A B) (Ds.map mark) .returning W := by
  refine leaves_marks Ds W h.nd (fun D hD => (h.ds D hD).2) fun W' hf _ => ?_
  have hs := marks_still h hf
  have h1 := hn.n1
  have h4 := hn.n4
  refine ⟨v, hr W', he.1, hs.own he.2.1, hs.own he.2.2.1, he.2.2.2.1.fr hf (fun hp => by have := (h.ds p hp).1; have := hn.np; omega), he.2.2.2.2.trans hf fun k hk hD => by have := (h.ds k hD).1; omega⟩
end Go.Proofs.Ythdapoipfnnaeaa.MxW
