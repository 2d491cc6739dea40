/- A disk's step, and what is done in it. -/
import Derived.Test.YtjpelifafmkdpaaDkCl
namespace Go.Proofs.Ytjpelifafmkdpaa.DkW
open Go.RowKit Go.Shelf Mem Rng
set_option linter.unusedVariables false

theorem cellB {w w' : World} (hb : Below w.heap.size w w') {a : Addr} {v : Value} (h : w.cell? a = some v) : w'.cell? a = some v := (hb.cell (World.block_lt_of_cell? _ _ h)).trans h
theorem cellSet {w : World} {b o : Nat} {q : Addr} {u v : Value} (h : w.cell? ⟨b, o, none⟩ = some v) (hq : q.block ≠ b) : (w.setCell q u).cell? ⟨b, o, none⟩ = some v := (World.cell?_of_block (Below.heap_setCell w q u b (fun e => hq e.symm))).trans h
theorem cellSet2 {w : World} {b o o' : Nat} {u v : Value} (h : w.cell? ⟨b, o, none⟩ = some v) (hq : o' ≠ o) : (w.setCell ⟨b, o', none⟩ u).cell? ⟨b, o, none⟩ = some v := by
  rw [World.cell?_setCell_other (h := fun e => hq (by injection e))]; exact h
theorem DkM.mono {F : Nat → Prop} {p m m' : Nat} {s : DS} {w : World} (h : DkM F p m s w) (h1 : m ≤ m') (h2 : m' ≤ s.steps + 1) : DkM F p m' s w := by
  obtain ⟨ms, mn, A, c, h⟩ := h
  obtain ⟨k, hk, hk2⟩ := h.mS
  exact ⟨ms, mn, A, c, h.blk, ⟨k, hk, by omega⟩, h.mN.mono h1, h.row, h.lens, h.foot, h.lt, h.bound.1, h.bound.2.1, h2, h.bound.2.2.2⟩
def DkOkM (w : World) (F : Nat → Prop) (p m : Nat) (s : DS) (v : Value) (e : Ending) (w' : World) : Prop := e = .returned v ∧ ∃ F', DkM F' p m s w' ∧ Grow F F' w ∧ Fr F w w'
theorem nothing_any (w : World) : Calls Try.prog 35 #[] w fun e w' => e = .returned (.tuple #[]) ∧ w = w' := by
  go_enter Try.func35, Try.ntmps35
  go_wp2_with fail
  go_end0
  exact ⟨rfl, rfl⟩
set_option maxRecDepth 100000 in
set_option maxHeartbeats 2000000 in
theorem settle_any (F : Nat → Prop) (p m b : Nat) (s : DS) (w : World) (h : DkM F p m s w) (hb : w.cell? ⟨b, 0, none⟩ = some (.pointer (some ⟨p, 0, none⟩))) (hbF : ¬ F b) :
    Calls Try.prog 34 #[.pointer (some ⟨b, 0, none⟩)] w (DkOkM w F p m s.settle (.tuple #[])) := by
  obtain ⟨ms, mn, A, c, h⟩ := h
  have HT := Lib.hid (show w.drew.cell? ⟨b, 0, none⟩ = some (.pointer (some ⟨p, 0, none⟩)) ∧ w.drew.cell? ⟨p, 2, none⟩ = some (.map (some mn)) from ⟨hb, h.cells.2.2.1⟩)
  have H := Lib.hid (h.keep (nextN (Mem.start w) 1))
  have HC := Lib.hid (mclone_any (w.drewN 1) mn m s.N H.out.mN)
  have HB := Lib.hid hbF
  have HP := Lib.hid (show p ≠ b from fun e => hbF (by rw [← e]; exact H.out.foot.1))
  clear h hb hbF
  go_enter Try.func34, Try.ntmps34
  go_wp2_with fail
  --HELD sync1
  refine wp_region_noPanic ?_
  refine wp_heldG (fun w' => w'.cell? ⟨b, 0, none⟩ = some (.pointer (some ⟨p, 0, none⟩)) ∧ w'.cell? ⟨p, 2, none⟩ = some (.map (some mn))) [] (by kernel_rfl) ?hs0 ?rg0
  case hs0 =>
    exact HT.out
  case rg0 =>
  intro hHeld
  refine wpAnyG_take (i := 0) (oi := { dst := some 1, op := Op.load 28 (Operand.tmp 0), type := 28, pos := _, after := #[], guard := none }) (v := ?_) rfl (by kernel_rfl) (by kernel_rfl) (by kernel_rfl) (by kernel_rfl) (fun _ _ _ h => h) (Or.inl ⟨by rfl, ?_⟩) (by assumption) ?_
  rotate_left
  · intro w hSw
    try dsimp only at hSw
    go_simp
    try with_reducible rfl
  try simp only [Act.put, List.setIfInBounds_toArray, List.set_cons_zero, List.set_cons_succ]
  refine wpAnyG_take (i := 1) (oi := { dst := some 2, op := Op.load 28 (Operand.tmp 0), type := 28, pos := _, after := #[], guard := none }) (v := ?_) rfl (by kernel_rfl) (by kernel_rfl) (by kernel_rfl) (by kernel_rfl) (fun _ _ _ h => h) (Or.inl ⟨by rfl, ?_⟩) (by assumption) ?_
  rotate_left
  · intro w hSw
    try dsimp only at hSw
    go_simp
    try with_reducible rfl
  try simp only [Act.put, List.setIfInBounds_toArray, List.set_cons_zero, List.set_cons_succ]
  refine wpAnyG_take (i := 2) (oi := { dst := some 3, op := Op.load 28 (Operand.tmp 0), type := 28, pos := _, after := #[], guard := none }) (v := ?_) rfl (by kernel_rfl) (by kernel_rfl) (by kernel_rfl) (by kernel_rfl) (fun _ _ _ h => h) (Or.inl ⟨by rfl, ?_⟩) (by assumption) ?_
  rotate_left
  · intro w hSw
    try dsimp only at hSw
    go_simp
    try with_reducible rfl
  try simp only [Act.put, List.setIfInBounds_toArray, List.set_cons_zero, List.set_cons_succ]
  refine wpAnyG_pure (i := 3) (oi := { dst := some 4, op := Op.nilCheck (Operand.tmp 3), type := 0, pos := _, after := #[{ on := 2, ground := Ground.data }], guard := none }) (v := ?_) rfl (by kernel_rfl) (by kernel_rfl) (by kernel_rfl) (by kernel_rfl) (fun _ _ _ h => h) (Or.inl ⟨by rfl, ?_⟩) (fun _ => by assumption) ?_
  rotate_left
  · intro w hSw
    try dsimp only at hSw
    go_simp
    try with_reducible rfl
  try simp only [Act.put, List.setIfInBounds_toArray, List.set_cons_zero, List.set_cons_succ]
  refine wpAnyG_pure (i := 4) (oi := { dst := some 5, op := Op.fieldAddr 63 (Operand.tmp 4) 2, type := 0, pos := _, after := #[{ on := 3, ground := Ground.data }], guard := none }) (v := ?_) rfl (by kernel_rfl) (by kernel_rfl) (by kernel_rfl) (by kernel_rfl) (fun _ _ _ h => h) (Or.inl ⟨by rfl, ?_⟩) (fun _ => by assumption) ?_
  rotate_left
  · intro w hSw
    try dsimp only at hSw
    go_simp
    try with_reducible rfl
  try simp only [Act.put, List.setIfInBounds_toArray, List.set_cons_zero, List.set_cons_succ]
  refine wpAnyG_take (i := 5) (oi := { dst := some 6, op := Op.load 60 (Operand.tmp 5), type := 60, pos := _, after := #[{ on := 4, ground := Ground.data }], guard := none }) (v := ?_) rfl (by kernel_rfl) (by kernel_rfl) (by kernel_rfl) (by kernel_rfl) (fun _ _ _ h => h) (Or.inl ⟨by rfl, ?_⟩) (by assumption) ?_
  rotate_left
  · intro w hSw
    try dsimp only at hSw
    go_simp
    try with_reducible rfl
  try simp only [Act.put, List.setIfInBounds_toArray, List.set_cons_zero, List.set_cons_succ]
  refine wpAnyG_one (i := 6) (o := { dst := some 7, op := Op.call { callee := Callee.value (Operand.func 31), args := #[Operand.tmp 6], argTypes := #[60] }, type := 60, pos := _, after := #[{ on := 5, ground := Ground.data }], guard := none }) (by kernel_rfl) rfl (fun K hK => ?_)
  go_simp
  refine HC.out.mono ?_
  rintro e w1 ⟨rfl, hm1, hb1, hs1⟩
  have H1 := Lib.hid (And.intro hm1 (And.intro hb1 hs1))
  clear hm1 hb1 hs1
  try dsimp only
  refine hK.out _ _ ?_ (fun hHeld => ?_)
  · intro _
    try dsimp only
    exact ⟨cellB H1.out.2.1 hHeld.1, cellB H1.out.2.1 hHeld.2⟩
  clear hK K
  try simp only [Act.put, List.setIfInBounds_toArray, List.set_cons_zero, List.set_cons_succ]
  have hHeld := hHeld (by kernel_rfl)
  refine wpAnyG_pure (i := 7) (oi := { dst := some 8, op := Op.nilCheck (Operand.tmp 1), type := 0, pos := _, after := #[{ on := 0, ground := Ground.data }, { on := 0, ground := Ground.phase }, { on := 1, ground := Ground.textOnly Departure.inlinedCapture }, { on := 2, ground := Ground.phase }, { on := 3, ground := Ground.phase }, { on := 4, ground := Ground.phase }, { on := 5, ground := Ground.phase }, { on := 6, ground := Ground.phase }], guard := none }) (v := ?_) rfl (by kernel_rfl) (by kernel_rfl) (by kernel_rfl) (by kernel_rfl) (fun _ _ _ h => h) (Or.inl ⟨by rfl, ?_⟩) (fun _ => by assumption) ?_
  rotate_left
  · intro w hSw
    try dsimp only at hSw
    go_simp
    try with_reducible rfl
  try simp only [Act.put, List.setIfInBounds_toArray, List.set_cons_zero, List.set_cons_succ]
  refine wpAnyG_pure (i := 8) (oi := { dst := some 9, op := Op.fieldAddr 63 (Operand.tmp 8) 1, type := 0, pos := _, after := #[{ on := 7, ground := Ground.data }, { on := 0, ground := Ground.phase }, { on := 1, ground := Ground.textOnly Departure.inlinedCapture }, { on := 2, ground := Ground.phase }, { on := 3, ground := Ground.phase }, { on := 4, ground := Ground.phase }, { on := 5, ground := Ground.phase }, { on := 6, ground := Ground.phase }], guard := none }) (v := ?_) rfl (by kernel_rfl) (by kernel_rfl) (by kernel_rfl) (by kernel_rfl) (fun _ _ _ h => h) (Or.inl ⟨by rfl, ?_⟩) (fun _ => by assumption) ?_
  rotate_left
  · intro w hSw
    try dsimp only at hSw
    go_simp
    try with_reducible rfl
  try simp only [Act.put, List.setIfInBounds_toArray, List.set_cons_zero, List.set_cons_succ]
  refine wpAnyG_one (i := 9) (o := { dst := none, op := Op.store 60 (Operand.tmp 9) (Operand.tmp 7), type := 0, pos := _, after := #[{ on := 8, ground := Ground.data }, { on := 6, ground := Ground.data }, { on := 6, ground := Ground.chain }, { on := 0, ground := Ground.phase }, { on := 1, ground := Ground.textOnly Departure.inlinedCapture }, { on := 2, ground := Ground.phase }, { on := 3, ground := Ground.phase }, { on := 4, ground := Ground.phase }, { on := 5, ground := Ground.phase }, { on := 6, ground := Ground.phase }], guard := none }) (by kernel_rfl) rfl (fun K hK => ?_)
  have HBK := Lib.hid (H.out.blk.keep H1.out.2.1)
  have z0 := HBK.out.frozen 1
  have cc0 : w1.cell? ⟨p, 1, none⟩ = some (.map (some ms)) := HBK.out.cell 1
  go_simp
  clear z0 cc0
  try dsimp only
  refine hK.out _ _ ?_ (fun hHeld => ?_)
  · intro _
    try dsimp only
    exact ⟨cellSet hHeld.1 HP.out, cellSet2 hHeld.2 (by decide)⟩
  clear hK K
  try simp only [Act.put, List.setIfInBounds_toArray, List.set_cons_zero, List.set_cons_succ]
  have hHeld := hHeld (by kernel_rfl)
  refine wpAnyG_pure (i := 10) (oi := { dst := some 10, op := Op.nilCheck (Operand.tmp 2), type := 0, pos := _, after := #[{ on := 1, ground := Ground.data }, { on := 0, ground := Ground.phase }, { on := 1, ground := Ground.phase }, { on := 2, ground := Ground.phase }, { on := 3, ground := Ground.phase }, { on := 4, ground := Ground.phase }, { on := 5, ground := Ground.phase }, { on := 6, ground := Ground.phase }, { on := 7, ground := Ground.phase }, { on := 8, ground := Ground.phase }, { on := 9, ground := Ground.phase }], guard := none }) (v := ?_) rfl (by kernel_rfl) (by kernel_rfl) (by kernel_rfl) (by kernel_rfl) (fun _ _ _ h => h) (Or.inl ⟨by rfl, ?_⟩) (fun _ => by assumption) ?_
  rotate_left
  · intro w hSw
    try dsimp only at hSw
    go_simp
    try with_reducible rfl
  try simp only [Act.put, List.setIfInBounds_toArray, List.set_cons_zero, List.set_cons_succ]
  refine wpAnyG_pure (i := 11) (oi := { dst := some 11, op := Op.fieldAddr 63 (Operand.tmp 10) 3, type := 0, pos := _, after := #[{ on := 10, ground := Ground.data }, { on := 0, ground := Ground.phase }, { on := 1, ground := Ground.phase }, { on := 2, ground := Ground.phase }, { on := 3, ground := Ground.phase }, { on := 4, ground := Ground.phase }, { on := 5, ground := Ground.phase }, { on := 6, ground := Ground.phase }, { on := 7, ground := Ground.phase }, { on := 8, ground := Ground.phase }, { on := 9, ground := Ground.phase }], guard := none }) (v := ?_) rfl (by kernel_rfl) (by kernel_rfl) (by kernel_rfl) (by kernel_rfl) (fun _ _ _ h => h) (Or.inl ⟨by rfl, ?_⟩) (fun _ => by assumption) ?_
  rotate_left
  · intro w hSw
    try dsimp only at hSw
    go_simp
    try with_reducible rfl
  try simp only [Act.put, List.setIfInBounds_toArray, List.set_cons_zero, List.set_cons_succ]
  refine wpAnyG_one (i := 12) (o := { dst := none, op := Op.store 61 (Operand.tmp 11) (Operand.const (Value.slice none 0 0)), type := 0, pos := _, after := #[{ on := 11, ground := Ground.data }, { on := 9, ground := Ground.chain }, { on := 0, ground := Ground.phase }, { on := 1, ground := Ground.phase }, { on := 2, ground := Ground.phase }, { on := 3, ground := Ground.phase }, { on := 4, ground := Ground.phase }, { on := 5, ground := Ground.phase }, { on := 6, ground := Ground.phase }, { on := 7, ground := Ground.phase }, { on := 8, ground := Ground.phase }, { on := 9, ground := Ground.phase }], guard := none }) (by kernel_rfl) rfl (fun K hK => ?_)
  have HB2 := Lib.hid (HBK.out.set_ 1 (.map (some w.heap.size)))
  have z0 := HB2.out.frozen 3
  have cc0 : (w1.setCell ⟨p, 1, none⟩ (.map (some w.heap.size))).cell? ⟨p, 3, none⟩ = some (.slice A s.L.length c) := HB2.out.cell 3
  go_simp
  clear z0 cc0
  try dsimp only
  refine hK.out _ _ ?_ (fun hHeld => ?_)
  · intro _
    try dsimp only
    exact ⟨cellSet hHeld.1 HP.out, cellSet2 hHeld.2 (by decide)⟩
  clear hK K
  try simp only [Act.put, List.setIfInBounds_toArray, List.set_cons_zero, List.set_cons_succ]
  have hHeld := hHeld (by kernel_rfl)
  refine wpAnyG_done (by kernel_rfl) ?_ _
  refine NoPanic.normal ?_
  --END sync1
  go_end0
  obtain ⟨hm1, hb1, hs1⟩ := H1.out
  have hs1 : w1.heap.size = w.heap.size + 1 := hs1
  have hm1 : MB w1 w.heap.size m s.N := hm1
  have hn := H.out
  have hfp : p < w.heap.size := hn.lt p hn.foot.1
  have hfm : mn < w.heap.size := hn.lt mn hn.foot.2.2.1
  have f1 : Fr (fun k => k = p) w1 ((w1.setCell ⟨p, 1, none⟩ (.map (some w.heap.size))).setCell ⟨p, 3, none⟩ (.slice none 0 0)) := ((Fr.refl (fun k => k = p) w1).setCell (p := ⟨p, 1, none⟩) (fun _ => rfl) _).setCell (p := ⟨p, 3, none⟩) (fun _ => rfl) _
  have f0 : Fr (fun k => k = p) w ((w1.setCell ⟨p, 1, none⟩ (.map (some w.heap.size))).setCell ⟨p, 3, none⟩ (.slice none 0 0)) := (Fr.quiet (S := fun k => k = p) (next (nextN (Mem.start w) 1) hb1)).trans f1 fun _ _ h => h
  have hsz : ((w1.setCell ⟨p, 1, none⟩ (.map (some w.heap.size))).setCell ⟨p, 3, none⟩ (.slice none 0 0)).heap.size = w.heap.size + 1 := by rw [← hs1]; simp [World.setCell]
  refine ⟨rfl, fun k => F k ∨ k = w.heap.size, ⟨w.heap.size, mn, none, 0, HB2.out.set_ 3 (.slice none 0 0), ⟨m, hm1.fr f1 (fun e => by omega), Nat.le_refl _⟩, (hn.mN.keep hb1).fr f1 hn.foot.2.2.2.2.2.1, OwnK.nil, ⟨(fun x hx => by cases hx), hn.lens.2.2, hn.lens.2.2⟩, ⟨.inl hn.foot.1, .inr rfl, .inl hn.foot.2.2.1, by omega, by omega, hn.foot.2.2.2.2.2.1, (fun g hg => by cases hg)⟩, fun k hk => ?_, hn.bound⟩, fun k hk => hk.elim .inl (fun e => .inr (by omega)), f0.mono fun k _ e => by rw [e]; exact hn.foot.1⟩
  rw [hsz]
  rcases hk with hk | hk
  · have : k < w.heap.size := hn.lt k hk
    omega
  · omega
theorem fr_comp {S S' : Nat → Prop} {w w' w'' : World} (h : Fr S w w') (k : Fr S' w' w'') (hg : ∀ i, S' i → S i ∨ w.heap.size ≤ i) : Fr S w w'' := h.trans k fun i hi hs => (hg i hs).elim id fun h => by omega
section
variable {F : Nat → Prop} {p m : Nat} {s : DS} {w : World}
/-- The step counted, and how many go well yet: in memory. -/
theorem DkM.count (h : DkM F p m s w) (hs : s.steps + 1 ≤ 256 ^ 3) : DkM F p m { s with steps := s.steps + 1 } (w.setCell ⟨p, 4, none⟩ (.int .i64 ((s.steps : Int) + 1))) ∧ Fr F w (w.setCell ⟨p, 4, none⟩ (.int .i64 ((s.steps : Int) + 1))) := by
  obtain ⟨ms, mn, A, c, h⟩ := h
  have hf : Fr (fun k => k = p) w (w.setCell ⟨p, 4, none⟩ (.int .i64 ((s.steps : Int) + 1))) := (Fr.refl (fun k => k = p) w).setCell (p := ⟨p, 4, none⟩) (fun _ => rfl) _
  obtain ⟨k, h1, h2⟩ := h.mS
  refine ⟨⟨ms, mn, A, c, ?_, ⟨k, h1.fr hf h.foot.2.2.2.2.1, h2⟩, h.mN.fr hf h.foot.2.2.2.2.2.1, h.row.fr hf (fun g hg => (h.foot.2.2.2.2.2.2 g hg).2.1), h.lens, h.foot, fun k hk => Nat.lt_of_lt_of_le (h.lt k hk) hf.size, h.bound.1, hs, by have := h.bound.2.2.1; show m ≤ s.steps + 1 + 1; omega, h.bound.2.2.2⟩, hf.mono fun k _ e => by rw [e]; exact h.foot.1⟩
  have := h.blk.set_ 4 (.int .i64 ((s.steps : Int) + 1))
  exact this
theorem DkM.less (h : DkM F p m s w) (v : Int) (hv : -1 ≤ v ∧ v ≤ 9223372036854775807) : DkM F p m { s with well := v } (w.setCell ⟨p, 5, none⟩ (.int .i64 v)) ∧ Fr F w (w.setCell ⟨p, 5, none⟩ (.int .i64 v)) := by
  obtain ⟨ms, mn, A, c, h⟩ := h
  have hf : Fr (fun k => k = p) w (w.setCell ⟨p, 5, none⟩ (.int .i64 v)) := (Fr.refl (fun k => k = p) w).setCell (p := ⟨p, 5, none⟩) (fun _ => rfl) _
  obtain ⟨k, h1, h2⟩ := h.mS
  exact ⟨⟨ms, mn, A, c, h.blk.set_ 5 (.int .i64 v), ⟨k, h1.fr hf h.foot.2.2.2.2.1, h2⟩, h.mN.fr hf h.foot.2.2.2.2.2.1, h.row.fr hf (fun g hg => (h.foot.2.2.2.2.2.2 g hg).2.1), h.lens, h.foot, fun k hk => Nat.lt_of_lt_of_le (h.lt k hk) hf.size, h.bound.1, h.bound.2.1, h.bound.2.2.1, hv⟩, hf.mono fun k _ e => by rw [e]; exact h.foot.1⟩
set_option maxRecDepth 100000 in
set_option maxHeartbeats 2000000 in
theorem step_write (h : DkM F p m s w) (hs : s.steps + 1 ≤ 256 ^ 3) : Calls Try.prog 33 #[.pointer (some ⟨p, 0, none⟩), .func (.func 35) #[] #[]] w (DkOkM w F p m (s.step id).1 (.int .i64 (s.step id).2)) := by
  obtain ⟨v, hv⟩ : ∃ v, max (-1) (s.well - 1) = v := ⟨_, rfl⟩
  have H1 := Lib.hid (h.count hs)
  obtain ⟨ms, mn, A, c, h⟩ := h
  have hwl := h.bound.2.2.2
  have hc4 := h.cells.2.2.2.2.1
  have hz4 := h.blk.frozen 4
  have hs2 : (s.steps : Int) ≤ 256 ^ 3 := by omega
  have hs0 : (0 : Int) ≤ (s.steps : Int) := by omega
  have hc5 : (w.setCell ⟨p, 4, none⟩ (.int .i64 ((s.steps : Int) + 1))).cell? ⟨p, 5, none⟩ = some (.int .i64 s.well) := cellSet2 h.cells.2.2.2.2.2.1 (by decide)
  have hz5 : (w.setCell ⟨p, 4, none⟩ (.int .i64 ((s.steps : Int) + 1))).frozen? ⟨p, 5, none⟩ = false := (h.blk.set_ 4 _).frozen 5
  clear h hs
  unfold DS.step
  by_cases hw0 : s.well = 0
  · rw [if_pos hw0]
    rw [hw0] at hc5
    clear hv hwl
    go_enter Try.func33, Try.ntmps33
    go_wp2_with fail
    refine (crash_any H1.out.1).mono ?_
    rintro e w2 ⟨rfl, h2, f2, _⟩
    have H2 := Lib.hid (And.intro h2 f2)
    clear h2 f2
    go_wp2_with fail
    go_ret
    exact ⟨rfl, F, H2.out.1, fun _ h => .inl h, H1.out.2.trans H2.out.2 fun _ _ h => h⟩
  · rw [if_neg hw0]
    have hwb : (s.well == 0) = false := by simp [hw0]
    have hv2 : -1 ≤ v ∧ v ≤ 9223372036854775807 := by omega
    have H2 := Lib.hid (H1.out.1.less v hv2)
    dsimp only
    rw [hv]
    clear hv2
    by_cases hw1 : s.well - 1 > -1
    · obtain rfl : v = s.well - 1 := by rw [← hv]; omega
      clear hv
      go_enter Try.func33, Try.ntmps33
      go_wp2_with fail
      refine (nothing_any _).mono ?_
      rintro e w' ⟨rfl, rfl⟩
      go_wp2_with fail
      go_ret
      exact ⟨rfl, F, H2.out.1, fun _ h => .inl h, H1.out.2.trans H2.out.2 fun _ _ h => h⟩
    · obtain rfl : v = -1 := by rw [← hv]; omega
      have hw2 : s.well - 1 ≤ -1 := by omega
      clear hv
      go_enter Try.func33, Try.ntmps33
      go_wp2_with fail
      refine (nothing_any _).mono ?_
      rintro e w' ⟨rfl, rfl⟩
      go_wp2_with fail
      go_ret
      exact ⟨rfl, F, H2.out.1, fun _ h => .inl h, H1.out.2.trans H2.out.2 fun _ _ h => h⟩
set_option maxRecDepth 100000 in
set_option maxHeartbeats 2000000 in
theorem step_sync (b : Nat) (hb : w.cell? ⟨b, 0, none⟩ = some (.pointer (some ⟨p, 0, none⟩))) (hbF : ¬ F b) (h : DkM F p m s w) (hs : s.steps + 1 ≤ 256 ^ 3) : Calls Try.prog 33 #[.pointer (some ⟨p, 0, none⟩), .func (.func 34) #[] #[.pointer (some ⟨b, 0, none⟩)]] w (DkOkM w F p m (s.step DS.settle).1 (.int .i64 (s.step DS.settle).2)) := by
  obtain ⟨v, hv⟩ : ∃ v, max (-1) (s.well - 1) = v := ⟨_, rfl⟩
  have H1 := Lib.hid (h.count hs)
  obtain ⟨ms, mn, A, c, h⟩ := h
  have hwl := h.bound.2.2.2
  have hc4 := h.cells.2.2.2.2.1
  have hz4 := h.blk.frozen 4
  have hs2 : (s.steps : Int) ≤ 256 ^ 3 := by omega
  have hs0 : (0 : Int) ≤ (s.steps : Int) := by omega
  have hc5 : (w.setCell ⟨p, 4, none⟩ (.int .i64 ((s.steps : Int) + 1))).cell? ⟨p, 5, none⟩ = some (.int .i64 s.well) := cellSet2 h.cells.2.2.2.2.2.1 (by decide)
  have hz5 : (w.setCell ⟨p, 4, none⟩ (.int .i64 ((s.steps : Int) + 1))).frozen? ⟨p, 5, none⟩ = false := (h.blk.set_ 4 _).frozen 5
  have HB := Lib.hid (show ((w.setCell ⟨p, 4, none⟩ (.int .i64 ((s.steps : Int) + 1))).setCell ⟨p, 5, none⟩ (.int .i64 v)).cell? ⟨b, 0, none⟩ = some (.pointer (some ⟨p, 0, none⟩)) from cellSet (cellSet hb (fun e => hbF (by rw [← e]; exact h.foot.1))) (fun e => hbF (by rw [← e]; exact h.foot.1)))
  have HBF := Lib.hid hbF
  clear hb hbF
  clear h hs
  unfold DS.step
  by_cases hw0 : s.well = 0
  · rw [if_pos hw0]
    rw [hw0] at hc5
    clear hv hwl
    go_enter Try.func33, Try.ntmps33
    go_wp2_with fail
    refine (crash_any H1.out.1).mono ?_
    rintro e w2 ⟨rfl, h2, f2, _⟩
    have H2 := Lib.hid (And.intro h2 f2)
    clear h2 f2
    go_wp2_with fail
    go_ret
    exact ⟨rfl, F, H2.out.1, fun _ h => .inl h, H1.out.2.trans H2.out.2 fun _ _ h => h⟩
  · rw [if_neg hw0]
    have hwb : (s.well == 0) = false := by simp [hw0]
    have hv2 : -1 ≤ v ∧ v ≤ 9223372036854775807 := by omega
    have H2 := Lib.hid (H1.out.1.less v hv2)
    dsimp only
    rw [hv]
    clear hv2
    by_cases hw1 : s.well - 1 > -1
    · obtain rfl : v = s.well - 1 := by rw [← hv]; omega
      clear hv
      go_enter Try.func33, Try.ntmps33
      go_wp2_with fail
      refine (settle_any F p m b _ _ H2.out.1 HB.out HBF.out).mono ?_
      rintro e w3 ⟨rfl, F', h3, g3, f3⟩
      have H3 := Lib.hid (And.intro h3 (And.intro g3 f3))
      clear h3 g3 f3
      go_wp2_with fail
      go_ret
      have f2 : Fr F w _ := H1.out.2.trans H2.out.2 fun _ _ h => h
      exact ⟨rfl, F', H3.out.1, fun k hk => (H3.out.2.1 k hk).imp id (fun h => Nat.le_trans f2.size h), f2.trans H3.out.2.2 fun _ _ h => h⟩
    · obtain rfl : v = -1 := by rw [← hv]; omega
      have hw2 : s.well - 1 ≤ -1 := by omega
      clear hv
      go_enter Try.func33, Try.ntmps33
      go_wp2_with fail
      refine (settle_any F p m b _ _ H2.out.1 HB.out HBF.out).mono ?_
      rintro e w3 ⟨rfl, F', h3, g3, f3⟩
      have H3 := Lib.hid (And.intro h3 (And.intro g3 f3))
      clear h3 g3 f3
      go_wp2_with fail
      go_ret
      have f2 : Fr F w _ := H1.out.2.trans H2.out.2 fun _ _ h => h
      exact ⟨rfl, F', H3.out.1, fun k hk => (H3.out.2.1 k hk).imp id (fun h => Nat.le_trans f2.size h), f2.trans H3.out.2.2 fun _ _ h => h⟩
end
end Go.Proofs.Ytjpelifafmkdpaa.DkW
