/- Package wire's Lie. Printed by genwlie.py (raw numbers of the seat). -/
import Derived.Test.YtebdmfmadbikaaaDoorWrClone
namespace Go.Proofs.YtebdmfmadbikaaaDoor.WiW
open Go.RowKit Go.Shelf Mem Fds FdW Wi Rng
set_option linter.unusedVariables false
set_option linter.unusedSimpArgs false

/-- A lie. -/
def lie (m : Msg) (b : List UInt8) : Msg := if tells m.kind = true then { m with data := b } else m
/-- What Lie leaves: slices of its own. -/
def LieR (w : World) (m : Msg) (b : List UInt8) (e : Ending) (w' : World) : Prop :=
  ∃ s', e = .returned (.agg (mv (lie m b) s')) ∧ MIn w' w'.heap.size (lie m b) s' ∧ Mem.Own w' w.heap.size 5 s'.da s'.dk ((lie m b).data.map u8v) ∧ Below w.heap.size w w'
theorem own_base {w : World} {base : Nat} {T : TypeId} {A : Option Addr} {c : Nat} {xs : List Value} (h : Mem.Own w base T A c xs) : ∀ g, A = some ⟨g, 0, none⟩ → base ≤ g := by
  intro g hg
  rcases h.form with ⟨h, _⟩ | ⟨g', h, h1, _⟩
  · rw [h] at hg; cases hg
  · rw [h] at hg; injection hg with hg; injection hg with hg; omega
theorem ownK_base {w : World} {base K n : Nat} {T : TypeId} {A : Option Addr} {c : Nat} {xs : List Value} (h : OwnK w base T K A n c xs) : ∀ g, A = some ⟨g, 0, none⟩ → base ≤ g := by
  intro g hg
  rcases h.form with ⟨h, _⟩ | ⟨g', h, h1, _⟩
  · rw [h] at hg; cases hg
  · rw [h] at hg; injection hg with hg; injection hg with hg; omega
/-- A message's slices, rows of their own from block B on. -/
structure Tri (w : World) (B : Nat) (m : Msg) (s : Sl) : Prop where
  ids : OwnK w B 50 2 s.ia m.ids.length s.ic (m.ids.flatMap dc)
  nodes : Mem.Own w B 3 s.na s.nc (m.nodes.map iv)
  data : Mem.Own w B 5 s.da s.dk (m.data.map u8v)
theorem Tri.fr {S : Nat → Prop} {w w' : World} {B : Nat} {m : Msg} {s : Sl} (h : Tri w B m s) (hf : Fr S w w') (hS : ∀ k, B ≤ k → ¬ S k) : Tri w' B m s :=
  ⟨h.ids.fr hf fun g hg => hS g (ownK_base h.ids g hg), h.nodes.fr hf fun g hg => hS g (own_base h.nodes g hg), h.data.fr hf fun g hg => hS g (own_base h.data g hg)⟩
theorem Tri.keep {w w' : World} {B : Nat} {m : Msg} {s : Sl} (h : Tri w B m s) (hb : Below w.heap.size w w') : Tri w' B m s := ⟨h.ids.keep hb, h.nodes.keep hb, h.data.keep hb⟩
theorem Tri.min {w w0 : World} {B : Nat} {m m0 : Msg} {s s0 : Sl} (h : Tri w B m s) (h0 : MIn w0 w0.heap.size m0 s0) (e : ∃ b, b.length ≤ 100000000 ∧ m = { m0 with data := b }) : MIn w w.heap.size m s := by
  obtain ⟨b, hb, rfl⟩ := e
  exact ⟨h.ids.cells, h.nodes.cells, h.data.cells, h0.kind, h0.lk, h0.li, h0.ln, hb, h0.lik⟩
theorem Tri.down {w : World} {B B' : Nat} {m : Msg} {s : Sl} (h : Tri w B m s) (hB : B' ≤ B) : Tri w B' m s := ⟨h.ids.down hB, h.nodes.down hB, h.data.down hB⟩
set_option maxRecDepth 100000 in
set_option maxHeartbeats 8000000 in
theorem lie_any (w : World) (m : Msg) (s : Sl) (hI : MIn w w.heap.size m s) (B : Option Addr) (b : List UInt8) (n d : Nat) (hn : n = b.length) (hnl : n ≤ 100000000) (hB : Bytes w w.heap.size B b) :
    Calls Tryd.prog 19 #[.agg (mv m s), .slice B n d] w (LieR w m b) := by
  obtain ⟨q, hq⟩ : ∃ q, w.heap.size = q := ⟨_, rfl⟩
  obtain ⟨w1, hw1⟩ : ∃ x : World, (w.alloc (.cells (mv m s) 27)).alloc (.cells #[.int .u8 0, .int .i64 0, .int .i64 0, .int .i64 0, .string { data := #[] }, .int .i64 0, .int .i64 0, .int .i64 0, .int .i64 0, .int .i64 0, .bool false, .slice none 0 0, .slice none 0 0, .slice none 0 0] 27) = x := ⟨_, rfl⟩
  have hb1 : Below w.heap.size w w1 := by rw [← hw1]; exact nextA (nextA (Mem.start w) _) _
  have HX := Lib.hid (show Blk w1 q 27 (mv m s) ∧ Blk w1 (q + 1) 27 #[.int .u8 0, .int .i64 0, .int .i64 0, .int .i64 0, .string { data := #[] }, .int .i64 0, .int .i64 0, .int .i64 0, .int .i64 0, .int .i64 0, .bool false, .slice none 0 0, .slice none 0 0, .slice none 0 0] from by
    rw [← hw1, ← hq]
    refine ⟨(Blk.new w _ _).keep (nextA (Mem.start _) _), ?_⟩
    have := Blk.new (w.alloc (.cells (mv m s) 27)) 27 #[.int .u8 0, .int .i64 0, .int .i64 0, .int .i64 0, .string { data := #[] }, .int .i64 0, .int .i64 0, .int .i64 0, .int .i64 0, .int .i64 0, .bool false, .slice none 0 0, .slice none 0 0, .slice none 0 0]
    rw [World.size_alloc] at this; exact this)
  have HB1 := Lib.hid (show Below q w w1 ∧ q = w.heap.size by rw [← hq]; exact ⟨hb1, rfl⟩)
  have HI := Lib.hid (And.intro hI (And.intro hB (And.intro hn hnl)))
  have HS := Lib.hid (show w1.heap.size = q + 2 by rw [← hw1, ← hq]; simp)
  clear hI hB hb1 hn hnl
  go_enter Tryd.func19, Tryd.ntmps19
  go_wp2_with fail
  refine wp_region_noPanic ?_
  refine wp_heldG (fun V => Blk V q 27 (mv m s)) [10, 12, 14] (by kernel_rfl) ?hs0 ?rg0
  case hs0 =>
    exact HX.out.1.keep (nextN (Mem.start w1) 1)
  case rg0 =>
  intro hHeld
  clear hw1
  refine wpAnyG_pure (i := 0) (oi := { dst := some 5, op := Op.fieldAddr 27 (Operand.tmp 2) 11, type := 0, pos := _, after := #[], guard := none }) (v := ?_) rfl (by kernel_rfl) (by kernel_rfl) (by kernel_rfl) (by kernel_rfl) (fun _ _ _ h => h) (Or.inl ⟨by rfl, ?_⟩) (fun _ => by assumption) ?_
  rotate_left
  · intro w hSw
    try dsimp only at hSw
    go_simp
    try with_reducible rfl
  try simp only [Act.put, List.setIfInBounds_toArray, List.set_cons_zero, List.set_cons_succ]
  refine wpAnyG_take (i := 1) (oi := { dst := some 6, op := Op.load 23 (Operand.tmp 5), type := 23, pos := _, after := #[{ on := 0, ground := Ground.data }], guard := none }) (v := ?_) rfl (by kernel_rfl) (by kernel_rfl) (by kernel_rfl) (by kernel_rfl) (fun _ _ _ h => h) (Or.inl ⟨by rfl, ?_⟩) (by assumption) ?_
  rotate_left
  · intro w hSw
    try dsimp only at hSw
    have hk := hSw.cell 11
    simp [mv] at hk
    go_simp
    try with_reducible rfl
  try simp only [Act.put, List.setIfInBounds_toArray, List.set_cons_zero, List.set_cons_succ]
  refine wpAnyG_pure (i := 3) (oi := { dst := some 8, op := Op.fieldAddr 27 (Operand.tmp 2) 12, type := 0, pos := _, after := #[], guard := none }) (v := ?_) rfl (by kernel_rfl) (by kernel_rfl) (by kernel_rfl) (by kernel_rfl) (fun _ _ _ h => h) (Or.inl ⟨by rfl, ?_⟩) (fun _ => by assumption) ?_
  rotate_left
  · intro w hSw
    try dsimp only at hSw
    go_simp
    try with_reducible rfl
  try simp only [Act.put, List.setIfInBounds_toArray, List.set_cons_zero, List.set_cons_succ]
  refine wpAnyG_take (i := 4) (oi := { dst := some 9, op := Op.load 24 (Operand.tmp 8), type := 24, pos := _, after := #[{ on := 3, ground := Ground.data }], guard := none }) (v := ?_) rfl (by kernel_rfl) (by kernel_rfl) (by kernel_rfl) (by kernel_rfl) (fun _ _ _ h => h) (Or.inl ⟨by rfl, ?_⟩) (by assumption) ?_
  rotate_left
  · intro w hSw
    try dsimp only at hSw
    have hk := hSw.cell 12
    simp [mv] at hk
    go_simp
    try with_reducible rfl
  try simp only [Act.put, List.setIfInBounds_toArray, List.set_cons_zero, List.set_cons_succ]
  refine wpAnyG_pure (i := 6) (oi := { dst := some 11, op := Op.fieldAddr 27 (Operand.tmp 2) 13, type := 0, pos := _, after := #[], guard := none }) (v := ?_) rfl (by kernel_rfl) (by kernel_rfl) (by kernel_rfl) (by kernel_rfl) (fun _ _ _ h => h) (Or.inl ⟨by rfl, ?_⟩) (fun _ => by assumption) ?_
  rotate_left
  · intro w hSw
    try dsimp only at hSw
    go_simp
    try with_reducible rfl
  try simp only [Act.put, List.setIfInBounds_toArray, List.set_cons_zero, List.set_cons_succ]
  refine wpAnyG_take (i := 7) (oi := { dst := some 12, op := Op.load 25 (Operand.tmp 11), type := 25, pos := _, after := #[{ on := 6, ground := Ground.data }], guard := none }) (v := ?_) rfl (by kernel_rfl) (by kernel_rfl) (by kernel_rfl) (by kernel_rfl) (fun _ _ _ h => h) (Or.inl ⟨by rfl, ?_⟩) (by assumption) ?_
  rotate_left
  · intro w hSw
    try dsimp only at hSw
    have hk := hSw.cell 13
    simp [mv] at hk
    go_simp
    try with_reducible rfl
  try simp only [Act.put, List.setIfInBounds_toArray, List.set_cons_zero, List.set_cons_succ]
  refine wpAnyG_one (i := 2) (o := { dst := some 7, op := Op.call { callee := Callee.value (Operand.func 43), args := #[Operand.tmp 6], argTypes := #[23] }, type := 23, pos := _, after := #[{ on := 1, ground := Ground.data }], guard := none }) (by kernel_rfl) rfl (fun K hK => ?_)
  go_simp
  refine (cloneD_any _ _ m.ids _ _ rfl HI.out.1.li (HI.out.1.keep (nextN (HB1.out.2 ▸ HB1.out.1 : Below w.heap.size w w1) 1)).ids).mono ?_
  rintro e w4 ⟨A4, c4, rfl, ho4, hb⟩
  have H4 := Lib.hid (And.intro ho4 hb)
  clear ho4
  try dsimp only
  refine hK.out _ _ ?_ (fun hHeld => ?_)
  · intro _
    try dsimp only
    exact hHeld.keep hb
  clear hK K
  try simp only [Act.put, List.setIfInBounds_toArray, List.set_cons_zero, List.set_cons_succ]
  have hHeld := hHeld (by kernel_rfl)
  refine wpAnyG_pure (i := 9) (oi := { dst := some 14, op := Op.fieldAddr 27 (Operand.tmp 2) 11, type := 0, pos := _, after := #[{ on := 0, ground := Ground.phase }, { on := 1, ground := Ground.phase }, { on := 2, ground := Ground.phase }, { on := 3, ground := Ground.phase }, { on := 4, ground := Ground.phase }, { on := 5, ground := Ground.textOnly Departure.lateStoresUnsure }, { on := 6, ground := Ground.phase }, { on := 7, ground := Ground.phase }, { on := 8, ground := Ground.textOnly Departure.lateStoresUnsure }], guard := none }) (v := ?_) rfl (by kernel_rfl) (by kernel_rfl) (by kernel_rfl) (by kernel_rfl) (fun _ _ _ h => h) (Or.inl ⟨by rfl, ?_⟩) (fun _ => by assumption) ?_
  rotate_left
  · intro w hSw
    try dsimp only at hSw
    go_simp
    try with_reducible rfl
  try simp only [Act.put, List.setIfInBounds_toArray, List.set_cons_zero, List.set_cons_succ]
  refine wpAnyG_one (i := 5) (o := { dst := some 10, op := Op.call { callee := Callee.value (Operand.func 44), args := #[Operand.tmp 9], argTypes := #[24] }, type := 24, pos := _, after := #[{ on := 4, ground := Ground.data }, { on := 2, ground := Ground.chain }], guard := none }) (by kernel_rfl) rfl (fun K hK => ?_)
  go_simp
  refine (cloneI_any _ _ m.nodes _ _ rfl HI.out.1.ln (HI.out.1.keep (next (nextN (HB1.out.2 ▸ HB1.out.1 : Below w.heap.size w w1) 1) H4.out.2)).nodes).mono ?_
  rintro e w5 ⟨A5, c5, rfl, ho5, hb⟩
  have H5 := Lib.hid (And.intro ho5 hb)
  clear ho5
  try dsimp only
  refine hK.out _ _ ?_ (fun hHeld => ?_)
  · intro _
    try dsimp only
    exact hHeld.keep hb
  clear hK K
  try simp only [Act.put, List.setIfInBounds_toArray, List.set_cons_zero, List.set_cons_succ]
  have hHeld := hHeld (by kernel_rfl)
  refine wpAnyG_one (i := 8) (o := { dst := some 13, op := Op.call { callee := Callee.value (Operand.func 45), args := #[Operand.tmp 12], argTypes := #[25] }, type := 25, pos := _, after := #[{ on := 7, ground := Ground.data }, { on := 5, ground := Ground.chain }], guard := none }) (by kernel_rfl) rfl (fun K hK => ?_)
  go_simp
  refine (clone_any _ _ m.data _ _ rfl HI.out.1.ld (HI.out.1.keep (next (next (nextN (HB1.out.2 ▸ HB1.out.1 : Below w.heap.size w w1) 1) H4.out.2) H5.out.2)).data).mono ?_
  rintro e w6 ⟨A6, c6, rfl, ho6, hb⟩
  have H6 := Lib.hid (And.intro ho6 hb)
  have HQ6 := Lib.hid (hHeld.keep hb)
  clear ho6
  try dsimp only
  refine hK.out _ _ ?_ (fun hHeld => ?_)
  · intro _
    try dsimp only
    exact hHeld.keep hb
  clear hK K
  try simp only [Act.put, List.setIfInBounds_toArray, List.set_cons_zero, List.set_cons_succ]
  have hHeld := hHeld (by kernel_rfl)
  refine wpAnyG_one (i := 10) (o := { dst := none, op := Op.store 23 (Operand.tmp 14) (Operand.tmp 7), type := 0, pos := _, after := #[{ on := 9, ground := Ground.data }, { on := 2, ground := Ground.data }, { on := 8, ground := Ground.chain }, { on := 0, ground := Ground.phase }, { on := 1, ground := Ground.phase }, { on := 2, ground := Ground.phase }, { on := 3, ground := Ground.phase }, { on := 4, ground := Ground.phase }, { on := 5, ground := Ground.textOnly Departure.lateStoresUnsure }, { on := 6, ground := Ground.phase }, { on := 7, ground := Ground.phase }, { on := 8, ground := Ground.textOnly Departure.lateStoresUnsure }], guard := none }) (by kernel_rfl) rfl (fun K hK => ?_)
  have z0 := HQ6.out.frozen 11
  have c0 := HQ6.out.cell 11
  simp [mv] at c0
  go_simp
  try dsimp only
  clear z0 c0
  refine hK.out _ _ ?_ (fun hHeld => ?_)
  · exact fun h => (st_no (by kernel_rfl) h).elim
  clear hK K
  try simp only [Act.put, List.setIfInBounds_toArray, List.set_cons_zero, List.set_cons_succ]
  clear hHeld
  refine wpAnyG_pure (i := 11) (oi := { dst := some 15, op := Op.fieldAddr 27 (Operand.tmp 2) 12, type := 0, pos := _, after := #[{ on := 0, ground := Ground.phase }, { on := 1, ground := Ground.phase }, { on := 2, ground := Ground.phase }, { on := 3, ground := Ground.phase }, { on := 4, ground := Ground.phase }, { on := 5, ground := Ground.phase }, { on := 6, ground := Ground.phase }, { on := 7, ground := Ground.phase }, { on := 8, ground := Ground.textOnly Departure.lateStoresUnsure }, { on := 9, ground := Ground.phase }, { on := 10, ground := Ground.phase }], guard := none }) (v := ?_) rfl (by kernel_rfl) (by kernel_rfl) (by kernel_rfl) (by kernel_rfl) (fun _ _ _ h => h) (Or.inl ⟨by rfl, ?_⟩) (fun h => (st_no (by kernel_rfl) h).elim) ?_
  rotate_left
  · intro w hSw
    try dsimp only at hSw
    go_simp
    try with_reducible rfl
  try simp only [Act.put, List.setIfInBounds_toArray, List.set_cons_zero, List.set_cons_succ]
  refine wpAnyG_one (i := 12) (o := { dst := none, op := Op.store 24 (Operand.tmp 15) (Operand.tmp 10), type := 0, pos := _, after := #[{ on := 11, ground := Ground.data }, { on := 5, ground := Ground.data }, { on := 10, ground := Ground.chain }, { on := 0, ground := Ground.phase }, { on := 1, ground := Ground.phase }, { on := 2, ground := Ground.phase }, { on := 3, ground := Ground.phase }, { on := 4, ground := Ground.phase }, { on := 5, ground := Ground.phase }, { on := 6, ground := Ground.phase }, { on := 7, ground := Ground.phase }, { on := 8, ground := Ground.textOnly Departure.lateStoresUnsure }, { on := 9, ground := Ground.phase }, { on := 10, ground := Ground.phase }], guard := none }) (by kernel_rfl) rfl (fun K hK => ?_)
  have z0 := (HQ6.out.set_ 11 (.slice A4 m.ids.length c4)).frozen 12
  have c0 := (HQ6.out.set_ 11 (.slice A4 m.ids.length c4)).cell 12
  simp [mv] at c0
  go_simp
  try dsimp only
  clear z0 c0
  refine hK.out _ _ ?_ (fun hHeld => ?_)
  · exact fun h => (st_no (by kernel_rfl) h).elim
  clear hK K
  try simp only [Act.put, List.setIfInBounds_toArray, List.set_cons_zero, List.set_cons_succ]
  clear hHeld
  refine wpAnyG_pure (i := 13) (oi := { dst := some 16, op := Op.fieldAddr 27 (Operand.tmp 2) 13, type := 0, pos := _, after := #[{ on := 0, ground := Ground.phase }, { on := 1, ground := Ground.phase }, { on := 2, ground := Ground.phase }, { on := 3, ground := Ground.phase }, { on := 4, ground := Ground.phase }, { on := 5, ground := Ground.phase }, { on := 6, ground := Ground.phase }, { on := 7, ground := Ground.phase }, { on := 8, ground := Ground.phase }, { on := 9, ground := Ground.phase }, { on := 10, ground := Ground.phase }, { on := 11, ground := Ground.phase }, { on := 12, ground := Ground.phase }], guard := none }) (v := ?_) rfl (by kernel_rfl) (by kernel_rfl) (by kernel_rfl) (by kernel_rfl) (fun _ _ _ h => h) (Or.inl ⟨by rfl, ?_⟩) (fun h => (st_no (by kernel_rfl) h).elim) ?_
  rotate_left
  · intro w hSw
    try dsimp only at hSw
    go_simp
    try with_reducible rfl
  try simp only [Act.put, List.setIfInBounds_toArray, List.set_cons_zero, List.set_cons_succ]
  refine wpAnyG_one (i := 14) (o := { dst := none, op := Op.store 25 (Operand.tmp 16) (Operand.tmp 13), type := 0, pos := _, after := #[{ on := 13, ground := Ground.data }, { on := 8, ground := Ground.data }, { on := 12, ground := Ground.chain }, { on := 0, ground := Ground.phase }, { on := 1, ground := Ground.phase }, { on := 2, ground := Ground.phase }, { on := 3, ground := Ground.phase }, { on := 4, ground := Ground.phase }, { on := 5, ground := Ground.phase }, { on := 6, ground := Ground.phase }, { on := 7, ground := Ground.phase }, { on := 8, ground := Ground.phase }, { on := 9, ground := Ground.phase }, { on := 10, ground := Ground.phase }, { on := 11, ground := Ground.phase }, { on := 12, ground := Ground.phase }], guard := none }) (by kernel_rfl) rfl (fun K hK => ?_)
  have z0 := ((HQ6.out.set_ 11 (.slice A4 m.ids.length c4)).set_ 12 (.slice A5 m.nodes.length c5)).frozen 13
  have c0 := ((HQ6.out.set_ 11 (.slice A4 m.ids.length c4)).set_ 12 (.slice A5 m.nodes.length c5)).cell 13
  simp [mv] at c0
  go_simp
  try dsimp only
  clear z0 c0
  refine hK.out _ _ ?_ (fun hHeld => ?_)
  · exact fun h => (st_no (by kernel_rfl) h).elim
  clear hK K
  try simp only [Act.put, List.setIfInBounds_toArray, List.set_cons_zero, List.set_cons_succ]
  clear hHeld
  refine wpAnyG_done (by kernel_rfl) ?_ _
  refine NoPanic.normal ?_
  clear hHeld
  obtain ⟨w7, hw7⟩ : ∃ x : World, ((w6.setCell ⟨q, 11, none⟩ (.slice A4 m.ids.length c4)).setCell ⟨q, 12, none⟩ (.slice A5 m.nodes.length c5)).setCell ⟨q, 13, none⟩ (.slice A6 m.data.length c6) = x := ⟨_, rfl⟩
  have hf7 : Fr (fun k => k = q) w6 w7 := by
    rw [← hw7]
    exact Fr.setCell (S := fun k => k = q) (Fr.setCell (S := fun k => k = q) (Fr.setCell (S := fun k => k = q) (w' := w6) (Fr.refl _ w6) (p := ⟨q, 11, none⟩) (fun _ => rfl) _) (p := ⟨q, 12, none⟩) (fun _ => rfl) _) (p := ⟨q, 13, none⟩) (fun _ => rfl) _
  have hd : w1.drew.heap.size = q + 2 := HS.out
  have hb6 : Below w1.drew.heap.size w1.drew w6 := next (next H4.out.2 H5.out.2) H6.out.2
  have s4 : q + 2 ≤ w4.heap.size := by rw [← hd]; exact H4.out.2.size
  have s5 : q + 2 ≤ w5.heap.size := Nat.le_trans s4 H5.out.2.size
  have s6 : q + 2 ≤ w6.heap.size := Nat.le_trans s5 H6.out.2.size
  have k := ((⟨((H4.out.1.keep (next H5.out.2 H6.out.2))).down (Nat.le_of_eq hd.symm), (H5.out.1.keep H6.out.2).down s4, H6.out.1.down s5⟩ : Tri w6 (q + 2) m ⟨A4, c4, A5, c5, A6, c6⟩)).fr hf7 (fun k hk e => by omega)
  have hqd : q ≤ w1.drew.heap.size := by rw [hd]; omega
  have hq6 : q ≤ w6.heap.size := Nat.le_trans (Nat.le_add_right q 2) s6
  have HX7 := Lib.hid (show Blk w7 q 27 (mv m ⟨A4, c4, A5, c5, A6, c6⟩) ∧ Blk w7 (q + 1) 27 #[.int .u8 0, .int .i64 0, .int .i64 0, .int .i64 0, .string { data := #[] }, .int .i64 0, .int .i64 0, .int .i64 0, .int .i64 0, .int .i64 0, .bool false, .slice none 0 0, .slice none 0 0, .slice none 0 0] ∧ Below q w w7 ∧ Tri w7 (q + 2) m ⟨A4, c4, A5, c5, A6, c6⟩ from by
    refine ⟨?_, ((HX.out.2.keep (nextN (Mem.start w1) 1)).keep hb6).fr hf7 (by omega), ?_, k⟩
    · rw [← hw7]
      exact ((HQ6.out.set_ 11 (.slice A4 m.ids.length c4)).set_ 12 (.slice A5 m.nodes.length c5)).set_ 13 (.slice A6 m.data.length c6)
    · exact ((HB1.out.1.trans (⟨rfl, rfl, rfl, Nat.le_refl _, fun _ _ => rfl⟩ : Below q w1 w1.drew)).trans (hb6.mono hqd)).trans (hf7.below hq6 fun k hk => by omega))
  rw [hw7]
  have c0 := HX7.out.1.cell 0
  simp [mv] at c0
  clear hf7 hd hb6 s4 s5 s6 k hqd hq6 hw7
  go_wp2_with fail
  refine (tells_any w7 m.kind).mono ?_
  rintro e w8 ⟨rfl, rfl⟩
  cases ht : tells m.kind
  · have HL := Lib.hid (show lie m b = m by unfold lie; rw [ht]; rfl)
    clear ht c0
    go_wp2_with ((with_reducible show wpList _ _ _ ((⟨some 23, _, _, _, _, _⟩ : Oper) :: _) _ _); refine wpList_load_mid rfl 27 (.tmp 2) rfl q 0 rfl (mv (m) ⟨A4, c4, A5, c5, A6, c6⟩).toList _ (range_of HX7.out.1) Tryd.underlying27 rfl minfo ?_; refine wpList_store_mid rfl 27 (.tmp 4) (.tmp 23) rfl (q + 1) 0 (mv (m) ⟨A4, c4, A5, c5, A6, c6⟩) rfl rfl (there_of HX7.out.2.1) minfo (mv_one _ _) ?_)
    have hF := set14_fr w7 (q + 1) (m) ⟨A4, c4, A5, c5, A6, c6⟩
    have hB := set14 HX7.out.2.1 (m) ⟨A4, c4, A5, c5, A6, c6⟩
    obtain ⟨w9, hw9⟩ : ∃ x, World.setCells w7 (q + 1) 0 (mv (m) ⟨A4, c4, A5, c5, A6, c6⟩).toList = x := ⟨_, rfl⟩
    rw [hw9] at hF hB ⊢
    clear hw9
    have e7 : q ≤ (w7).heap.size := Nat.le_of_lt HX7.out.1.lt
    have hb9 : Below q w w9 := HX7.out.2.2.1.trans (hF.below e7 fun k hk => by omega)
    refine bodyPost_ret (v := .agg (mv (m) ⟨A4, c4, A5, c5, A6, c6⟩)) ?_ rfl ?_
    · have e0 := hB.cell 0
      have e1 := hB.cell 1
      have e2 := hB.cell 2
      have e3 := hB.cell 3
      have e4 := hB.cell 4
      have e5 := hB.cell 5
      have e6 := hB.cell 6
      have e7 := hB.cell 7
      have e8 := hB.cell 8
      have e9 := hB.cell 9
      have e10 := hB.cell 10
      have e11 := hB.cell 11
      have e12 := hB.cell 12
      have e13 := hB.cell 13
      simp [mv] at e0 e1 e2 e3 e4 e5 e6 e7 e8 e9 e10 e11 e12 e13
      simp [results, Tryd.results19, go_sem, e0, e1, e2, e3, e4, e5, e6, e7, e8, e9, e10, e11, e12, e13]
      rfl
    · have k := HX7.out.2.2.2.fr hF (fun k hk e => by omega)
      refine ⟨⟨A4, c4, A5, c5, A6, c6⟩, by rw [HL.out], ?_, ?_, by rw [← HB1.out.2]; exact hb9⟩
      · rw [HL.out]
        exact k.min HI.out.1 ⟨m.data, HI.out.1.ld, rfl⟩
      · rw [HL.out, ← HB1.out.2]
        exact k.data.down (Nat.le_add_right q 2)
  · have HL := Lib.hid (show lie m b = { m with data := b } by unfold lie; rw [ht]; rfl)
    have HM := Lib.hid HI.out.2.2.1
    have HN := Lib.hid HI.out.2.2.2
    clear ht c0
    have e7 : q ≤ w7.heap.size := Nat.le_of_lt HX7.out.1.lt
    have hbB : Bytes w7 w7.heap.size B b := (HI.out.2.1.below (HB1.out.2 ▸ HX7.out.2.2.1)).up (HB1.out.2 ▸ e7)
    have c13 := HX7.out.1.cell 13
    simp [mv] at c13
    have z13 := HX7.out.1.frozen 13
    go_wp2_with fail
    refine (clone_any w7 B b n d HM.out (by have := HN.out; omega) hbB).mono ?_
    rintro e w8 ⟨A7, c7, rfl, ho7, hb7⟩
    have hQ8 := HX7.out.1.keep hb7
    have c13 := hQ8.cell 13
    simp [mv] at c13
    have z13 := hQ8.frozen 13
    have H8 := Lib.hid (show Blk (w8.setCell ⟨q, 13, none⟩ (.slice A7 b.length c7)) q 27 (mv { m with data := b } ⟨A4, c4, A5, c5, A7, c7⟩) ∧ Blk (w8.setCell ⟨q, 13, none⟩ (.slice A7 b.length c7)) (q + 1) 27 #[.int .u8 0, .int .i64 0, .int .i64 0, .int .i64 0, .string { data := #[] }, .int .i64 0, .int .i64 0, .int .i64 0, .int .i64 0, .int .i64 0, .bool false, .slice none 0 0, .slice none 0 0, .slice none 0 0] ∧ Below q w (w8.setCell ⟨q, 13, none⟩ (.slice A7 b.length c7)) ∧ Tri (w8.setCell ⟨q, 13, none⟩ (.slice A7 b.length c7)) (q + 2) { m with data := b } ⟨A4, c4, A5, c5, A7, c7⟩ from by
      have hf : Fr (fun k => k = q) w8 (w8.setCell ⟨q, 13, none⟩ (.slice A7 b.length c7)) := Fr.setCell (S := fun k => k = q) (Fr.refl _ w8) (p := ⟨q, 13, none⟩) (fun _ => rfl) _
      refine ⟨hQ8.set_ 13 (.slice A7 b.length c7), (HX7.out.2.1.keep hb7).fr hf (by omega), ?_, ?_⟩
      · exact (HX7.out.2.2.1.trans (hb7.mono e7)).trans (hf.below (Nat.le_trans e7 hb7.size) fun k hk => by omega)
      · have k := HX7.out.2.2.2.keep hb7
        have hq1 : q + 2 ≤ w7.heap.size := HX7.out.2.1.lt
        exact (⟨k.ids, k.nodes, ho7.down hq1⟩ : Tri w8 (q + 2) { m with data := b } ⟨A4, c4, A5, c5, A7, c7⟩).fr hf (fun k hk e => by omega))
    clear e7 hb7 ho7 hbB
    go_wp2_with ((with_reducible show wpList _ _ _ ((⟨some 23, _, _, _, _, _⟩ : Oper) :: _) _ _); refine wpList_load_mid rfl 27 (.tmp 2) rfl q 0 rfl (mv ({ m with data := b }) ⟨A4, c4, A5, c5, A7, c7⟩).toList _ (range_of H8.out.1) Tryd.underlying27 rfl minfo ?_; refine wpList_store_mid rfl 27 (.tmp 4) (.tmp 23) rfl (q + 1) 0 (mv ({ m with data := b }) ⟨A4, c4, A5, c5, A7, c7⟩) rfl rfl (there_of H8.out.2.1) minfo (mv_one _ _) ?_)
    have hF := set14_fr (w8.setCell ⟨q, 13, none⟩ (.slice A7 b.length c7)) (q + 1) ({ m with data := b }) ⟨A4, c4, A5, c5, A7, c7⟩
    have hB := set14 H8.out.2.1 ({ m with data := b }) ⟨A4, c4, A5, c5, A7, c7⟩
    obtain ⟨w9, hw9⟩ : ∃ x, World.setCells (w8.setCell ⟨q, 13, none⟩ (.slice A7 b.length c7)) (q + 1) 0 (mv ({ m with data := b }) ⟨A4, c4, A5, c5, A7, c7⟩).toList = x := ⟨_, rfl⟩
    rw [hw9] at hF hB ⊢
    clear hw9
    have e7 : q ≤ (w8.setCell ⟨q, 13, none⟩ (.slice A7 b.length c7)).heap.size := Nat.le_of_lt H8.out.1.lt
    have hb9 : Below q w w9 := H8.out.2.2.1.trans (hF.below e7 fun k hk => by omega)
    refine bodyPost_ret (v := .agg (mv ({ m with data := b }) ⟨A4, c4, A5, c5, A7, c7⟩)) ?_ rfl ?_
    · have e0 := hB.cell 0
      have e1 := hB.cell 1
      have e2 := hB.cell 2
      have e3 := hB.cell 3
      have e4 := hB.cell 4
      have e5 := hB.cell 5
      have e6 := hB.cell 6
      have e7 := hB.cell 7
      have e8 := hB.cell 8
      have e9 := hB.cell 9
      have e10 := hB.cell 10
      have e11 := hB.cell 11
      have e12 := hB.cell 12
      have e13 := hB.cell 13
      simp [mv] at e0 e1 e2 e3 e4 e5 e6 e7 e8 e9 e10 e11 e12 e13
      simp [results, Tryd.results19, go_sem, e0, e1, e2, e3, e4, e5, e6, e7, e8, e9, e10, e11, e12, e13]
      rfl
    · have k := H8.out.2.2.2.fr hF (fun k hk e => by omega)
      refine ⟨⟨A4, c4, A5, c5, A7, c7⟩, by rw [HL.out], ?_, ?_, by rw [← HB1.out.2]; exact hb9⟩
      · rw [HL.out]
        exact k.min HI.out.1 ⟨b, by have := HN.out; have := HM.out; omega, rfl⟩
      · rw [HL.out, ← HB1.out.2]
        exact k.data.down (Nat.le_add_right q 2)
end Go.Proofs.YtebdmfmadbikaaaDoor.WiW
