/- Compare and Same of shares; the document's Compare. -/
import Derived.Test.YtlmcmcafbepjmaaShCmp
namespace Go.Proofs.Ytlmcmcafbepjmaa.ShW
open Go.RowKit Go.Shelf Mem Fds Bv Rng
set_option linter.unusedVariables false

theorem cellB {w w' : World} (hb : Below w.heap.size w w') {a : Addr} {v : Value} (h : w.cell? a = some v) : w'.cell? a = some v := (hb.cell (World.block_lt_of_cell? _ _ h)).trans h
/-- A number and new memory. -/
def IntOk (z : Int) (w : World) (e : Ending) (w' : World) : Prop := e = .returned (.int .i64 z) ∧ Below w.heap.size w w'
set_option maxRecDepth 100000 in
set_option maxHeartbeats 4000000 in
theorem compare_any (w : World) (a b : Sh) (A B C D : Option Addr) (n c m d n' c' m' d' : Nat) (hn : a.key.length = n) (hn' : b.key.length = n') (hn3 : n ≤ 256 ^ 3) (hn3' : n' ≤ 256 ^ 3) (hA : Bytes w w.heap.size A a.key) (hC : Bytes w w.heap.size C b.key) :
    Calls Try.prog 17 #[.agg #[.slice A n c, .int .i64 a.ver, .int .i64 a.node, .slice B m d], .agg #[.slice C n' c', .int .i64 b.ver, .int .i64 b.node, .slice D m' d']] w (IntOk (a.cmp b) w) := by
  unfold Sh.cmp
  obtain ⟨va, hva⟩ : ∃ x, a.ver = x := ⟨_, rfl⟩
  obtain ⟨vb, hvb⟩ : ∃ x, b.ver = x := ⟨_, rfl⟩
  obtain ⟨na, hna⟩ : ∃ x, a.node = x := ⟨_, rfl⟩
  obtain ⟨nb, hnb⟩ : ∃ x, b.node = x := ⟨_, rfl⟩
  obtain ⟨zk, hzk⟩ : ∃ x, cmpL a.key b.key = x := ⟨_, rfl⟩
  rw [hva, hvb, hna, hnb, hzk]
  obtain ⟨w4, hw4⟩ : ∃ w4 : World, w4 = ((w.alloc (.cells #[.slice A n c, .int .i64 va, .int .i64 na, .slice B m d] 24)).alloc (.cells #[.slice C n' c', .int .i64 vb, .int .i64 nb, .slice D m' d'] 24)).drew := ⟨_, rfl⟩
  have hb4 : Below w.heap.size w w4 := by rw [hw4]; exact nextN (nextA (nextA (Mem.start w) _) _) 1
  have hbk : Blk w4 w.heap.size 24 #[.slice A n c, .int .i64 va, .int .i64 na, .slice B m d] ∧ Blk w4 (w.heap.size + 1) 24 #[.slice C n' c', .int .i64 vb, .int .i64 nb, .slice D m' d'] := by
    rw [hw4]
    refine ⟨(Blk.new w _ _).alloc _, ?_⟩
    have := Blk.new (w.alloc (.cells #[.slice A n c, .int .i64 va, .int .i64 na, .slice B m d] 24)) 24 #[.slice C n' c', .int .i64 vb, .int .i64 nb, .slice D m' d']
    rw [World.size_alloc] at this
    exact this
  have HC := Lib.hid (cmpB_any (w := w4) A C a.key b.key n c n' c' hn hn' hn3 hn3' ((hA.below hb4).up hb4.size) ((hC.below hb4).up hb4.size))
  rw [hzk] at HC
  have HB := Lib.hid hb4
  obtain ⟨bx, hbx⟩ : ∃ x, w.heap.size = x := ⟨_, rfl⟩
  obtain ⟨by_, hby⟩ : ∃ x, w.heap.size + 1 = x := ⟨_, rfl⟩
  have HT := Lib.hid (show w4.cell? ⟨bx, 0, none⟩ = some (.slice A n c) ∧ w4.cell? ⟨bx, 1, none⟩ = some (.int .i64 va) ∧ w4.cell? ⟨bx, 2, none⟩ = some (.int .i64 na) ∧ w4.cell? ⟨by_, 0, none⟩ = some (.slice C n' c') ∧ w4.cell? ⟨by_, 1, none⟩ = some (.int .i64 vb) ∧ w4.cell? ⟨by_, 2, none⟩ = some (.int .i64 nb) from by
    rw [← hbx, ← hby]
    exact ⟨hbk.1.cell 0, hbk.1.cell 1, hbk.1.cell 2, hbk.2.cell 0, hbk.2.cell 1, hbk.2.cell 2⟩)
  have HW := Lib.hid hw4
  have HX := Lib.hid (And.intro hbx hby)
  clear hva hvb hna hnb hzk hw4 hb4 hbk hn hn' hn3 hn3' hA hC hbx hby
  go_enter Try.func17, Try.ntmps17
  go_wp2_with fail
  rw [HX.out.2, HX.out.1]
  refine wp_region_noPanic ?_
  refine wp_heldG (fun w' => w'.cell? ⟨bx, 0, none⟩ = some (.slice A n c) ∧ w'.cell? ⟨bx, 1, none⟩ = some (.int .i64 va) ∧ w'.cell? ⟨bx, 2, none⟩ = some (.int .i64 na) ∧ w'.cell? ⟨by_, 0, none⟩ = some (.slice C n' c') ∧ w'.cell? ⟨by_, 1, none⟩ = some (.int .i64 vb) ∧ w'.cell? ⟨by_, 2, none⟩ = some (.int .i64 nb)) [] (by kernel_rfl) ?hs0 ?rg0
  case hs0 => rw [← HW.out]; exact HT.out
  case rg0 =>
  intro hHeld
  rw [← HW.out] at hHeld ⊢
  --HELD sc1
  refine wpAnyG_pure (i := 0) (oi := { dst := some 5, op := Op.fieldAddr 24 (Operand.tmp 2) 0, type := 0, pos := _, after := #[], guard := none }) (v := ?_) rfl (by kernel_rfl) (by kernel_rfl) (by kernel_rfl) (by kernel_rfl) (fun _ _ _ h => h) (Or.inl ⟨by rfl, ?_⟩) (fun _ => by assumption) ?_
  rotate_left
  · intro w hSw
    try dsimp only at hSw
    go_simp
    try with_reducible rfl
  try simp only [Act.put, List.setIfInBounds_toArray, List.set_cons_zero, List.set_cons_succ]
  refine wpAnyG_take (i := 1) (oi := { dst := some 6, op := Op.load 22 (Operand.tmp 5), type := 22, pos := _, after := #[{ on := 0, ground := Ground.data }], guard := none }) (v := ?_) rfl (by kernel_rfl) (by kernel_rfl) (by kernel_rfl) (by kernel_rfl) (fun _ _ _ h => h) (Or.inl ⟨by rfl, ?_⟩) (by assumption) ?_
  rotate_left
  · intro w hSw
    try dsimp only at hSw
    go_simp
    try with_reducible rfl
  try simp only [Act.put, List.setIfInBounds_toArray, List.set_cons_zero, List.set_cons_succ]
  refine wpAnyG_pure (i := 2) (oi := { dst := some 7, op := Op.fieldAddr 24 (Operand.tmp 3) 0, type := 0, pos := _, after := #[], guard := none }) (v := ?_) rfl (by kernel_rfl) (by kernel_rfl) (by kernel_rfl) (by kernel_rfl) (fun _ _ _ h => h) (Or.inl ⟨by rfl, ?_⟩) (fun _ => by assumption) ?_
  rotate_left
  · intro w hSw
    try dsimp only at hSw
    go_simp
    try with_reducible rfl
  try simp only [Act.put, List.setIfInBounds_toArray, List.set_cons_zero, List.set_cons_succ]
  refine wpAnyG_take (i := 3) (oi := { dst := some 8, op := Op.load 22 (Operand.tmp 7), type := 22, pos := _, after := #[{ on := 2, ground := Ground.data }], guard := none }) (v := ?_) rfl (by kernel_rfl) (by kernel_rfl) (by kernel_rfl) (by kernel_rfl) (fun _ _ _ h => h) (Or.inl ⟨by rfl, ?_⟩) (by assumption) ?_
  rotate_left
  · intro w hSw
    try dsimp only at hSw
    go_simp
    try with_reducible rfl
  try simp only [Act.put, List.setIfInBounds_toArray, List.set_cons_zero, List.set_cons_succ]
  refine wpAnyG_pure (i := 5) (oi := { dst := some 10, op := Op.fieldAddr 24 (Operand.tmp 2) 1, type := 0, pos := _, after := #[], guard := none }) (v := ?_) rfl (by kernel_rfl) (by kernel_rfl) (by kernel_rfl) (by kernel_rfl) (fun _ _ _ h => h) (Or.inl ⟨by rfl, ?_⟩) (fun _ => by assumption) ?_
  rotate_left
  · intro w hSw
    try dsimp only at hSw
    go_simp
    try with_reducible rfl
  try simp only [Act.put, List.setIfInBounds_toArray, List.set_cons_zero, List.set_cons_succ]
  refine wpAnyG_take (i := 6) (oi := { dst := some 11, op := Op.load 2 (Operand.tmp 10), type := 2, pos := _, after := #[{ on := 5, ground := Ground.data }], guard := none }) (v := ?_) rfl (by kernel_rfl) (by kernel_rfl) (by kernel_rfl) (by kernel_rfl) (fun _ _ _ h => h) (Or.inl ⟨by rfl, ?_⟩) (by assumption) ?_
  rotate_left
  · intro w hSw
    try dsimp only at hSw
    go_simp
    try with_reducible rfl
  try simp only [Act.put, List.setIfInBounds_toArray, List.set_cons_zero, List.set_cons_succ]
  refine wpAnyG_pure (i := 7) (oi := { dst := some 12, op := Op.fieldAddr 24 (Operand.tmp 3) 1, type := 0, pos := _, after := #[], guard := none }) (v := ?_) rfl (by kernel_rfl) (by kernel_rfl) (by kernel_rfl) (by kernel_rfl) (fun _ _ _ h => h) (Or.inl ⟨by rfl, ?_⟩) (fun _ => by assumption) ?_
  rotate_left
  · intro w hSw
    try dsimp only at hSw
    go_simp
    try with_reducible rfl
  try simp only [Act.put, List.setIfInBounds_toArray, List.set_cons_zero, List.set_cons_succ]
  refine wpAnyG_take (i := 8) (oi := { dst := some 13, op := Op.load 2 (Operand.tmp 12), type := 2, pos := _, after := #[{ on := 7, ground := Ground.data }], guard := none }) (v := ?_) rfl (by kernel_rfl) (by kernel_rfl) (by kernel_rfl) (by kernel_rfl) (fun _ _ _ h => h) (Or.inl ⟨by rfl, ?_⟩) (by assumption) ?_
  rotate_left
  · intro w hSw
    try dsimp only at hSw
    go_simp
    try with_reducible rfl
  try simp only [Act.put, List.setIfInBounds_toArray, List.set_cons_zero, List.set_cons_succ]
  refine wpAnyG_pure (i := 10) (oi := { dst := some 15, op := Op.fieldAddr 24 (Operand.tmp 2) 2, type := 0, pos := _, after := #[], guard := none }) (v := ?_) rfl (by kernel_rfl) (by kernel_rfl) (by kernel_rfl) (by kernel_rfl) (fun _ _ _ h => h) (Or.inl ⟨by rfl, ?_⟩) (fun _ => by assumption) ?_
  rotate_left
  · intro w hSw
    try dsimp only at hSw
    go_simp
    try with_reducible rfl
  try simp only [Act.put, List.setIfInBounds_toArray, List.set_cons_zero, List.set_cons_succ]
  refine wpAnyG_take (i := 11) (oi := { dst := some 16, op := Op.load 3 (Operand.tmp 15), type := 3, pos := _, after := #[{ on := 10, ground := Ground.data }], guard := none }) (v := ?_) rfl (by kernel_rfl) (by kernel_rfl) (by kernel_rfl) (by kernel_rfl) (fun _ _ _ h => h) (Or.inl ⟨by rfl, ?_⟩) (by assumption) ?_
  rotate_left
  · intro w hSw
    try dsimp only at hSw
    go_simp
    try with_reducible rfl
  try simp only [Act.put, List.setIfInBounds_toArray, List.set_cons_zero, List.set_cons_succ]
  refine wpAnyG_pure (i := 12) (oi := { dst := some 17, op := Op.fieldAddr 24 (Operand.tmp 3) 2, type := 0, pos := _, after := #[], guard := none }) (v := ?_) rfl (by kernel_rfl) (by kernel_rfl) (by kernel_rfl) (by kernel_rfl) (fun _ _ _ h => h) (Or.inl ⟨by rfl, ?_⟩) (fun _ => by assumption) ?_
  rotate_left
  · intro w hSw
    try dsimp only at hSw
    go_simp
    try with_reducible rfl
  try simp only [Act.put, List.setIfInBounds_toArray, List.set_cons_zero, List.set_cons_succ]
  refine wpAnyG_take (i := 13) (oi := { dst := some 18, op := Op.load 3 (Operand.tmp 17), type := 3, pos := _, after := #[{ on := 12, ground := Ground.data }], guard := none }) (v := ?_) rfl (by kernel_rfl) (by kernel_rfl) (by kernel_rfl) (by kernel_rfl) (fun _ _ _ h => h) (Or.inl ⟨by rfl, ?_⟩) (by assumption) ?_
  rotate_left
  · intro w hSw
    try dsimp only at hSw
    go_simp
    try with_reducible rfl
  try simp only [Act.put, List.setIfInBounds_toArray, List.set_cons_zero, List.set_cons_succ]
  refine wpAnyG_one (i := 4) (o := { dst := some 9, op := Op.call { callee := Callee.value (Operand.func 37), args := #[Operand.tmp 6, Operand.tmp 8], argTypes := #[22, 22] }, type := 3, pos := _, after := #[{ on := 1, ground := Ground.data }, { on := 3, ground := Ground.data }], guard := none }) (by kernel_rfl) rfl (fun K hK => ?_)
  go_simp
  refine HC.out.mono ?_
  rintro e w' ⟨rfl, rfl⟩
  try dsimp only
  refine hK.out _ _ ?_ (fun hHeld => ?_)
  · intro _
    try dsimp only
    exact hHeld
  clear hK K
  try simp only [Act.put, List.setIfInBounds_toArray, List.set_cons_zero, List.set_cons_succ]
  have hHeld := hHeld (by kernel_rfl)
  refine wpAnyG_one (i := 9) (o := { dst := some 14, op := Op.call { callee := Callee.value (Operand.func 38), args := #[Operand.tmp 11, Operand.tmp 13], argTypes := #[2, 2] }, type := 3, pos := _, after := #[{ on := 6, ground := Ground.data }, { on := 8, ground := Ground.data }, { on := 4, ground := Ground.chain }], guard := none }) (by kernel_rfl) rfl (fun K hK => ?_)
  go_simp
  refine (cmp_i64 va vb).mono ?_
  rintro e w' ⟨rfl, rfl⟩
  try dsimp only
  refine hK.out _ _ ?_ (fun hHeld => ?_)
  · intro _
    try dsimp only
    exact hHeld
  clear hK K
  try simp only [Act.put, List.setIfInBounds_toArray, List.set_cons_zero, List.set_cons_succ]
  have hHeld := hHeld (by kernel_rfl)
  refine wpAnyG_one (i := 14) (o := { dst := some 19, op := Op.call { callee := Callee.value (Operand.func 39), args := #[Operand.tmp 16, Operand.tmp 18], argTypes := #[3, 3] }, type := 3, pos := _, after := #[{ on := 11, ground := Ground.data }, { on := 13, ground := Ground.data }, { on := 9, ground := Ground.chain }], guard := none }) (by kernel_rfl) rfl (fun K hK => ?_)
  go_simp
  refine (cmp_int na nb).mono ?_
  rintro e w' ⟨rfl, rfl⟩
  try dsimp only
  refine hK.out _ _ ?_ (fun hHeld => ?_)
  · intro _
    try dsimp only
    exact hHeld
  clear hK K
  try simp only [Act.put, List.setIfInBounds_toArray, List.set_cons_zero, List.set_cons_succ]
  have hHeld := hHeld (by kernel_rfl)
  refine wpAnyG_one (i := 15) (o := { dst := some 20, op := Op.buildSlice 47 3 #[(0, Operand.tmp 9), (1, Operand.tmp 14), (2, Operand.tmp 19)], type := 47, pos := _, after := #[{ on := 4, ground := Ground.data }, { on := 9, ground := Ground.data }, { on := 14, ground := Ground.data }], guard := none }) (by kernel_rfl) rfl (fun K hK => ?_)
  go_simp
  try dsimp only
  obtain ⟨w5, hw5⟩ : ∃ w5 : World, w5 = w4.alloc (.cells #[.int .i64 zk, .int .i64 (cmpI va vb), .int .i64 (cmpI na nb)] 3) := ⟨_, rfl⟩
  have H5 := Lib.hid (show Blk w5 w4.heap.size 3 #[.int .i64 zk, .int .i64 (cmpI va vb), .int .i64 (cmpI na nb)] ∧ Below w4.heap.size w4 w5 from by rw [hw5]; exact ⟨Blk.new w4 _ _, nextA (Mem.start w4) _⟩)
  rw [← hw5]
  clear hw5
  refine hK.out _ _ ?_ (fun hHeld => ?_)
  · intro _
    try dsimp only
    exact ⟨cellB H5.out.2 hHeld.1, cellB H5.out.2 hHeld.2.1, cellB H5.out.2 hHeld.2.2.1, cellB H5.out.2 hHeld.2.2.2.1, cellB H5.out.2 hHeld.2.2.2.2.1, cellB H5.out.2 hHeld.2.2.2.2.2⟩
  clear hK K
  try simp only [Act.put, List.setIfInBounds_toArray, List.set_cons_zero, List.set_cons_succ]
  have hHeld := hHeld (by kernel_rfl)
  refine wpAnyG_one (i := 16) (o := { dst := some 21, op := Op.call { callee := Callee.value (Operand.func 36), args := #[Operand.tmp 20], argTypes := #[47] }, type := 3, pos := _, after := #[{ on := 15, ground := Ground.data }, { on := 14, ground := Ground.chain }], guard := none }) (by kernel_rfl) rfl (fun K hK => ?_)
  go_simp
  refine (or_any w4.heap.size zk (cmpI va vb) (cmpI na nb) (H5.out.1.cell 0) (H5.out.1.cell 1) (H5.out.1.cell 2)).mono ?_
  rintro e w' ⟨rfl, rfl⟩
  try dsimp only
  refine hK.out _ _ ?_ (fun hHeld => ?_)
  · intro _
    try dsimp only
    exact hHeld
  clear hK K
  try simp only [Act.put, List.setIfInBounds_toArray, List.set_cons_zero, List.set_cons_succ]
  have hHeld := hHeld (by kernel_rfl)
  refine wpAnyG_pure (i := 17) (oi := { dst := some 4, op := Op.assign (Operand.tmp 21), type := 3, pos := _, after := #[{ on := 16, ground := Ground.data }, { on := 16, ground := Ground.chain }, { on := 0, ground := Ground.phase }, { on := 1, ground := Ground.phase }, { on := 2, ground := Ground.phase }, { on := 3, ground := Ground.phase }, { on := 4, ground := Ground.phase }, { on := 5, ground := Ground.phase }, { on := 6, ground := Ground.phase }, { on := 7, ground := Ground.phase }, { on := 8, ground := Ground.phase }, { on := 9, ground := Ground.phase }, { on := 10, ground := Ground.phase }, { on := 11, ground := Ground.phase }, { on := 12, ground := Ground.phase }, { on := 13, ground := Ground.phase }, { on := 14, ground := Ground.phase }, { on := 15, ground := Ground.phase }, { on := 16, ground := Ground.phase }], guard := none }) (v := ?_) rfl (by kernel_rfl) (by kernel_rfl) (by kernel_rfl) (by kernel_rfl) (fun _ _ _ h => h) (Or.inl ⟨by rfl, ?_⟩) (fun _ => by assumption) ?_
  rotate_left
  · intro w hSw
    try dsimp only at hSw
    go_simp
    try with_reducible rfl
  try simp only [Act.put, List.setIfInBounds_toArray, List.set_cons_zero, List.set_cons_succ]
  refine wpAnyG_done (by kernel_rfl) ?_ _
  refine NoPanic.normal ?_
  --END sc1
  go_wp2_with fail
  go_ret
  exact ⟨rfl, next HB.out H5.out.2⟩
end Go.Proofs.Ytlmcmcafbepjmaa.ShW
