/- Copy of a disk. -/
import Derived.Test.YtjpelifafmkdpaaDkWrite
namespace Go.Proofs.Ytjpelifafmkdpaa.DkW
open Go.RowKit Go.Shelf Mem Rng
set_option linter.unusedVariables false

/-- What Copy leaves: another disk, in blocks of its own. -/
def CopyOk (w : World) (s : DS) (e : Ending) (w' : World) : Prop := ∃ F p, e = .returned (.pointer (some ⟨p, 0, none⟩)) ∧ DkA F p s w' ∧ (∀ k, F k → w.heap.size ≤ k) ∧ Below w.heap.size w w'
section
variable {F : Nat → Prop} {p : Nat} {s : DS} {w : World}
set_option maxRecDepth 100000 in
set_option maxHeartbeats 4000000 in
theorem copy_any (h : DkA F p s w) : Calls Try.prog 15 #[.pointer (some ⟨p, 0, none⟩)] w (CopyOk w s) := by
  obtain ⟨ms, mn, A0, c0, hd⟩ := h
  obtain ⟨k, hk⟩ : ∃ k, s.L.length = k := ⟨_, rfl⟩
  have hcs := hd.cells
  have hblk := hd.blk
  rw [hk] at hcs hblk
  obtain ⟨h0, h1, h2, h3, h4, h5, h6⟩ := hcs
  obtain ⟨kS, hmS, hkS⟩ := hd.mS
  have hW := next (nextA (Mem.start w) (.cells #[.int .i64 (s.n : Int), .map (some ms), .map (some mn), .slice A0 k c0, .int .i64 (s.steps : Int), .int .i64 s.well, .bool s.off] 63)) (nextN (Mem.start _) 1)
  have HT := Lib.hid (show (w.alloc (.cells #[.int .i64 (s.n : Int), .map (some ms), .map (some mn), .slice A0 k c0, .int .i64 (s.steps : Int), .int .i64 s.well, .bool s.off] 63)).drew.cell? ⟨p, 1, none⟩ = some (.map (some ms)) ∧ (w.alloc (.cells #[.int .i64 (s.n : Int), .map (some ms), .map (some mn), .slice A0 k c0, .int .i64 (s.steps : Int), .int .i64 s.well, .bool s.off] 63)).drew.cell? ⟨p, 2, none⟩ = some (.map (some mn)) ∧ (w.alloc (.cells #[.int .i64 (s.n : Int), .map (some ms), .map (some mn), .slice A0 k c0, .int .i64 (s.steps : Int), .int .i64 s.well, .bool s.off] 63)).drew.cell? ⟨p, 3, none⟩ = some (.slice A0 k c0) from ⟨cellB hW h1, cellB hW h2, cellB hW h3⟩)
  have HB := Lib.hid ((Blk.new w 63 #[.int .i64 (s.n : Int), .map (some ms), .map (some mn), .slice A0 k c0, .int .i64 (s.steps : Int), .int .i64 s.well, .bool s.off]).keep (nextN (Mem.start _) 1))
  have HD := Lib.hid (And.intro (hd.keep hW) (And.intro hk (And.intro (show kS + k ≤ s.steps from by rw [← hk]; exact hkS) hW)))
  have hs0 : ((w.alloc (.cells #[.int .i64 (s.n : Int), .map (some ms), .map (some mn), .slice A0 k c0, .int .i64 (s.steps : Int), .int .i64 s.well, .bool s.off] 63)).drewN 1).heap.size = w.heap.size + 1 := World.size_alloc _ _
  have HC1 := Lib.hid (show Calls Try.prog 31 #[.map (some ms)] ((w.alloc (.cells #[.int .i64 (s.n : Int), .map (some ms), .map (some mn), .slice A0 k c0, .int .i64 (s.steps : Int), .int .i64 s.well, .bool s.off] 63)).drewN 1) (fun e w' => e = .returned (.map (some (w.heap.size + 1))) ∧ MB w' (w.heap.size + 1) kS s.S ∧ Below ((w.alloc (.cells #[.int .i64 (s.n : Int), .map (some ms), .map (some mn), .slice A0 k c0, .int .i64 (s.steps : Int), .int .i64 s.well, .bool s.off] 63)).drewN 1).heap.size ((w.alloc (.cells #[.int .i64 (s.n : Int), .map (some ms), .map (some mn), .slice A0 k c0, .int .i64 (s.steps : Int), .int .i64 s.well, .bool s.off] 63)).drewN 1) w' ∧ w'.heap.size = w.heap.size + 1 + 1) from (mclone_any ((w.alloc (.cells #[.int .i64 (s.n : Int), .map (some ms), .map (some mn), .slice A0 k c0, .int .i64 (s.steps : Int), .int .i64 s.well, .bool s.off] 63)).drewN 1) ms kS s.S (hmS.keep hW)).mono fun e w' ⟨h1, h2, h3, h4⟩ => ⟨by rw [h1, hs0], by rw [← hs0]; exact h2, h3, by rw [h4, hs0]⟩)
  have HS0 := Lib.hid hs0
  have hm3 : s.L.length ≤ 256 ^ 3 + 1 := by have := hd.bound.2.1; omega
  have HM3 := Lib.hid hm3
  clear hd hblk hk hmS hkS hW hs0 hm3
  go_enter Try.func15, Try.ntmps15
  go_wp2_with fail
  --HELD cp4
  refine wp_region_noPanic ?_
  refine wp_heldG (fun w' => w'.cell? ⟨p, 1, none⟩ = some (.map (some ms)) ∧ w'.cell? ⟨p, 2, none⟩ = some (.map (some mn)) ∧ w'.cell? ⟨p, 3, none⟩ = some (.slice A0 k c0)) [16, 18, 20] (by kernel_rfl) ?hs0 ?rg0
  case hs0 =>
    exact HT.out
  case rg0 =>
  intro hHeld
  refine wpAnyG_pure (i := 0) (oi := { dst := some 9, op := Op.move (Operand.tmp 0), type := 28, pos := _, after := #[], guard := none }) (v := ?_) rfl (by kernel_rfl) (by kernel_rfl) (by kernel_rfl) (by kernel_rfl) (fun _ _ _ h => h) (Or.inl ⟨by rfl, ?_⟩) (fun _ => by assumption) ?_
  rotate_left
  · intro w hSw
    try dsimp only at hSw
    go_simp
    try with_reducible rfl
  try simp only [Act.put, List.setIfInBounds_toArray, List.set_cons_zero, List.set_cons_succ]
  refine wpAnyG_pure (i := 1) (oi := { dst := some 10, op := Op.nilCheck (Operand.tmp 9), type := 0, pos := _, after := #[{ on := 0, ground := Ground.data }], guard := none }) (v := ?_) rfl (by kernel_rfl) (by kernel_rfl) (by kernel_rfl) (by kernel_rfl) (fun _ _ _ h => h) (Or.inl ⟨by rfl, ?_⟩) (fun _ => by assumption) ?_
  rotate_left
  · intro w hSw
    try dsimp only at hSw
    go_simp
    try with_reducible rfl
  try simp only [Act.put, List.setIfInBounds_toArray, List.set_cons_zero, List.set_cons_succ]
  refine wpAnyG_pure (i := 2) (oi := { dst := some 11, op := Op.fieldAddr 63 (Operand.tmp 10) 1, type := 0, pos := _, after := #[{ on := 1, ground := Ground.data }], guard := none }) (v := ?_) rfl (by kernel_rfl) (by kernel_rfl) (by kernel_rfl) (by kernel_rfl) (fun _ _ _ h => h) (Or.inl ⟨by rfl, ?_⟩) (fun _ => by assumption) ?_
  rotate_left
  · intro w hSw
    try dsimp only at hSw
    go_simp
    try with_reducible rfl
  try simp only [Act.put, List.setIfInBounds_toArray, List.set_cons_zero, List.set_cons_succ]
  refine wpAnyG_take (i := 3) (oi := { dst := some 12, op := Op.load 60 (Operand.tmp 11), type := 60, pos := _, after := #[{ on := 2, ground := Ground.data }], guard := none }) (v := ?_) rfl (by kernel_rfl) (by kernel_rfl) (by kernel_rfl) (by kernel_rfl) (fun _ _ _ h => h) (Or.inl ⟨by rfl, ?_⟩) (by assumption) ?_
  rotate_left
  · intro w hSw
    try dsimp only at hSw
    go_simp
    try with_reducible rfl
  try simp only [Act.put, List.setIfInBounds_toArray, List.set_cons_zero, List.set_cons_succ]
  refine wpAnyG_pure (i := 5) (oi := { dst := some 14, op := Op.move (Operand.tmp 0), type := 28, pos := _, after := #[], guard := none }) (v := ?_) rfl (by kernel_rfl) (by kernel_rfl) (by kernel_rfl) (by kernel_rfl) (fun _ _ _ h => h) (Or.inl ⟨by rfl, ?_⟩) (fun _ => by assumption) ?_
  rotate_left
  · intro w hSw
    try dsimp only at hSw
    go_simp
    try with_reducible rfl
  try simp only [Act.put, List.setIfInBounds_toArray, List.set_cons_zero, List.set_cons_succ]
  refine wpAnyG_pure (i := 6) (oi := { dst := some 15, op := Op.nilCheck (Operand.tmp 14), type := 0, pos := _, after := #[{ on := 5, ground := Ground.data }], guard := none }) (v := ?_) rfl (by kernel_rfl) (by kernel_rfl) (by kernel_rfl) (by kernel_rfl) (fun _ _ _ h => h) (Or.inl ⟨by rfl, ?_⟩) (fun _ => by assumption) ?_
  rotate_left
  · intro w hSw
    try dsimp only at hSw
    go_simp
    try with_reducible rfl
  try simp only [Act.put, List.setIfInBounds_toArray, List.set_cons_zero, List.set_cons_succ]
  refine wpAnyG_pure (i := 7) (oi := { dst := some 16, op := Op.fieldAddr 63 (Operand.tmp 15) 2, type := 0, pos := _, after := #[{ on := 6, ground := Ground.data }], guard := none }) (v := ?_) rfl (by kernel_rfl) (by kernel_rfl) (by kernel_rfl) (by kernel_rfl) (fun _ _ _ h => h) (Or.inl ⟨by rfl, ?_⟩) (fun _ => by assumption) ?_
  rotate_left
  · intro w hSw
    try dsimp only at hSw
    go_simp
    try with_reducible rfl
  try simp only [Act.put, List.setIfInBounds_toArray, List.set_cons_zero, List.set_cons_succ]
  refine wpAnyG_take (i := 8) (oi := { dst := some 17, op := Op.load 60 (Operand.tmp 16), type := 60, pos := _, after := #[{ on := 7, ground := Ground.data }], guard := none }) (v := ?_) rfl (by kernel_rfl) (by kernel_rfl) (by kernel_rfl) (by kernel_rfl) (fun _ _ _ h => h) (Or.inl ⟨by rfl, ?_⟩) (by assumption) ?_
  rotate_left
  · intro w hSw
    try dsimp only at hSw
    go_simp
    try with_reducible rfl
  try simp only [Act.put, List.setIfInBounds_toArray, List.set_cons_zero, List.set_cons_succ]
  refine wpAnyG_pure (i := 10) (oi := { dst := some 19, op := Op.move (Operand.tmp 0), type := 28, pos := _, after := #[], guard := none }) (v := ?_) rfl (by kernel_rfl) (by kernel_rfl) (by kernel_rfl) (by kernel_rfl) (fun _ _ _ h => h) (Or.inl ⟨by rfl, ?_⟩) (fun _ => by assumption) ?_
  rotate_left
  · intro w hSw
    try dsimp only at hSw
    go_simp
    try with_reducible rfl
  try simp only [Act.put, List.setIfInBounds_toArray, List.set_cons_zero, List.set_cons_succ]
  refine wpAnyG_pure (i := 11) (oi := { dst := some 20, op := Op.nilCheck (Operand.tmp 19), type := 0, pos := _, after := #[{ on := 10, ground := Ground.data }], guard := none }) (v := ?_) rfl (by kernel_rfl) (by kernel_rfl) (by kernel_rfl) (by kernel_rfl) (fun _ _ _ h => h) (Or.inl ⟨by rfl, ?_⟩) (fun _ => by assumption) ?_
  rotate_left
  · intro w hSw
    try dsimp only at hSw
    go_simp
    try with_reducible rfl
  try simp only [Act.put, List.setIfInBounds_toArray, List.set_cons_zero, List.set_cons_succ]
  refine wpAnyG_pure (i := 12) (oi := { dst := some 21, op := Op.fieldAddr 63 (Operand.tmp 20) 3, type := 0, pos := _, after := #[{ on := 11, ground := Ground.data }], guard := none }) (v := ?_) rfl (by kernel_rfl) (by kernel_rfl) (by kernel_rfl) (by kernel_rfl) (fun _ _ _ h => h) (Or.inl ⟨by rfl, ?_⟩) (fun _ => by assumption) ?_
  rotate_left
  · intro w hSw
    try dsimp only at hSw
    go_simp
    try with_reducible rfl
  try simp only [Act.put, List.setIfInBounds_toArray, List.set_cons_zero, List.set_cons_succ]
  refine wpAnyG_take (i := 13) (oi := { dst := some 22, op := Op.load 61 (Operand.tmp 21), type := 61, pos := _, after := #[{ on := 12, ground := Ground.data }], guard := none }) (v := ?_) rfl (by kernel_rfl) (by kernel_rfl) (by kernel_rfl) (by kernel_rfl) (fun _ _ _ h => h) (Or.inl ⟨by rfl, ?_⟩) (by assumption) ?_
  rotate_left
  · intro w hSw
    try dsimp only at hSw
    go_simp
    try with_reducible rfl
  try simp only [Act.put, List.setIfInBounds_toArray, List.set_cons_zero, List.set_cons_succ]
  refine wpAnyG_one (i := 4) (o := { dst := some 13, op := Op.call { callee := Callee.value (Operand.func 31), args := #[Operand.tmp 12], argTypes := #[60] }, type := 60, pos := _, after := #[{ on := 3, ground := Ground.data }], guard := none }) (by kernel_rfl) rfl (fun K hK => ?_)
  go_simp
  refine HC1.out.mono ?_
  rintro e w1 ⟨rfl, hm1, hb1, hs1⟩
  have H1 := Lib.hid (And.intro hm1 (And.intro hb1 hs1))
  clear hm1 hb1 hs1
  try dsimp only
  refine hK.out _ _ ?_ (fun hHeld => ?_)
  · intro _
    try dsimp only
    exact ⟨cellB H1.out.2.1 hHeld.1, cellB H1.out.2.1 hHeld.2.1, cellB H1.out.2.1 hHeld.2.2⟩
  clear hK K
  try simp only [Act.put, List.setIfInBounds_toArray, List.set_cons_zero, List.set_cons_succ]
  have hHeld := hHeld (by kernel_rfl)
  refine wpAnyG_one (i := 9) (o := { dst := some 18, op := Op.call { callee := Callee.value (Operand.func 31), args := #[Operand.tmp 17], argTypes := #[60] }, type := 60, pos := _, after := #[{ on := 8, ground := Ground.data }, { on := 4, ground := Ground.chain }], guard := none }) (by kernel_rfl) rfl (fun K hK => ?_)
  go_simp
  refine (mclone_any w1 mn s.steps s.N (HD.out.1.mN.keep H1.out.2.1)).mono ?_
  rintro e w2 ⟨rfl, hm2, hb2, hs2⟩
  have H2 := Lib.hid (And.intro hm2 (And.intro hb2 hs2))
  clear hm2 hb2 hs2
  try dsimp only
  refine hK.out _ _ ?_ (fun hHeld => ?_)
  · intro _
    try dsimp only
    exact ⟨cellB H2.out.2.1 hHeld.1, cellB H2.out.2.1 hHeld.2.1, cellB H2.out.2.1 hHeld.2.2⟩
  clear hK K
  try simp only [Act.put, List.setIfInBounds_toArray, List.set_cons_zero, List.set_cons_succ]
  have hHeld := hHeld (by kernel_rfl)
  refine wpAnyG_one (i := 14) (o := { dst := some 23, op := Op.call { callee := Callee.value (Operand.func 32), args := #[Operand.tmp 22], argTypes := #[61] }, type := 61, pos := _, after := #[{ on := 13, ground := Ground.data }, { on := 9, ground := Ground.chain }], guard := none }) (by kernel_rfl) rfl (fun K hK => ?_)
  go_simp
  rw [← HD.out.2.1]
  refine (lclone_any w2 A0 c0 s.L ((HD.out.1.row.keep H1.out.2.1).keep H2.out.2.1) (fun x hx => (HD.out.1.lens.1 x hx).1) HM3.out).mono ?_
  rintro e w3 ⟨A3, c3, rfl, ho3, hb3⟩
  rw [HD.out.2.1]
  have H3 := Lib.hid (And.intro ho3 hb3)
  clear ho3 hb3
  try dsimp only
  refine hK.out _ _ ?_ (fun hHeld => ?_)
  · intro _
    try dsimp only
    exact ⟨cellB H3.out.2 hHeld.1, cellB H3.out.2 hHeld.2.1, cellB H3.out.2 hHeld.2.2⟩
  clear hK K
  try simp only [Act.put, List.setIfInBounds_toArray, List.set_cons_zero, List.set_cons_succ]
  have hHeld := hHeld (by kernel_rfl)
  refine wpAnyG_pure (i := 15) (oi := { dst := some 24, op := Op.fieldAddr 63 (Operand.tmp 3) 1, type := 0, pos := _, after := #[{ on := 0, ground := Ground.phase }, { on := 1, ground := Ground.phase }, { on := 2, ground := Ground.phase }, { on := 3, ground := Ground.phase }, { on := 4, ground := Ground.phase }, { on := 5, ground := Ground.textOnly Departure.lateStores }, { on := 6, ground := Ground.textOnly Departure.lateStoresUnsure }, { on := 7, ground := Ground.textOnly Departure.lateStoresUnsure }, { on := 8, ground := Ground.phase }, { on := 9, ground := Ground.phase }, { on := 10, ground := Ground.textOnly Departure.lateStores }, { on := 11, ground := Ground.textOnly Departure.lateStoresUnsure }, { on := 12, ground := Ground.textOnly Departure.lateStoresUnsure }, { on := 13, ground := Ground.phase }, { on := 14, ground := Ground.phase }], guard := none }) (v := ?_) rfl (by kernel_rfl) (by kernel_rfl) (by kernel_rfl) (by kernel_rfl) (fun _ _ _ h => h) (Or.inl ⟨by rfl, ?_⟩) (fun _ => by assumption) ?_
  rotate_left
  · intro w hSw
    try dsimp only at hSw
    go_simp
    try with_reducible rfl
  try simp only [Act.put, List.setIfInBounds_toArray, List.set_cons_zero, List.set_cons_succ]
  refine wpAnyG_one (i := 16) (o := { dst := none, op := Op.store 60 (Operand.tmp 24) (Operand.tmp 13), type := 0, pos := _, after := #[{ on := 15, ground := Ground.data }, { on := 4, ground := Ground.data }, { on := 14, ground := Ground.chain }, { on := 0, ground := Ground.phase }, { on := 1, ground := Ground.phase }, { on := 2, ground := Ground.phase }, { on := 3, ground := Ground.phase }, { on := 4, ground := Ground.phase }, { on := 5, ground := Ground.textOnly Departure.lateStores }, { on := 6, ground := Ground.textOnly Departure.lateStoresUnsure }, { on := 7, ground := Ground.textOnly Departure.lateStoresUnsure }, { on := 8, ground := Ground.phase }, { on := 9, ground := Ground.phase }, { on := 10, ground := Ground.textOnly Departure.lateStores }, { on := 11, ground := Ground.textOnly Departure.lateStoresUnsure }, { on := 12, ground := Ground.textOnly Departure.lateStoresUnsure }, { on := 13, ground := Ground.phase }, { on := 14, ground := Ground.phase }], guard := none }) (by kernel_rfl) rfl (fun K hK => ?_)
  have HB3 := Lib.hid (((HB.out.keep H1.out.2.1).keep H2.out.2.1).keep H3.out.2)
  have z0 := HB3.out.frozen 1
  have cc0 : w3.cell? ⟨w.heap.size, 1, none⟩ = some (.map (some ms)) := HB3.out.cell 1
  go_simp
  clear z0 cc0
  try dsimp only
  refine hK.out _ _ ?_ (fun hHeld => ?_)
  · exact fun h => (st_no (by kernel_rfl) h).elim
  clear hK K
  try simp only [Act.put, List.setIfInBounds_toArray, List.set_cons_zero, List.set_cons_succ]
  clear hHeld
  refine wpAnyG_pure (i := 17) (oi := { dst := some 25, op := Op.fieldAddr 63 (Operand.tmp 3) 2, type := 0, pos := _, after := #[{ on := 0, ground := Ground.phase }, { on := 1, ground := Ground.phase }, { on := 2, ground := Ground.phase }, { on := 3, ground := Ground.phase }, { on := 4, ground := Ground.phase }, { on := 5, ground := Ground.phase }, { on := 6, ground := Ground.phase }, { on := 7, ground := Ground.phase }, { on := 8, ground := Ground.phase }, { on := 9, ground := Ground.phase }, { on := 10, ground := Ground.textOnly Departure.lateStores }, { on := 11, ground := Ground.textOnly Departure.lateStoresUnsure }, { on := 12, ground := Ground.textOnly Departure.lateStoresUnsure }, { on := 13, ground := Ground.phase }, { on := 14, ground := Ground.phase }, { on := 15, ground := Ground.phase }, { on := 16, ground := Ground.phase }], guard := none }) (v := ?_) rfl (by kernel_rfl) (by kernel_rfl) (by kernel_rfl) (by kernel_rfl) (fun _ _ _ h => h) (Or.inl ⟨by rfl, ?_⟩) (fun h => (st_no (by kernel_rfl) h).elim) ?_
  rotate_left
  · intro w hSw
    try dsimp only at hSw
    go_simp
    try with_reducible rfl
  try simp only [Act.put, List.setIfInBounds_toArray, List.set_cons_zero, List.set_cons_succ]
  refine wpAnyG_one (i := 18) (o := { dst := none, op := Op.store 60 (Operand.tmp 25) (Operand.tmp 18), type := 0, pos := _, after := #[{ on := 17, ground := Ground.data }, { on := 9, ground := Ground.data }, { on := 16, ground := Ground.chain }, { on := 0, ground := Ground.phase }, { on := 1, ground := Ground.phase }, { on := 2, ground := Ground.phase }, { on := 3, ground := Ground.phase }, { on := 4, ground := Ground.phase }, { on := 5, ground := Ground.phase }, { on := 6, ground := Ground.phase }, { on := 7, ground := Ground.phase }, { on := 8, ground := Ground.phase }, { on := 9, ground := Ground.phase }, { on := 10, ground := Ground.textOnly Departure.lateStores }, { on := 11, ground := Ground.textOnly Departure.lateStoresUnsure }, { on := 12, ground := Ground.textOnly Departure.lateStoresUnsure }, { on := 13, ground := Ground.phase }, { on := 14, ground := Ground.phase }, { on := 15, ground := Ground.phase }, { on := 16, ground := Ground.phase }], guard := none }) (by kernel_rfl) rfl (fun K hK => ?_)
  have HB4 := Lib.hid (HB3.out.set_ 1 (.map (some (w.heap.size + 1))))
  have z0 := HB4.out.frozen 2
  have cc0 : (w3.setCell ⟨w.heap.size, 1, none⟩ (.map (some (w.heap.size + 1)))).cell? ⟨w.heap.size, 2, none⟩ = some (.map (some mn)) := HB4.out.cell 2
  go_simp
  clear z0 cc0
  try dsimp only
  refine hK.out _ _ ?_ (fun hHeld => ?_)
  · exact fun h => (st_no (by kernel_rfl) h).elim
  clear hK K
  try simp only [Act.put, List.setIfInBounds_toArray, List.set_cons_zero, List.set_cons_succ]
  clear hHeld
  refine wpAnyG_pure (i := 19) (oi := { dst := some 26, op := Op.fieldAddr 63 (Operand.tmp 3) 3, type := 0, pos := _, after := #[{ on := 0, ground := Ground.phase }, { on := 1, ground := Ground.phase }, { on := 2, ground := Ground.phase }, { on := 3, ground := Ground.phase }, { on := 4, ground := Ground.phase }, { on := 5, ground := Ground.phase }, { on := 6, ground := Ground.phase }, { on := 7, ground := Ground.phase }, { on := 8, ground := Ground.phase }, { on := 9, ground := Ground.phase }, { on := 10, ground := Ground.phase }, { on := 11, ground := Ground.phase }, { on := 12, ground := Ground.phase }, { on := 13, ground := Ground.phase }, { on := 14, ground := Ground.phase }, { on := 15, ground := Ground.phase }, { on := 16, ground := Ground.phase }, { on := 17, ground := Ground.phase }, { on := 18, ground := Ground.phase }], guard := none }) (v := ?_) rfl (by kernel_rfl) (by kernel_rfl) (by kernel_rfl) (by kernel_rfl) (fun _ _ _ h => h) (Or.inl ⟨by rfl, ?_⟩) (fun h => (st_no (by kernel_rfl) h).elim) ?_
  rotate_left
  · intro w hSw
    try dsimp only at hSw
    go_simp
    try with_reducible rfl
  try simp only [Act.put, List.setIfInBounds_toArray, List.set_cons_zero, List.set_cons_succ]
  refine wpAnyG_one (i := 20) (o := { dst := none, op := Op.store 61 (Operand.tmp 26) (Operand.tmp 23), type := 0, pos := _, after := #[{ on := 19, ground := Ground.data }, { on := 14, ground := Ground.data }, { on := 18, ground := Ground.chain }, { on := 0, ground := Ground.phase }, { on := 1, ground := Ground.phase }, { on := 2, ground := Ground.phase }, { on := 3, ground := Ground.phase }, { on := 4, ground := Ground.phase }, { on := 5, ground := Ground.phase }, { on := 6, ground := Ground.phase }, { on := 7, ground := Ground.phase }, { on := 8, ground := Ground.phase }, { on := 9, ground := Ground.phase }, { on := 10, ground := Ground.phase }, { on := 11, ground := Ground.phase }, { on := 12, ground := Ground.phase }, { on := 13, ground := Ground.phase }, { on := 14, ground := Ground.phase }, { on := 15, ground := Ground.phase }, { on := 16, ground := Ground.phase }, { on := 17, ground := Ground.phase }, { on := 18, ground := Ground.phase }], guard := none }) (by kernel_rfl) rfl (fun K hK => ?_)
  have HB5 := Lib.hid (HB4.out.set_ 2 (.map (some w1.heap.size)))
  have z0 := HB5.out.frozen 3
  have cc0 : ((w3.setCell ⟨w.heap.size, 1, none⟩ (.map (some (w.heap.size + 1)))).setCell ⟨w.heap.size, 2, none⟩ (.map (some w1.heap.size))).cell? ⟨w.heap.size, 3, none⟩ = some (.slice A0 k c0) := HB5.out.cell 3
  go_simp
  clear z0 cc0
  try dsimp only
  refine hK.out _ _ ?_ (fun hHeld => ?_)
  · exact fun h => (st_no (by kernel_rfl) h).elim
  clear hK K
  try simp only [Act.put, List.setIfInBounds_toArray, List.set_cons_zero, List.set_cons_succ]
  clear hHeld
  refine wpAnyG_done (by kernel_rfl) ?_ _
  refine NoPanic.normal ?_
  --END cp4
  go_wp2_with fail
  go_ret
  rw [← HD.out.2.1]
  obtain ⟨hm1, hb1, hs1⟩ := H1.out
  obtain ⟨hm2, hb2, hs2⟩ := H2.out
  obtain ⟨ho3, hb3⟩ := H3.out
  have hsB : w2.heap.size = w.heap.size + 1 + 1 + 1 := by rw [hs2, hs1]
  have hg3 := hb3.size
  have f36 : Fr (fun q => q = w.heap.size) w3 (((w3.setCell ⟨w.heap.size, 1, none⟩ (.map (some (w.heap.size + 1)))).setCell ⟨w.heap.size, 2, none⟩ (.map (some w1.heap.size))).setCell ⟨w.heap.size, 3, none⟩ (.slice A3 s.L.length c3)) := (((Fr.refl (fun q => q = w.heap.size) w3).setCell (p := ⟨w.heap.size, 1, none⟩) (fun _ => rfl) _).setCell (p := ⟨w.heap.size, 2, none⟩) (fun _ => rfl) _).setCell (p := ⟨w.heap.size, 3, none⟩) (fun _ => rfl) _
  have hA3 : ∀ q, A3 = some ⟨q, 0, none⟩ → w2.heap.size ≤ q ∧ q < w3.heap.size := fun q hq => by
    rcases ho3.form with ⟨e, _⟩ | ⟨g, e, h1, h2, _⟩
    · rw [e] at hq; cases hq
    · rw [e] at hq; injection hq with hq; injection hq with hq; omega
  have hdl := HD.out.1
  refine ⟨fun q => w.heap.size ≤ q ∧ q < w3.heap.size, w.heap.size, rfl, ⟨w.heap.size + 1, w1.heap.size, A3, c3, HB5.out.set_ 3 (.slice A3 s.L.length c3), ⟨kS, ((hm1.keep hb2).keep hb3).fr f36 (by omega), by have h1 := HD.out.2.2.1; rw [← HD.out.2.1] at h1; exact h1⟩, (hm2.keep hb3).fr f36 (by omega), (ho3.down (Nat.zero_le _)).fr f36 (fun g hg e => by have := hA3 g hg; omega), hdl.lens, ⟨⟨by omega, by omega⟩, ⟨by omega, by omega⟩, ⟨by omega, by omega⟩, by omega, by omega, by omega, fun g hg => by have := hA3 g hg; exact ⟨⟨by omega, by omega⟩, by omega, by omega, by omega⟩⟩, fun q hq => Nat.lt_of_lt_of_le hq.2 f36.size, hdl.bound⟩, fun q hq => hq.1, ?_⟩
  exact ((Fr.of_below (next (next (next HD.out.2.2.2 H1.out.2.1) hb2) hb3)).trans f36 (fun q hq e => by omega)).below (Nat.le_refl _) fun _ h => h
end
end Go.Proofs.Ytjpelifafmkdpaa.DkW
