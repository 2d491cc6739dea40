/- The document's None; same. -/
import Derived.Test.YthdapoipfnnaeaaMxRef
namespace Go.Proofs.Ythdapoipfnnaeaa.MxW
open Go.RowKit Go.Shelf Mem Gf FdW Mx Rng
set_option linter.unusedVariables false

set_option maxRecDepth 100000 in
set_option maxHeartbeats 1000000 in
theorem rnone_any (w : World) (r c : Nat) (hr : ((r * c : Nat) : Int) ≤ 1000000000) :
    Calls Try.prog 50 #[.int .i64 (r : Int), .int .i64 (c : Int)] w (NoneOk w r c) := by
  obtain ⟨i0, hi0, hz0, hz1, hz2⟩ := info_parts u8info
  obtain ⟨q, hq⟩ : ∃ q, r * c = q := ⟨_, rfl⟩
  have e1 : (r : Int) * (c : Int) = (q : Int) := by rw [← hq]; simp
  have w1 : wrap64 (q : Int) = (q : Int) := by unfold wrap64; omega
  rw [hq] at hr
  have HQ := Lib.hid hq
  obtain ⟨g0, hg0⟩ : ∃ x, w.heap.size = x := ⟨_, rfl⟩
  obtain ⟨w1, hw1⟩ : ∃ x : World, w.alloc (.cells #[.int .i64 0, .int .i64 0, .slice none 0 0] 38) = x := ⟨_, rfl⟩
  have hb1 : Below w.heap.size w w1 := by rw [← hw1]; exact nextA (Mem.start w) _
  have hB1 : Blk w1 g0 38 #[.int .i64 0, .int .i64 0, .slice none 0 0] := by rw [← hw1, ← hg0]; exact Blk.new w _ _
  obtain ⟨g1, hg1⟩ : ∃ x, w1.heap.size = x := ⟨_, rfl⟩
  have hs1 : g1 = g0 + 1 := by rw [← hg1, ← hw1, World.size_alloc, hg0]
  have ho := own_mk w1 q (.int .u8 0) 5 (by unfold maxLen; omega) (base := g0) (by omega)
  obtain ⟨w2, hw2⟩ : ∃ x : World, w1.alloc (.cells (Array.replicate q (.int .u8 0)) 5) = x := ⟨_, rfl⟩
  have hb2 : Below w1.heap.size w1 w2 := by rw [← hw2]; exact nextA (Mem.start w1) _
  have hB2 := hB1.keep hb2
  rw [hw2, hg1] at ho
  obtain ⟨⟨c0, c1, c2⟩, f0, f1, f2⟩ := cells3 hB2
  obtain ⟨w3, hw3⟩ : ∃ x : World, ((w2.setCell ⟨g0, 0, none⟩ (.int .i64 (r : Int))).setCell ⟨g0, 1, none⟩ (.int .i64 (c : Int))).setCell ⟨g0, 2, none⟩ (.slice (some ⟨g1, 0, none⟩) q q) = x := ⟨_, rfl⟩
  have h3 := set3 hB2 (.int .i64 (r : Int)) (.int .i64 (c : Int)) (.slice (some ⟨g1, 0, none⟩) q q)
  rw [hw3] at h3
  have H3 := Lib.hid h3
  have HW3 := Lib.hid hw3
  clear hw3 h3
  have HO := Lib.hid (And.intro ho (And.intro hs1 (next hb1 hb2)))
  have HG0 := Lib.hid hg0
  have HG1 := Lib.hid hg1
  have HW1 := Lib.hid hw1
  have HW2 := Lib.hid hw2
  clear hq hb1 hB1 hb2 hB2 ho hs1 hg0 hg1 hw1 hw2
  go_enter Try.func50, Try.ntmps50
  go_wp2_with ((with_reducible show wpList _ _ _ ((⟨some 10, _, _, _, _, _⟩ : Oper) :: _) _ _); refine wpList_mk rfl _ _ _ rfl 5 i0 1 (.int .u8 0) Try.underlying22 hi0 hz0 hz1 hz2 rfl _ q rfl rfl rfl (by omega) (by unfold maxLen; omega) q rfl ?_; rw [HW1.out, HW2.out, HG1.out, HG0.out])
  rw [HW3.out]
  obtain ⟨⟨d0, d1, d2⟩, _⟩ := cells3 H3.out.1
  refine bodyPost_ret (v := .agg #[.int .i64 (r : Int), .int .i64 (c : Int), .slice (some ⟨g1, 0, none⟩) q q]) (by simp [results, Try.results50, go_sem, d0, d1, d2]) rfl ?_
  have hz : (flat r c fun _ _ => 0).map u8v = List.replicate q (.int .u8 0) := by rw [flat_zero, HQ.out, List.map_replicate]; rfl
  have h1 := HO.out.2.2
  have hg := HG0.out
  refine ⟨g1, by rw [HQ.out], ?_, h1.trans (H3.out.2.below h1.size fun k e => by rw [e, hg]; exact Nat.le_refl _)⟩
  rw [hz, HQ.out, hg]
  exact HO.out.1.fr H3.out.2 (fun g e1 e2 => by have := HO.out.2.1; injection e1 with e1; have := congrArg Addr.block e1; dsimp only at this; omega)

set_option maxRecDepth 100000 in
set_option maxHeartbeats 2000000 in
theorem lsame_any (w : World) (R C R' C' : Int) (A B : Option Addr) (a b : List UInt8) (n c m d : Nat) (hn : a.length = n) (hm : b.length = m) (hA : Bytes w w.heap.size A a) (hB : Bytes w w.heap.size B b) :
    Calls Try.prog 23 #[.agg #[.int .i64 R, .int .i64 C, .slice A n c], .agg #[.int .i64 R', .int .i64 C', .slice B m d]] w (BoolOk w (sameB R C R' C' a b)) := by
  obtain ⟨g0, hg0⟩ : ∃ x, w.heap.size = x := ⟨_, rfl⟩
  obtain ⟨w2, hw2⟩ : ∃ x : World, (w.alloc (.cells #[.int .i64 R, .int .i64 C, .slice A n c] 27)).alloc (.cells #[.int .i64 R', .int .i64 C', .slice B m d] 38) = x := ⟨_, rfl⟩
  have H2 := Lib.hid (show Below w.heap.size w w2 ∧ Blk w2 g0 27 #[.int .i64 R, .int .i64 C, .slice A n c] ∧ Blk w2 (g0 + 1) 38 #[.int .i64 R', .int .i64 C', .slice B m d] from by
    rw [← hw2, ← hg0]
    refine ⟨nextA (nextA (Mem.start w) _) _, (Blk.new w _ _).alloc _, ?_⟩
    have := Blk.new (w.alloc (.cells #[.int .i64 R, .int .i64 C, .slice A n c] 27)) 38 #[.int .i64 R', .int .i64 C', .slice B m d]
    rw [World.size_alloc] at this; exact this)
  have HN := Lib.hid (And.intro hn hm)
  have HA := Lib.hid hA
  have HB := Lib.hid hB
  have HW2 := Lib.hid hw2
  have HG0 := Lib.hid hg0
  clear hn hm hA hB hw2 hg0
  go_enter Try.func23, Try.ntmps23
  go_wp2_with fail
  rw [HW2.out, HG0.out]
  --HELD same
  refine wp_region_noPanic ?_
  refine wp_heldG (fun w' => Below w2.heap.size w2 w') [] (by kernel_rfl) ?hs0 ?rg0
  case hs0 =>
    exact nextN (Mem.start w2) 1
  case rg0 =>
  intro hHeld
  refine wpAnyG_take (i := 0) (oi := { dst := some 5, op := Op.load 27 (Operand.tmp 2), type := 27, pos := _, after := #[], guard := none }) (v := ?_) rfl (by kernel_rfl) (by kernel_rfl) (by kernel_rfl) (by kernel_rfl) (fun _ _ _ h => h) (Or.inl ⟨by rfl, ?_⟩) (by assumption) ?_
  rotate_left
  · intro w hSw
    try dsimp only at hSw
    obtain ⟨⟨c0, c1, c2⟩, _⟩ := cells3 (H2.out.2.1.keep hSw)
    go_simp
    try with_reducible rfl
  try simp only [Act.put, List.setIfInBounds_toArray, List.set_cons_zero, List.set_cons_succ]
  refine wpAnyG_take (i := 2) (oi := { dst := some 7, op := Op.load 38 (Operand.tmp 3), type := 38, pos := _, after := #[], guard := none }) (v := ?_) rfl (by kernel_rfl) (by kernel_rfl) (by kernel_rfl) (by kernel_rfl) (fun _ _ _ h => h) (Or.inl ⟨by rfl, ?_⟩) (by assumption) ?_
  rotate_left
  · intro w hSw
    try dsimp only at hSw
    obtain ⟨⟨c0, c1, c2⟩, _⟩ := cells3 (H2.out.2.2.keep hSw)
    go_simp
    try with_reducible rfl
  try simp only [Act.put, List.setIfInBounds_toArray, List.set_cons_zero, List.set_cons_succ]
  refine wpAnyG_one (i := 1) (o := { dst := some 6, op := Op.call { callee := Callee.value (Operand.func 20), args := #[Operand.tmp 5], argTypes := #[27] }, type := 38, pos := _, after := #[{ on := 0, ground := Ground.data }], guard := none }) (by kernel_rfl) rfl (fun K hK => ?_)
  go_simp
  refine (plain_any _ R C A n c).mono ?_
  rintro e w3 ⟨rfl, hb⟩
  have H3 := Lib.hid (next hHeld hb)
  try dsimp only
  refine hK.out _ _ ?_ (fun hHeld => ?_)
  · intro _
    try dsimp only
    exact H3.out
  clear hK K
  try simp only [Act.put, List.setIfInBounds_toArray, List.set_cons_zero, List.set_cons_succ]
  have hHeld := hHeld (by kernel_rfl)
  refine wpAnyG_one (i := 3) (o := { dst := some 8, op := Op.call { callee := Callee.value (Operand.func 25), args := #[Operand.tmp 6, Operand.tmp 7], argTypes := #[38, 38] }, type := 4, pos := _, after := #[{ on := 1, ground := Ground.data }, { on := 2, ground := Ground.data }, { on := 1, ground := Ground.chain }], guard := none }) (by kernel_rfl) rfl (fun K hK => ?_)
  go_simp
  have hbb := H2.out.1.trans (H3.out.mono H2.out.1.size)
  refine (rsame_any w3 R C R' C' A B a b n c m d w.heap.size w.heap.size HN.out.1 HN.out.2 hbb.size hbb.size (HA.out.below hbb) (HB.out.below hbb)).mono ?_
  rintro e w4 ⟨rfl, hb⟩
  have H4 := Lib.hid (next hHeld hb)
  try dsimp only
  refine hK.out _ _ ?_ (fun hHeld => ?_)
  · intro _
    try dsimp only
    exact H4.out
  clear hK K
  try simp only [Act.put, List.setIfInBounds_toArray, List.set_cons_zero, List.set_cons_succ]
  have hHeld := hHeld (by kernel_rfl)
  refine wpAnyG_pure (i := 4) (oi := { dst := some 4, op := Op.assign (Operand.tmp 8), type := 4, pos := _, after := #[{ on := 3, ground := Ground.data }, { on := 3, ground := Ground.chain }, { on := 0, ground := Ground.phase }, { on := 1, ground := Ground.phase }, { on := 2, ground := Ground.phase }, { on := 3, ground := Ground.phase }], guard := none }) (v := ?_) rfl (by kernel_rfl) (by kernel_rfl) (by kernel_rfl) (by kernel_rfl) (fun _ _ _ h => h) (Or.inl ⟨by rfl, ?_⟩) (fun _ => by assumption) ?_
  rotate_left
  · intro w hSw
    try dsimp only at hSw
    go_simp
    try with_reducible rfl
  try simp only [Act.put, List.setIfInBounds_toArray, List.set_cons_zero, List.set_cons_succ]
  refine wpAnyG_done (by kernel_rfl) ?_ _
  refine NoPanic.normal ?_
  --END same
  go_wp2_with fail
  go_ret
  exact ⟨rfl, H2.out.1.trans (H4.out.mono H2.out.1.size)⟩
end Go.Proofs.Ythdapoipfnnaeaa.MxW
