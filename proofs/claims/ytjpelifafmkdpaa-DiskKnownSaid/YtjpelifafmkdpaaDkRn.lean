/- The document's disk: New. -/
import Derived.Test.YtjpelifafmkdpaaDkRw
namespace Go.Proofs.Ytjpelifafmkdpaa.DkW
open Go.RowKit Go.Shelf Mem Rng
set_option linter.unusedVariables false

def bkc (S : List UInt8) : List Value := [.string (str S), .slice none 0 0]
theorem bk_one (l : List (List UInt8)) : ∀ u ∈ l.flatMap bkc, u.oneCell' = true := by
  intro u hu
  obtain ⟨x, _, hx⟩ := List.mem_flatMap.1 hu
  simp [bkc] at hx
  rcases hx with rfl | rfl <;> rfl
/-- While the blocks are made. -/
def NewI (w : World) (A : Option Addr) (j c : Nat) (wr : World) : Prop := Blk wr w.heap.size 56 #[.slice A j c, .int .i64 0, .int .i64 (-1), .bool false] ∧ OwnK wr w.heap.size 71 2 A j c ((List.replicate j z256).flatMap bkc) ∧ Below w.heap.size w wr
theorem NewI.done {w wr : World} {A : Option Addr} {j c : Nat} (h : NewI w A j c wr) (hj : j ≤ 4096) : RdS (fun k => w.heap.size ≤ k ∧ k < wr.heap.size) w.heap.size (DS.new j) wr := by
  obtain ⟨hb, ho, hbl⟩ := h
  refine ⟨⟨A, c, hb, ?_, ⟨Nat.le_refl _, hb.lt⟩, fun k hk => hk.2, hj, Nat.zero_le _, (by decide : (-1 : Int) ≤ -1), (by decide : (-1 : Int) ≤ 9223372036854775807), fun i hi => Nat.zero_le _⟩, ⟨fun x hx => (by cases hx), fun i => z256_len, fun i => rfl, Nat.le_refl _⟩⟩
  show j = 0 ∨ _
  rcases ho.2 with ⟨_, e⟩ | ⟨g, cap, cur, hv, hbg, hh, _, _, _, ht⟩
  · exact .inl e
  · injection hv with hv
    have hgq : g ≠ w.heap.size := fun e => Blk.ne_ownK hb ho (by decide) (by rw [hv, e])
    refine .inr ⟨g, cur, hv, hh, ⟨hbg, (Array.getElem?_eq_some_iff.1 hh).1⟩, hgq, fun i hi => ?_⟩
    have hi : i < j := hi
    refine ⟨none, 0, ?_, ?_, .inl rfl⟩
    · have h0 := Open.flat_get (cs := bkc) (K := 2) (fun _ => rfl) (List.replicate j z256) i 0 z256 (by rw [List.getElem?_replicate, if_pos hi]) (by decide)
      rw [← ht, List.getElem?_take, if_pos (by omega)] at h0
      have h1 : cur[i * 2 + 0]? = (bkc z256)[0]? := by rw [← h0]; exact (Array.getElem?_toList ..).symm
      exact h1
    · have h0 := Open.flat_get (cs := bkc) (K := 2) (fun _ => rfl) (List.replicate j z256) i 1 z256 (by rw [List.getElem?_replicate, if_pos hi]) (by decide)
      rw [← ht, List.getElem?_take, if_pos (by omega)] at h0
      have h1 : cur[i * 2 + 1]? = (bkc z256)[1]? := by rw [← h0]; exact (Array.getElem?_toList ..).symm
      exact h1
def RNew (w : World) (n : Nat) (e : Ending) (w' : World) : Prop := ∃ G q, e = .returned (.pointer (some ⟨q, 0, none⟩)) ∧ RdS G q (DS.new n) w' ∧ (∀ k, G k → w.heap.size ≤ k) ∧ Below w.heap.size w w'
set_option maxRecDepth 100000 in
set_option maxHeartbeats 4000000 in
theorem rnew_any (w : World) (K : Int) : Calls Try.prog 26 #[.int .i64 K] w (RNew w (min 4096 (max 0 K)).toNat) := by
  obtain ⟨m, hm⟩ : ∃ m, (min 4096 (max 0 K)).toNat = m := ⟨_, rfl⟩
  have hm4 : (m : Int) ≤ 4096 := by omega
  have hmK : ∀ j : Nat, j < m → (j : Int) < K ∧ (j : Int) < 4096 := fun j hj => by omega
  have hmN : ¬ ((m : Int) < K ∧ (m : Int) < 4096) := by omega
  have HK := Lib.hid (And.intro hmK hmN)
  rw [hm]
  obtain ⟨i1, hi1, hz0, hz1, hz2⟩ := info_parts bkinfo
  have HI1 := Lib.hid (And.intro hi1 (And.intro hz0 (And.intro hz1 hz2)))
  have HZ := Lib.hid (show List.replicate 256 (0 : UInt8) = z256 from rfl)
  clear hm hmK hmN hi1 hz0 hz1 hz2
  go_enter Try.func26, Try.ntmps26
  go_wp2_with fail
  go_loopw [4] (fun i wr => ∃ (j c : Nat) (A : Option Addr), i = .int .i64 (j : Int) ∧ j ≤ m ∧ NewI w A j c wr) (fun i _ => m - (intOf i).toNat)
  case atStart => exact ⟨0, 0, none, rfl, Nat.zero_le _, Blk.new w _ _, OwnK.nil, nextA (Mem.start w) _⟩
  case round =>
    obtain ⟨j, c, A, rfl, hj, hI⟩ := hrel
    have HI := Lib.hid hI
    clear hI
    obtain ⟨w3, rfl⟩ : ∃ w3 : World, w3 = wr := ⟨_, rfl⟩
    have hj0 : (0 : Int) ≤ (j : Int) := by omega
    by_cases hjm : j < m
    · have hk1 : (j : Int) < K := (HK.out.1 j hjm).1
      have hk2 : (j : Int) < 4096 := (HK.out.1 j hjm).2
      have HT := Lib.hid (show w3.drew.cell? ⟨w.heap.size, 0, none⟩ = some (.slice A j c) from HI.out.1.cell 0)
      go_wp2_with fail
      --HELD rn5
      refine wp_region_noPanic ?_
      refine wp_heldG (fun w' => w'.cell? ⟨w.heap.size, 0, none⟩ = some (.slice A j c)) [12] (by kernel_rfl) ?hs0 ?rg0
      case hs0 =>
        exact HT.out
      case rg0 =>
      intro hHeld
      refine wpAnyG_pure (i := 0) (oi := { dst := some 16, op := Op.move (Operand.tmp 3), type := 49, pos := _, after := #[], guard := none }) (v := ?_) rfl (by kernel_rfl) (by kernel_rfl) (by kernel_rfl) (by kernel_rfl) (fun _ _ _ h => h) (Or.inl ⟨by rfl, ?_⟩) (fun _ => by assumption) ?_
      rotate_left
      · intro w hSw
        try dsimp only at hSw
        go_simp
        try with_reducible rfl
      try simp only [Act.put, List.setIfInBounds_toArray, List.set_cons_zero, List.set_cons_succ]
      refine wpAnyG_pure (i := 1) (oi := { dst := some 17, op := Op.move (Operand.tmp 3), type := 49, pos := _, after := #[], guard := none }) (v := ?_) rfl (by kernel_rfl) (by kernel_rfl) (by kernel_rfl) (by kernel_rfl) (fun _ _ _ h => h) (Or.inl ⟨by rfl, ?_⟩) (fun _ => by assumption) ?_
      rotate_left
      · intro w hSw
        try dsimp only at hSw
        go_simp
        try with_reducible rfl
      try simp only [Act.put, List.setIfInBounds_toArray, List.set_cons_zero, List.set_cons_succ]
      refine wpAnyG_pure (i := 2) (oi := { dst := some 18, op := Op.nilCheck (Operand.tmp 17), type := 0, pos := _, after := #[{ on := 1, ground := Ground.data }], guard := none }) (v := ?_) rfl (by kernel_rfl) (by kernel_rfl) (by kernel_rfl) (by kernel_rfl) (fun _ _ _ h => h) (Or.inl ⟨by rfl, ?_⟩) (fun _ => by assumption) ?_
      rotate_left
      · intro w hSw
        try dsimp only at hSw
        go_simp
        try with_reducible rfl
      try simp only [Act.put, List.setIfInBounds_toArray, List.set_cons_zero, List.set_cons_succ]
      refine wpAnyG_pure (i := 3) (oi := { dst := some 19, op := Op.fieldAddr 56 (Operand.tmp 18) 0, type := 0, pos := _, after := #[{ on := 2, ground := Ground.data }], guard := none }) (v := ?_) rfl (by kernel_rfl) (by kernel_rfl) (by kernel_rfl) (by kernel_rfl) (fun _ _ _ h => h) (Or.inl ⟨by rfl, ?_⟩) (fun _ => by assumption) ?_
      rotate_left
      · intro w hSw
        try dsimp only at hSw
        go_simp
        try with_reducible rfl
      try simp only [Act.put, List.setIfInBounds_toArray, List.set_cons_zero, List.set_cons_succ]
      refine wpAnyG_take (i := 4) (oi := { dst := some 20, op := Op.load 54 (Operand.tmp 19), type := 54, pos := _, after := #[{ on := 3, ground := Ground.data }], guard := none }) (v := ?_) rfl (by kernel_rfl) (by kernel_rfl) (by kernel_rfl) (by kernel_rfl) (fun _ _ _ h => h) (Or.inl ⟨by rfl, ?_⟩) (by assumption) ?_
      rotate_left
      · intro w hSw
        try dsimp only at hSw
        go_simp
        try with_reducible rfl
      try simp only [Act.put, List.setIfInBounds_toArray, List.set_cons_zero, List.set_cons_succ]
      refine wpAnyG_one (i := 5) (o := { dst := some 21, op := Op.makeSlice 23 (Operand.const (Value.int IntKind.i64 256)) (Operand.const (Value.int IntKind.i64 256)), type := 23, pos := _, after := #[], guard := none }) (by kernel_rfl) rfl (fun K hK => ?_)
      refine step_zeros w3.drew rfl _ _ rfl 256 rfl rfl (by omega) ?_
      intro z w5 hz hb
      have HB5 := Lib.hid (show Below w3.heap.size w3 w5 from (nextN (Mem.start w3) 1).trans hb)
      have hcv := convB (blk_zeros hz) 256 256 (List.length_replicate).symm
      rw [HZ.out] at hcv
      clear hz hb
      try dsimp only
      refine hK.out _ _ ?_ (fun hHeld => ?_)
      · intro _
        try dsimp only
        exact cellB HB5.out HT.out
      clear hK K
      try simp only [Act.put, List.setIfInBounds_toArray, List.set_cons_zero, List.set_cons_succ]
      have hHeld := hHeld (by kernel_rfl)
      refine wpAnyG_one (i := 6) (o := { dst := some 22, op := Op.convert 23 9 (Operand.tmp 21), type := 9, pos := _, after := #[{ on := 5, ground := Ground.data }], guard := none }) (by kernel_rfl) rfl (fun K hK => ?_)
      go_simp
      clear hcv
      try dsimp only
      refine hK.out _ _ ?_ (fun hHeld => ?_)
      · intro _
        try dsimp only
        exact hHeld
      clear hK K
      try simp only [Act.put, List.setIfInBounds_toArray, List.set_cons_zero, List.set_cons_succ]
      have hHeld := hHeld (by kernel_rfl)
      refine wpAnyG_pure (i := 7) (oi := { dst := some 23, op := Op.build 71 #[(0, Operand.tmp 22)], type := 71, pos := _, after := #[{ on := 6, ground := Ground.data }], guard := none }) (v := ?_) rfl (by kernel_rfl) (by kernel_rfl) (by kernel_rfl) (by kernel_rfl) (fun _ _ _ h => h) (Or.inl ⟨by rfl, ?_⟩) (fun _ => by assumption) ?_
      rotate_left
      · intro w hSw
        try dsimp only at hSw
        go_simp
        try with_reducible rfl
      try simp only [Act.put, List.setIfInBounds_toArray, List.set_cons_zero, List.set_cons_succ]
      refine wpAnyG_one (i := 8) (o := { dst := some 24, op := Op.buildSlice 54 1 #[(0, Operand.tmp 23)], type := 54, pos := _, after := #[{ on := 7, ground := Ground.data }], guard := none }) (by kernel_rfl) rfl (fun K hK => ?_)
      obtain ⟨v, hv⟩ : ∃ v, str z256 = v := ⟨_, rfl⟩
      have HV := Lib.hid hv
      rw [hv]
      clear hv
      go_simp
      try dsimp only
      obtain ⟨w6, hw6⟩ : ∃ w6 : World, w6 = w5.alloc (.cells #[.string v, .slice none 0 0] 71) := ⟨_, rfl⟩
      have HB6 := Lib.hid (show Below w5.heap.size w5 w6 from by rw [hw6]; exact nextA (Mem.start w5) _)
      have HN6 := Lib.hid (show Cells w6 w6.heap.size (some ⟨w5.heap.size, 0, none⟩) ([z256].flatMap bkc) from by
        rw [hw6, show [z256].flatMap bkc = [.string v, .slice none 0 0] from by rw [← HV.out]; rfl]
        exact fun _ => ⟨_, 0, rfl, by rw [World.size_alloc]; exact Nat.lt_succ_self _, fun j v hv => by rw [Nat.zero_add, new_cell, ← hv]; simp⟩)
      rw [← hw6]
      obtain ⟨wq, hwq⟩ : ∃ wq, w5.heap.size = wq := ⟨_, rfl⟩
      rw [hwq] at HN6 ⊢
      clear hw6 hwq
      refine hK.out _ _ ?_ (fun hHeld => ?_)
      · intro _
        try dsimp only
        exact cellB HB6.out (cellB HB5.out HT.out)
      clear hK K
      try simp only [Act.put, List.setIfInBounds_toArray, List.set_cons_zero, List.set_cons_succ]
      have hHeld := hHeld (by kernel_rfl)
      refine wpAnyG_one (i := 9) (o := { dst := some 25, op := Op.call { callee := Callee.builtin Builtin.append, args := #[Operand.tmp 20, Operand.tmp 24], argTypes := #[54, 54] }, type := 54, pos := _, after := #[{ on := 4, ground := Ground.data }, { on := 8, ground := Ground.data }], guard := none }) (by kernel_rfl) rfl (fun K hK => ?_)
      have HB36 := Lib.hid (next HB5.out HB6.out)
      refine step_appK w6 rfl (.tmp 20) (.tmp 24) 54 (by rfl) w.heap.size 71 i1 _ 2 40 Try.underlying54 HI1.out.1 HI1.out.2.1 HI1.out.2.2.1 HI1.out.2.2.2 (by rfl) (by decide) A c j ((List.replicate j z256).flatMap bkc) (by rfl) (HI.out.2.1.keep HB36.out) w6.heap.size (some ⟨wq, 0, none⟩) 1 1 ([z256].flatMap bkc) (by rfl) HN6.out (by rfl) (bk_one _) (by unfold maxLen; omega) (by omega) (next HI.out.2.2 HB36.out).size (j + 1) rfl ?_
      intro A9 c9 w7 ho hb hg _
      have HO7 := Lib.hid ho
      have HB7 := Lib.hid ((next HI.out.2.2 HB36.out).trans hb)
      have HK7 := Lib.hid (Blk.appK (HI.out.1.keep HB36.out) (HI.out.2.1.keep HB36.out) (by decide) hg)
      clear ho hb hg
      try dsimp only
      refine hK.out _ _ ?_ (fun hHeld => ?_)
      · intro _
        try dsimp only
        exact HK7.out.cell 0
      clear hK K
      try simp only [Act.put, List.setIfInBounds_toArray, List.set_cons_zero, List.set_cons_succ]
      have hHeld := hHeld (by kernel_rfl)
      refine wpAnyG_pure (i := 10) (oi := { dst := some 26, op := Op.nilCheck (Operand.tmp 16), type := 0, pos := _, after := #[{ on := 0, ground := Ground.data }, { on := 0, ground := Ground.phase }, { on := 1, ground := Ground.phase }, { on := 2, ground := Ground.phase }, { on := 3, ground := Ground.phase }, { on := 4, ground := Ground.phase }, { on := 5, ground := Ground.phase }, { on := 6, ground := Ground.phase }, { on := 7, ground := Ground.phase }, { on := 8, ground := Ground.phase }, { on := 9, ground := Ground.phase }], guard := none }) (v := ?_) rfl (by kernel_rfl) (by kernel_rfl) (by kernel_rfl) (by kernel_rfl) (fun _ _ _ h => h) (Or.inl ⟨by rfl, ?_⟩) (fun _ => by assumption) ?_
      rotate_left
      · intro w hSw
        try dsimp only at hSw
        go_simp
        try with_reducible rfl
      try simp only [Act.put, List.setIfInBounds_toArray, List.set_cons_zero, List.set_cons_succ]
      refine wpAnyG_pure (i := 11) (oi := { dst := some 27, op := Op.fieldAddr 56 (Operand.tmp 26) 0, type := 0, pos := _, after := #[{ on := 10, ground := Ground.data }, { on := 0, ground := Ground.phase }, { on := 1, ground := Ground.phase }, { on := 2, ground := Ground.phase }, { on := 3, ground := Ground.phase }, { on := 4, ground := Ground.phase }, { on := 5, ground := Ground.phase }, { on := 6, ground := Ground.phase }, { on := 7, ground := Ground.phase }, { on := 8, ground := Ground.phase }, { on := 9, ground := Ground.phase }], guard := none }) (v := ?_) rfl (by kernel_rfl) (by kernel_rfl) (by kernel_rfl) (by kernel_rfl) (fun _ _ _ h => h) (Or.inl ⟨by rfl, ?_⟩) (fun _ => by assumption) ?_
      rotate_left
      · intro w hSw
        try dsimp only at hSw
        go_simp
        try with_reducible rfl
      try simp only [Act.put, List.setIfInBounds_toArray, List.set_cons_zero, List.set_cons_succ]
      refine wpAnyG_one (i := 12) (o := { dst := none, op := Op.store 54 (Operand.tmp 27) (Operand.tmp 25), type := 0, pos := _, after := #[{ on := 11, ground := Ground.data }, { on := 9, ground := Ground.data }, { on := 9, ground := Ground.chain }, { on := 0, ground := Ground.phase }, { on := 1, ground := Ground.phase }, { on := 2, ground := Ground.phase }, { on := 3, ground := Ground.phase }, { on := 4, ground := Ground.phase }, { on := 5, ground := Ground.phase }, { on := 6, ground := Ground.phase }, { on := 7, ground := Ground.phase }, { on := 8, ground := Ground.phase }, { on := 9, ground := Ground.phase }], guard := none }) (by kernel_rfl) rfl (fun K hK => ?_)
      have HN := Lib.hid (show NewI w A9 (j + 1) c9 (w7.setCell ⟨w.heap.size, 0, none⟩ (.slice A9 (j + 1) c9)) from ⟨HK7.out.set_ 0 (.slice A9 (j + 1) c9), by
        have ho := HO7.out
        rw [show (List.replicate j z256).flatMap bkc ++ [z256].flatMap bkc = (List.replicate (j + 1) z256).flatMap bkc from by rw [List.replicate_succ', List.flatMap_append]] at ho
        exact ho.fr ((Fr.refl (fun k => k = w.heap.size) w7).setCell (p := ⟨w.heap.size, 0, none⟩) (fun _ => rfl) _) (fun g hg e => Blk.ne_ownK HK7.out ho (by decide) (by rw [hg, e])), HB7.out.setCell (Nat.le_refl _) _⟩)
      have z0 := HK7.out.frozen 0
      have cc0 : w7.cell? ⟨w.heap.size, 0, none⟩ = some (.slice A j c) := HK7.out.cell 0
      go_simp
      clear z0 cc0
      try dsimp only
      refine hK.out _ _ ?_ (fun hHeld => ?_)
      · exact fun h => (st_no (by kernel_rfl) h).elim
      clear hK K
      try simp only [Act.put, List.setIfInBounds_toArray, List.set_cons_zero, List.set_cons_succ]
      clear hHeld
      refine wpAnyG_done (by kernel_rfl) ?_ _
      refine NoPanic.normal ?_
      --END rn5
      go_wp2_with fail
      go_roundw
      case rel => exact ⟨j + 1, c9, A9, rfl, hjm, HN.out⟩
      case measure => simp [intOf]; omega
    · obtain rfl : m = j := by omega
      have hd := HI.out.done (by omega)
      have HD := Lib.hid (And.intro hd HI.out.2.2)
      clear hd
      by_cases h1 : (m : Int) < K
      · have h2 : ¬ (m : Int) < 4096 := fun h => HK.out.2 ⟨h1, h⟩
        go_wp2_with fail
        go_ret
        exact ⟨_, _, rfl, HD.out.1, fun k hk => hk.1, HD.out.2⟩
      · go_wp2_with fail
        go_ret
        exact ⟨_, _, rfl, HD.out.1, fun k hk => hk.1, HD.out.2⟩
end Go.Proofs.Ytjpelifafmkdpaa.DkW
