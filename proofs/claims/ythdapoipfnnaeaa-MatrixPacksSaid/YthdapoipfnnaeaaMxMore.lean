/- more: a row, times a number, added to another one. -/
import Derived.Test.YthdapoipfnnaeaaMxSm
namespace Go.Proofs.Ythdapoipfnnaeaa.MxW
open Go.RowKit Go.Shelf Mem Gf FdW Mx Rng
set_option linter.unusedVariables false

def addRow (m : M) (i : Nat) (f : Nat → UInt8) (t : UInt8) : M := fun i' k => if i' = i then m i k ^^^ mul (f k) t else m i' k
def addUpto (m : M) (i : Nat) (f : Nat → UInt8) (t : UInt8) (j : Nat) : M := fun i' k => if i' = i ∧ k < j then m i k ^^^ mul (f k) t else m i' k
/-- A row that is read while row i of the matrix in block g is written. -/
structure Rd (w : World) (p g i c : Nat) (gr o : Nat) (f : Nat → UInt8) : Prop where
  cell : ∀ k, k < c → w.cell? ⟨gr, o + k, none⟩ = some (.int .u8 ((f k).toNat : Int))
  far : gr ≠ g ∨ ∀ k k', k < c → k' < c → o + k ≠ i * c + k'
  ne : gr ≠ p
  lt : gr < w.heap.size
theorem cell_far {w : World} {p q : Addr} (h : q ≠ p) (v : Value) (x : Value) (hc : w.cell? q = some x) : (w.setCell p v).cell? q = some x := by
  rw [World.cell?_setCell_other w p q v (fun e => h e.symm)]; exact hc
theorem Rd.fr {S : Nat → Prop} {w w' : World} {p g i c gr o : Nat} {f : Nat → UInt8} (h : Rd w p g i c gr o f) (hf : Fr S w w') (hS : ¬ S gr) : Rd w' p g i c gr o f :=
  ⟨fun k hk => (World.cell?_of_block (hf.block gr h.lt hS)).trans (h.cell k hk), h.far, h.ne, Nat.lt_of_lt_of_le h.lt hf.size⟩
def MoreOk (w : World) (p B g cap r c : Nat) (m : M) (e : Ending) (w' : World) : Prop := e = .returned (.tuple #[]) ∧ Wm w' B g cap r c m ∧ Fld w' p ∧ Fr (fun k => k = g ∨ k = p) w w'
set_option maxRecDepth 100000 in
set_option maxHeartbeats 4000000 in
theorem more_any (w : World) (p : Nat) (hp : Fld w p) (B g cap r c : Nat) (m : M) (hw : Wm w B g cap r c m) (i : Nat) (hi : i < r) (hc0 : 0 < c) (hc9 : ((i * c + c : Nat) : Int) ≤ 1000000000) (hpg : p ≠ g) (gr o cr : Nat) (f : Nat → UInt8) (hr : Rd w p g i c gr o f) (t : UInt8) (ct : Nat) :
    Calls Try.prog 48 #[fptr (some p), .slice (some ⟨g, i * c, none⟩) c ct, .slice (some ⟨gr, o, none⟩) c cr, .int .u8 (t.toNat : Int)] w (MoreOk w p B g cap r c (addRow m i f t)) := by
  by_cases ht : t = 0
  · have hz : ((t.toNat : Int) == 0) = true := by rw [ht]; rfl
    have hw2 : Wm w B g cap r c (addRow m i f t) := hw.congr fun i' _ k _ => by
      unfold addRow
      by_cases e : i' = i
      · subst e; rw [if_pos rfl, ht, mul_zero, UInt8.xor_zero]
      · rw [if_neg e]
    clear ht
    go_enter Try.func48, Try.ntmps48
    go_wp2_with fail
    refine bodyPost_ret (results_none rfl _ _ _) rfl ?_
    exact ⟨rfl, hw2, hp, Fr.refl _ _⟩
  · have hz : ((t.toNat : Int) == 0) = false := u8_zero_no ht
    obtain ⟨q, hq⟩ : ∃ q, i * c = q := ⟨_, rfl⟩
    have HI := Lib.hid (And.intro hi (And.intro hq hpg))
    have HW := Lib.hid hw
    have HF := Lib.hid hp
    have HR := Lib.hid hr
    rw [hq] at hc9 ⊢
    clear hi hw hp hr hq hpg ht
    go_enter Try.func48, Try.ntmps48
    go_wp2_with fail
    go_loopw [14] (fun x wr => ∃ j : Nat, x = .int .i64 (j : Int) ∧ j ≤ c ∧ Wm wr B g cap r c (addUpto m i f t j) ∧ Fld wr p ∧ Rd wr p g i c gr o f ∧ Fr (fun k => k = g ∨ k = p) w wr) (fun x _ => c - (intOf x).toNat)
    case atStart => exact ⟨0, rfl, Nat.zero_le _, HW.out.congr fun i' _ k _ => by unfold addUpto; rw [if_neg (by omega)], HF.out, HR.out, Fr.refl _ _⟩
    case round =>
      obtain ⟨j, rfl, hj, h1, h2, h3, h4⟩ := hrel
      by_cases hjc : j < c
      · have hji : (j : Int) < (c : Int) := by omega
        have hj0 : (0 : Int) ≤ (j : Int) := by omega
        have hr1 := h3.cell j hjc
        obtain ⟨hx1, hx2⟩ := h1.at_ HI.out.1 hjc
        rw [HI.out.2.1, show addUpto m i f t j i j = m i j from by unfold addUpto; rw [if_neg (by omega)]] at hx1
        rw [HI.out.2.1] at hx2
        have H := Lib.hid (And.intro h1 (And.intro h2 (And.intro h3 (And.intro h4 hjc))))
        obtain ⟨x, hx⟩ : ∃ x, m i j = x := ⟨_, rfl⟩
        obtain ⟨y, hy⟩ : ∃ y, f j = y := ⟨_, rfl⟩
        rw [hx] at hx1
        rw [hy] at hr1
        have HXY := Lib.hid (And.intro hx hy)
        clear h1 h2 h3 h4 hj hjc hx hy
        go_wp2_with fail
        --HELD more
        refine wp_region_noPanic ?_
        refine wp_heldG (fun w' => w'.cell? ⟨g, q + j, none⟩ = some (.int .u8 (x.toNat : Int))) [12] (by kernel_rfl) ?hs0 ?rg0
        case hs0 =>
          exact hx1
        case rg0 =>
        intro hHeld
        refine wpAnyG_pure (i := 0) (oi := { dst := some 19, op := Op.move (Operand.tmp 1), type := 22, pos := _, after := #[], guard := none }) (v := ?_) rfl (by kernel_rfl) (by kernel_rfl) (by kernel_rfl) (by kernel_rfl) (fun _ _ _ h => h) (Or.inl ⟨by rfl, ?_⟩) (fun _ => by assumption) ?_
        rotate_left
        · intro w hSw
          try dsimp only at hSw
          go_simp
          try with_reducible rfl
        try simp only [Act.put, List.setIfInBounds_toArray, List.set_cons_zero, List.set_cons_succ]
        refine wpAnyG_pure (i := 1) (oi := { dst := some 20, op := Op.move (Operand.tmp 8), type := 3, pos := _, after := #[], guard := none }) (v := ?_) rfl (by kernel_rfl) (by kernel_rfl) (by kernel_rfl) (by kernel_rfl) (fun _ _ _ h => h) (Or.inl ⟨by rfl, ?_⟩) (fun _ => by assumption) ?_
        rotate_left
        · intro w hSw
          try dsimp only at hSw
          go_simp
          try with_reducible rfl
        try simp only [Act.put, List.setIfInBounds_toArray, List.set_cons_zero, List.set_cons_succ]
        refine wpAnyG_pure (i := 2) (oi := { dst := some 21, op := Op.move (Operand.tmp 1), type := 22, pos := _, after := #[], guard := none }) (v := ?_) rfl (by kernel_rfl) (by kernel_rfl) (by kernel_rfl) (by kernel_rfl) (fun _ _ _ h => h) (Or.inl ⟨by rfl, ?_⟩) (fun _ => by assumption) ?_
        rotate_left
        · intro w hSw
          try dsimp only at hSw
          go_simp
          try with_reducible rfl
        try simp only [Act.put, List.setIfInBounds_toArray, List.set_cons_zero, List.set_cons_succ]
        refine wpAnyG_pure (i := 3) (oi := { dst := some 22, op := Op.move (Operand.tmp 8), type := 3, pos := _, after := #[], guard := none }) (v := ?_) rfl (by kernel_rfl) (by kernel_rfl) (by kernel_rfl) (by kernel_rfl) (fun _ _ _ h => h) (Or.inl ⟨by rfl, ?_⟩) (fun _ => by assumption) ?_
        rotate_left
        · intro w hSw
          try dsimp only at hSw
          go_simp
          try with_reducible rfl
        try simp only [Act.put, List.setIfInBounds_toArray, List.set_cons_zero, List.set_cons_succ]
        refine wpAnyG_pure (i := 4) (oi := { dst := some 23, op := Op.indexAddr 22 (Operand.tmp 21) (Operand.tmp 22), type := 0, pos := _, after := #[{ on := 2, ground := Ground.data }, { on := 3, ground := Ground.data }], guard := none }) (v := ?_) rfl (by kernel_rfl) (by kernel_rfl) (by kernel_rfl) (by kernel_rfl) (fun _ _ _ h => h) (Or.inl ⟨by rfl, ?_⟩) (fun _ => by assumption) ?_
        rotate_left
        · intro w hSw
          try dsimp only at hSw
          go_simp
          try with_reducible rfl
        try simp only [Act.put, List.setIfInBounds_toArray, List.set_cons_zero, List.set_cons_succ]
        refine wpAnyG_take (i := 5) (oi := { dst := some 24, op := Op.load 5 (Operand.tmp 23), type := 5, pos := _, after := #[{ on := 4, ground := Ground.data }], guard := none }) (v := ?_) rfl (by kernel_rfl) (by kernel_rfl) (by kernel_rfl) (by kernel_rfl) (fun _ _ _ h => h) (Or.inl ⟨by rfl, ?_⟩) (by assumption) ?_
        rotate_left
        · intro w hSw
          try dsimp only at hSw
          go_simp
          try with_reducible rfl
        try simp only [Act.put, List.setIfInBounds_toArray, List.set_cons_zero, List.set_cons_succ]
        refine wpAnyG_pure (i := 6) (oi := { dst := some 25, op := Op.move (Operand.tmp 0), type := 24, pos := _, after := #[], guard := none }) (v := ?_) rfl (by kernel_rfl) (by kernel_rfl) (by kernel_rfl) (by kernel_rfl) (fun _ _ _ h => h) (Or.inl ⟨by rfl, ?_⟩) (fun _ => by assumption) ?_
        rotate_left
        · intro w hSw
          try dsimp only at hSw
          go_simp
          try with_reducible rfl
        try simp only [Act.put, List.setIfInBounds_toArray, List.set_cons_zero, List.set_cons_succ]
        refine wpAnyG_pure (i := 7) (oi := { dst := some 26, op := Op.move (Operand.tmp 9), type := 5, pos := _, after := #[], guard := none }) (v := ?_) rfl (by kernel_rfl) (by kernel_rfl) (by kernel_rfl) (by kernel_rfl) (fun _ _ _ h => h) (Or.inl ⟨by rfl, ?_⟩) (fun _ => by assumption) ?_
        rotate_left
        · intro w hSw
          try dsimp only at hSw
          go_simp
          try with_reducible rfl
        try simp only [Act.put, List.setIfInBounds_toArray, List.set_cons_zero, List.set_cons_succ]
        refine wpAnyG_pure (i := 8) (oi := { dst := some 27, op := Op.move (Operand.tmp 3), type := 5, pos := _, after := #[], guard := none }) (v := ?_) rfl (by kernel_rfl) (by kernel_rfl) (by kernel_rfl) (by kernel_rfl) (fun _ _ _ h => h) (Or.inl ⟨by rfl, ?_⟩) (fun _ => by assumption) ?_
        rotate_left
        · intro w hSw
          try dsimp only at hSw
          go_simp
          try with_reducible rfl
        try simp only [Act.put, List.setIfInBounds_toArray, List.set_cons_zero, List.set_cons_succ]
        refine wpAnyG_one (i := 9) (o := { dst := some 28, op := Op.call { callee := Callee.value (Operand.func 61), args := #[Operand.tmp 25, Operand.tmp 26, Operand.tmp 27], argTypes := #[24, 5, 5] }, type := 5, pos := _, after := #[{ on := 6, ground := Ground.data }, { on := 7, ground := Ground.data }, { on := 8, ground := Ground.data }], guard := none }) (by kernel_rfl) rfl (fun K hK => ?_)
        go_simp
        refine (mul_any _ (some p) (FldR.some (H.out.2.1.keep (nextN (Mem.start wr) 1))) _ _ y t rfl rfl).mono ?_
        rintro e w1 ⟨rfl, hF1, hf1⟩
        have hf2 : Fr (fun k => k = p) wr w1 := (Fr.quiet (nextN (Mem.start wr) 1)).trans hf1 (fun _ _ h => by injection h with h; exact h.symm)
        have H1 := Lib.hid (And.intro (hF1 p rfl) (And.intro hf2 (H.out.1.fr hf2 (fun e => HI.out.2.2 e.symm))))
        clear hF1 hf1 hf2
        try dsimp only
        refine hK.out _ _ ?_ (fun hHeld => ?_)
        · intro _
          try dsimp only
          exact cellFr H1.out.2.1 hx1 (fun e => HI.out.2.2 e.symm)
        clear hK K
        try simp only [Act.put, List.setIfInBounds_toArray, List.set_cons_zero, List.set_cons_succ]
        have hHeld := hHeld (by kernel_rfl)
        refine wpAnyG_one (i := 10) (o := { dst := some 29, op := Op.call { callee := Callee.value (Operand.func 63), args := #[Operand.tmp 24, Operand.tmp 28], argTypes := #[5, 5] }, type := 5, pos := _, after := #[{ on := 5, ground := Ground.data }, { on := 9, ground := Ground.data }, { on := 9, ground := Ground.chain }], guard := none }) (by kernel_rfl) rfl (fun K hK => ?_)
        go_simp
        refine (add_any _ _ x (mul y t) rfl rfl _).mono ?_
        rintro e w' ⟨rfl, rfl⟩
        try dsimp only
        refine hK.out _ _ ?_ (fun hHeld => ?_)
        · intro _
          try dsimp only
          exact hHeld
        clear hK K
        try simp only [Act.put, List.setIfInBounds_toArray, List.set_cons_zero, List.set_cons_succ]
        have hHeld := hHeld (by kernel_rfl)
        refine wpAnyG_pure (i := 11) (oi := { dst := some 30, op := Op.indexAddr 22 (Operand.tmp 19) (Operand.tmp 20), type := 0, pos := _, after := #[{ on := 0, ground := Ground.data }, { on := 1, ground := Ground.data }, { on := 0, ground := Ground.phase }, { on := 1, ground := Ground.phase }, { on := 2, ground := Ground.phase }, { on := 3, ground := Ground.phase }, { on := 4, ground := Ground.phase }, { on := 5, ground := Ground.phase }, { on := 6, ground := Ground.phase }, { on := 7, ground := Ground.phase }, { on := 8, ground := Ground.phase }, { on := 9, ground := Ground.phase }, { on := 10, ground := Ground.phase }], guard := none }) (v := ?_) rfl (by kernel_rfl) (by kernel_rfl) (by kernel_rfl) (by kernel_rfl) (fun _ _ _ h => h) (Or.inl ⟨by rfl, ?_⟩) (fun _ => by assumption) ?_
        rotate_left
        · intro w hSw
          try dsimp only at hSw
          go_simp
          try with_reducible rfl
        try simp only [Act.put, List.setIfInBounds_toArray, List.set_cons_zero, List.set_cons_succ]
        refine wpAnyG_one (i := 12) (o := { dst := none, op := Op.store 5 (Operand.tmp 30) (Operand.tmp 29), type := 0, pos := _, after := #[{ on := 11, ground := Ground.data }, { on := 10, ground := Ground.data }, { on := 10, ground := Ground.chain }, { on := 0, ground := Ground.phase }, { on := 1, ground := Ground.phase }, { on := 2, ground := Ground.phase }, { on := 3, ground := Ground.phase }, { on := 4, ground := Ground.phase }, { on := 5, ground := Ground.phase }, { on := 6, ground := Ground.phase }, { on := 7, ground := Ground.phase }, { on := 8, ground := Ground.phase }, { on := 9, ground := Ground.phase }, { on := 10, ground := Ground.phase }], guard := none }) (by kernel_rfl) rfl (fun K hK => ?_)
        obtain ⟨k1, k2⟩ := H1.out.2.2.at_ HI.out.1 H.out.2.2.2.2
        rw [HI.out.2.1] at k1 k2
        go_simp
        try dsimp only
        refine hK.out _ _ ?_ (fun hHeld => ?_)
        · exact fun h => (st_no (by kernel_rfl) h).elim
        clear hK K
        try simp only [Act.put, List.setIfInBounds_toArray, List.set_cons_zero, List.set_cons_succ]
        clear hHeld
        refine wpAnyG_done (by kernel_rfl) ?_ _
        refine NoPanic.normal ?_
        --END more
        go_wp2_with fail
        go_roundw
        case rel =>
          have hs := H1.out.2.2.set HI.out.1 H.out.2.2.2.2 (x ^^^ mul y t)
          rw [HI.out.2.1, UInt8.toNat_xor] at hs
          have hf := setF (p := g) w1 ⟨g, q + j, none⟩ rfl (.int .u8 ((x.toNat ^^^ (mul y t).toNat : Nat) : Int))
          refine ⟨j + 1, by simp, H.out.2.2.2.2, hs.congr fun i' hi' k hk => ?_, H1.out.1.fr hf HI.out.2.2, ?_, ?_⟩
          · unfold upd addUpto
            by_cases e : i' = i
            · subst e
              by_cases e2 : k = j
              · subst e2
                rw [if_pos ⟨rfl, rfl⟩, if_pos ⟨rfl, by omega⟩, HXY.out.1, HXY.out.2]
              · rw [if_neg (fun h => e2 h.2)]
                by_cases e3 : k < j
                · rw [if_pos ⟨rfl, e3⟩, if_pos ⟨rfl, by omega⟩]
                · rw [if_neg (by omega), if_neg (by omega)]
            · rw [if_neg (fun h => e h.1), if_neg (fun h => e h.1), if_neg (fun h => e h.1)]
          · have h3 := H.out.2.2.1.fr H1.out.2.1 H.out.2.2.1.ne
            refine ⟨fun k hk => cell_far ?_ _ _ (h3.cell k hk), h3.far, h3.ne, Nat.lt_of_lt_of_le h3.lt hf.size⟩
            intro e
            injection e with e1 e2
            rcases h3.far with h | h
            · exact h e1
            · exact h k j hk H.out.2.2.2.2 (by rw [HI.out.2.1]; exact e2)
          · exact (H.out.2.2.2.1.trans (H1.out.2.1.mono (S' := fun k => k = g ∨ k = p) fun k _ e => .inr e) fun _ _ h => h).trans (hf.mono (S' := fun k => k = g ∨ k = p) fun k _ e => .inl e) fun _ _ h => h
        case measure => simp [intOf]; omega
      · obtain rfl : j = c := by omega
        have H := Lib.hid (And.intro h1 (And.intro h2 h4))
        clear h1 h2 h3 h4 hj
        go_wp2_with fail
        go_end0
        refine ⟨rfl, H.out.1.congr fun i' hi' k hk => ?_, H.out.2.1, H.out.2.2⟩
        unfold addUpto addRow
        by_cases e : i' = i
        · subst e; rw [if_pos ⟨rfl, hk⟩, if_pos rfl]
        · rw [if_neg (fun h => e h.1), if_neg e]
theorem more_nil (w : World) (F : Value) (X Y : Option Addr) (cx cy : Nat) (t : UInt8) : Calls Try.prog 48 #[F, .slice X 0 cx, .slice Y 0 cy, .int .u8 (t.toNat : Int)] w fun e w' => e = .returned (.tuple #[]) ∧ w = w' := by
  by_cases ht : t = 0
  · have hz : ((t.toNat : Int) == 0) = true := by rw [ht]; rfl
    clear ht
    go_enter Try.func48, Try.ntmps48
    go_wp2_with fail
    refine bodyPost_ret (results_none rfl _ _ _) rfl ?_
    exact ⟨rfl, rfl⟩
  · have hz : ((t.toNat : Int) == 0) = false := u8_zero_no ht
    clear ht
    go_enter Try.func48, Try.ntmps48
    go_wp2_with fail
    go_loopw [14] (fun x wr => x = .int .i64 0 ∧ wr = w) (fun x _ => 0)
    case atStart => exact ⟨rfl, rfl⟩
    case round =>
      obtain ⟨rfl, rfl⟩ := hrel
      go_wp2_with fail
      go_end0
      exact ⟨rfl, rfl⟩
/-- .. onto row i of a matrix, whatever its width. -/
theorem more_row (w : World) (p : Nat) (hp : Fld w p) (B g cap r c : Nat) (m : M) (hw : Wm w B g cap r c m) (i : Nat) (hi : i < r) (hc9 : ((r * c : Nat) : Int) ≤ 1000000000) (hpg : p ≠ g) (Y : Option Addr) (cy : Nat) (f : Nat → UInt8) (hr : 0 < c → ∃ gr o, Y = some ⟨gr, o, none⟩ ∧ Rd w p g i c gr o f) (t : UInt8) (ct : Nat) :
    Calls Try.prog 48 #[fptr (some p), .slice (rowA (some ⟨g, 0, none⟩) c i) c ct, .slice Y c cy, .int .u8 (t.toNat : Int)] w (MoreOk w p B g cap r c (addRow m i f t)) := by
  by_cases hc : c = 0
  · subst hc
    refine (more_nil w _ _ _ _ _ t).mono ?_
    rintro e w' ⟨rfl, rfl⟩
    exact ⟨rfl, hw.congr fun _ _ k hk => absurd hk (by omega), hp, Fr.refl _ _⟩
  · obtain ⟨gr, o, rfl, hR⟩ := hr (by omega)
    rw [rowA_some (by omega), Nat.zero_add]
    have := idx_le (c := c) hi
    exact more_any w p hp B g cap r c m hw i hi (by omega) (by omega) hpg gr o cy f hR t ct
end Go.Proofs.Ythdapoipfnnaeaa.MxW
