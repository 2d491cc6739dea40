/- Write of a disk. -/
import Derived.Test.YtjpelifafmkdpaaDkBox
namespace Go.Proofs.Ytjpelifafmkdpaa.DkW
open Go.RowKit Go.Shelf Mem Rng
set_option linter.unusedVariables false

theorem lc_copied {i : Int} {l : List UInt8} (h : l.length ≤ 256) : ((lc (i, z256)).toList.take 1 ++ l.map u8v ++ (lc (i, z256)).toList.drop (1 + l.length)).toArray = lc (i, pad l) := by
  apply Array.ext'
  show (lcells (i, z256)).take 1 ++ l.map u8v ++ (lcells (i, z256)).drop (1 + l.length) = lcells (i, pad l)
  unfold lcells pad z256
  dsimp only
  rw [Nat.add_comm 1, List.drop_succ_cons, List.take_succ_cons, List.take_zero, List.map_append, List.map_replicate, List.map_replicate, List.drop_replicate]
  rfl
theorem minE {l : List UInt8} {m : Nat} (hm : l.length = m) (h : l.length ≤ 256) : l.length = Nat.min m 256 := by rw [← hm]; exact (Nat.min_eq_left h).symm
theorem keepB {w w' : World} {A : Option Addr} {l : List UInt8} (h : Bytes w w.heap.size A l) (hb : Below w.heap.size w w') : Bytes w' w'.heap.size A l := (h.below hb).up hb.size
theorem exec_load {P : Program} {o : Oper} {a : Act} {w : World} (ty : TypeId) (x : Operand) (ho : o.op = .load ty x) (q : Value) (hx : a.eval x = q) (v : Value) (h : (Instr.loadAt ty q).run P w = .ok v w) : (execOp a.eval o).run P w = .ok (.value v) w := by
  unfold execOp
  simp only [ho, hx, Sem.run_bind, h, Result.andThen_ok, Sem.run_pure]
theorem step_slice_late {ops : Array Oper} {o : Oper} {a : Act} {R : Act → World → Prop} {Q : Exit → Act → World → Prop} {E : Prop} (w : World) (hgd : o.guard = none) (x : Operand) (ho : o.op = .buildSlice 61 1 #[(0, x)]) (y : Int × List UInt8) (hx : a.eval x = .agg (lc y)) (hy : y.2.length = 256)
    (h : R (a.put o.dst (.slice (some ⟨w.heap.size, 0, none⟩) 1 1)) (w.alloc (.cells (lc y) 65))) : if Region.wanted o (yielded ops a.tmps) = true then Oper.wp Try.prog o a w R Q else E := by
  rw [if_pos (by simp [Region.wanted, hgd])]
  unfold Oper.wp execOp
  simp only [ho, Sem.run_bind, List.map_toArray, List.map_cons, List.map_nil, hx, slice_late w hy, Result.andThen_ok]
  exact h
theorem size_set (w : World) (p : Addr) (v : Value) : (w.setCell p v).heap.size = w.heap.size := by simp [World.setCell]
theorem cellA {w : World} {a : Addr} {v : Value} (h : w.cell? a = some v) (o : Obj) : (w.alloc o).cell? a = some v := cellB (nextA (Mem.start w) o) h
theorem rowK {w : World} {base K n c k : Nat} {T : TypeId} {A : Option Addr} {xs : List Value} (h : OwnK w base T K A n c xs) (hk : A.map (·.block) = some k) : A = some ⟨k, 0, none⟩ := by
  rcases h.form with ⟨e, _⟩ | ⟨g, e, _⟩
  · rw [e] at hk; cases hk
  · rw [e] at hk; injection hk with hk; dsimp only at hk; rw [e, hk]
theorem lc_cells (w : World) (x : Int × List UInt8) : Cells (w.alloc (.cells (lc x) 65)) (w.heap.size + 1) (some ⟨w.heap.size, 0, none⟩) (lcells x) := fun _ =>
  ⟨w.heap.size, 0, rfl, Nat.lt_succ_self _, fun j v hv => by rw [Nat.zero_add, new_cell, ← hv]; simp [lc]⟩
section
variable {F : Nat → Prop} {p : Nat} {s : DS} {w : World}
set_option maxRecDepth 100000 in
set_option maxHeartbeats 4000000 in
theorem write_any (h : DkA F p s w) (i : Int) (hi : I64 i) (A : Option Addr) (l : List UInt8) (c : Nat) (hA : Bytes w w.heap.size A l) (hs : s.steps + 1 ≤ 256 ^ 3) :
    Calls Try.prog 23 #[.pointer (some ⟨p, 0, none⟩), .int .i64 i, .slice A l.length c] w (DkOk w F p (s.write i l).1 (.int .i64 (s.write i l).2)) := by
  have HM := Lib.hid (may_any h i A l.length c)
  have H0 := Lib.hid (And.intro h (And.intro hA (And.intro hi hs)))
  unfold DS.write
  obtain ⟨x, hx⟩ : ∃ x, s.may i l.length = x := ⟨_, rfl⟩
  have HX := Lib.hid hx
  rw [hx] at HM ⊢
  obtain ⟨m, hm⟩ : ∃ m, l.length = m := ⟨_, rfl⟩
  have HL := Lib.hid hm
  rw [hm] at HM ⊢
  clear h hA hx hm hs
  by_cases h0 : x = 0
  · subst h0
    rw [if_neg (by decide)]
    have hm256 : m ≤ 256 := by
      have h1 := HX.out
      rw [HL.out] at h1
      unfold DS.may at h1
      split at h1
      · cases h1
      · split at h1
        · cases h1
        · split at h1
          · cases h1
          · omega
    have hz := zeroL
    have hbd := build_lc
    have HP := Lib.hid (show l.length ≤ 256 from by rw [HL.out]; exact hm256)
    go_enter Try.func23, Try.ntmps23
    go_wp2_with fail
    refine HM.out.mono ?_
    rintro e w' ⟨rfl, rfl⟩
    go_wp2_with (first
      | ((with_reducible show wpList _ _ _ ((⟨none, .store 65 (.tmp 8) (.tmp 17), _, _, _, _⟩ : Oper) :: _) _ _); refine wpList_store_new w rfl 65 (.tmp 8) (.tmp 17) rfl 65 (lc (0, z256)) (lc (i, z256)) rfl rfl (lsame (x := (i, z256)) (y := (0, z256)) z256_len z256_len).1 (lsame (x := (i, z256)) (y := (0, z256)) z256_len z256_len).2 (lc_one _) ?_; intro w1 hb1 hw1 hs1; have HW := Lib.hid (And.intro hb1 (And.intro hw1 hs1)); clear hb1 hw1 hs1)
      | ((with_reducible show wpList _ _ _ ((⟨some 21, _, _, _, _, _⟩ : Oper) :: _) _ _); refine wpList_copyin w1 rfl (.tmp 19) (.tmp 20) rfl w.heap.size 1 256 256 A m c l 65 (lc (i, z256)) rfl rfl (minE HL.out HP.out) HW.out.1 (by rw [lc_size (x := (i, z256)) z256_len]; have := HP.out; omega) (keepB H0.out.2.1 HW.out.2.1) ?_; intro w2 k2 hb2 hf2 hs2; rw [lc_copied HP.out] at hb2; have HV := Lib.hid (And.intro hb2 (And.intro hf2 hs2)); clear hb2 hf2 hs2))
    obtain ⟨i0, hi0, hz0, hz1, hz2⟩ := info_parts lateinfo
    have HBW := Lib.hid ((next HW.out.2.1 (Mem.start w1)))
    have hbx : ∀ k, F k → ¬ (k = w.heap.size) := fun k hk e => by have := H0.out.1.lt k hk; omega
    obtain ⟨ms, mn, A0, c0, hd0⟩ := H0.out.1
    have hd := ((hd0.keep HW.out.2.1).fr HV.out.2.1 hbx).keep (nextN (Mem.start w2) 1)
    obtain ⟨k, hk⟩ : ∃ k, s.L.length = k := ⟨_, rfl⟩
    have hcs := hd.cells
    have hblk := hd.blk
    have hown := hd.row
    rw [hk] at hcs hblk hown
    have HT := Lib.hid (show w2.drew.cell? ⟨p, 2, none⟩ = some (.map (some mn)) ∧ w2.drew.cell? ⟨p, 3, none⟩ = some (.slice A0 k c0) ∧ Blk w2.drew w.heap.size 65 (lc (i, pad l)) ∧ Blk w2.drew p 63 #[.int .i64 (s.n : Int), .map (some ms), .map (some mn), .slice A0 k c0, .int .i64 (s.steps : Int), .int .i64 s.well, .bool s.off] from ⟨hcs.2.2.1, hcs.2.2.2.1, HV.out.1.keep (nextN (Mem.start w2) 1), hblk⟩)
    have HD := Lib.hid (And.intro hd (And.intro hown hk))
    have HPL := Lib.hid (pad_len HP.out)
    have HA0 := Lib.hid (show ∀ q, (q = p ∨ q = mn ∨ q = ms ∨ q = w.heap.size) → ¬ (A0 = some ⟨q, 0, none⟩) from fun q hq e => by
      have h7 := hd0.foot.2.2.2.2.2.2 q e
      rcases hq with rfl | rfl | rfl | rfl
      · exact h7.2.1 rfl
      · exact h7.2.2.2 rfl
      · exact h7.2.2.1 rfl
      · exact hbx _ h7.1 rfl)
    have hkm : k ≤ 256 ^ 3 + 1 := by obtain ⟨q, _, hq⟩ := hd0.mS; have := hd0.bound.2.1; omega
    have hsm : s.steps < maxLen := by have := hd0.bound.2.1; unfold maxLen; omega
    have HSM := Lib.hid hsm
    clear hd0 hd hk hcs hblk hown hbd hz h hbx hsm
    --HELD wr6
    refine wp_region_noPanic ?_
    refine wp_heldG (fun w' => w'.cell? ⟨p, 2, none⟩ = some (.map (some mn)) ∧ w'.cell? ⟨p, 3, none⟩ = some (.slice A0 k c0) ∧ Blk w' w.heap.size 65 (lc (i, pad l)) ∧ Blk w' p 63 #[.int .i64 (s.n : Int), .map (some ms), .map (some mn), .slice A0 k c0, .int .i64 (s.steps : Int), .int .i64 s.well, .bool s.off]) [17] (by kernel_rfl) ?hs0 ?rg0
    case hs0 =>
      exact HT.out
    case rg0 =>
    intro hHeld
    refine wpAnyG_pure (i := 0) (oi := { dst := some 22, op := Op.move (Operand.tmp 0), type := 28, pos := _, after := #[], guard := none }) (v := ?_) rfl (by kernel_rfl) (by kernel_rfl) (by kernel_rfl) (by kernel_rfl) (fun _ _ _ h => h) (Or.inl ⟨by rfl, ?_⟩) (fun _ => by assumption) ?_
    rotate_left
    · intro w hSw
      try dsimp only at hSw
      go_simp
      try with_reducible rfl
    try simp only [Act.put, List.setIfInBounds_toArray, List.set_cons_zero, List.set_cons_succ]
    refine wpAnyG_pure (i := 1) (oi := { dst := some 23, op := Op.move (Operand.tmp 0), type := 28, pos := _, after := #[], guard := none }) (v := ?_) rfl (by kernel_rfl) (by kernel_rfl) (by kernel_rfl) (by kernel_rfl) (fun _ _ _ h => h) (Or.inl ⟨by rfl, ?_⟩) (fun _ => by assumption) ?_
    rotate_left
    · intro w hSw
      try dsimp only at hSw
      go_simp
      try with_reducible rfl
    try simp only [Act.put, List.setIfInBounds_toArray, List.set_cons_zero, List.set_cons_succ]
    refine wpAnyG_pure (i := 2) (oi := { dst := some 24, op := Op.nilCheck (Operand.tmp 23), type := 0, pos := _, after := #[{ on := 1, ground := Ground.data }], guard := none }) (v := ?_) rfl (by kernel_rfl) (by kernel_rfl) (by kernel_rfl) (by kernel_rfl) (fun _ _ _ h => h) (Or.inl ⟨by rfl, ?_⟩) (fun _ => by assumption) ?_
    rotate_left
    · intro w hSw
      try dsimp only at hSw
      go_simp
      try with_reducible rfl
    try simp only [Act.put, List.setIfInBounds_toArray, List.set_cons_zero, List.set_cons_succ]
    refine wpAnyG_pure (i := 3) (oi := { dst := some 25, op := Op.fieldAddr 63 (Operand.tmp 24) 2, type := 0, pos := _, after := #[{ on := 2, ground := Ground.data }], guard := none }) (v := ?_) rfl (by kernel_rfl) (by kernel_rfl) (by kernel_rfl) (by kernel_rfl) (fun _ _ _ h => h) (Or.inl ⟨by rfl, ?_⟩) (fun _ => by assumption) ?_
    rotate_left
    · intro w hSw
      try dsimp only at hSw
      go_simp
      try with_reducible rfl
    try simp only [Act.put, List.setIfInBounds_toArray, List.set_cons_zero, List.set_cons_succ]
    refine wpAnyG_take (i := 4) (oi := { dst := some 26, op := Op.load 60 (Operand.tmp 25), type := 60, pos := _, after := #[{ on := 3, ground := Ground.data }], guard := none }) (v := ?_) rfl (by kernel_rfl) (by kernel_rfl) (by kernel_rfl) (by kernel_rfl) (fun _ _ _ h => h) (Or.inl ⟨by rfl, ?_⟩) (by assumption) ?_
    rotate_left
    · intro w hSw
      try dsimp only at hSw
      go_simp
      try with_reducible rfl
    try simp only [Act.put, List.setIfInBounds_toArray, List.set_cons_zero, List.set_cons_succ]
    refine wpAnyG_pure (i := 5) (oi := { dst := some 27, op := Op.move (Operand.tmp 1), type := 3, pos := _, after := #[], guard := none }) (v := ?_) rfl (by kernel_rfl) (by kernel_rfl) (by kernel_rfl) (by kernel_rfl) (fun _ _ _ h => h) (Or.inl ⟨by rfl, ?_⟩) (fun _ => by assumption) ?_
    rotate_left
    · intro w hSw
      try dsimp only at hSw
      go_simp
      try with_reducible rfl
    try simp only [Act.put, List.setIfInBounds_toArray, List.set_cons_zero, List.set_cons_succ]
    refine wpAnyG_pure (i := 6) (oi := { dst := some 28, op := Op.move (Operand.tmp 0), type := 28, pos := _, after := #[], guard := none }) (v := ?_) rfl (by kernel_rfl) (by kernel_rfl) (by kernel_rfl) (by kernel_rfl) (fun _ _ _ h => h) (Or.inl ⟨by rfl, ?_⟩) (fun _ => by assumption) ?_
    rotate_left
    · intro w hSw
      try dsimp only at hSw
      go_simp
      try with_reducible rfl
    try simp only [Act.put, List.setIfInBounds_toArray, List.set_cons_zero, List.set_cons_succ]
    refine wpAnyG_pure (i := 7) (oi := { dst := some 29, op := Op.nilCheck (Operand.tmp 28), type := 0, pos := _, after := #[{ on := 6, ground := Ground.data }], guard := none }) (v := ?_) rfl (by kernel_rfl) (by kernel_rfl) (by kernel_rfl) (by kernel_rfl) (fun _ _ _ h => h) (Or.inl ⟨by rfl, ?_⟩) (fun _ => by assumption) ?_
    rotate_left
    · intro w hSw
      try dsimp only at hSw
      go_simp
      try with_reducible rfl
    try simp only [Act.put, List.setIfInBounds_toArray, List.set_cons_zero, List.set_cons_succ]
    refine wpAnyG_pure (i := 8) (oi := { dst := some 30, op := Op.fieldAddr 63 (Operand.tmp 29) 3, type := 0, pos := _, after := #[{ on := 7, ground := Ground.data }], guard := none }) (v := ?_) rfl (by kernel_rfl) (by kernel_rfl) (by kernel_rfl) (by kernel_rfl) (fun _ _ _ h => h) (Or.inl ⟨by rfl, ?_⟩) (fun _ => by assumption) ?_
    rotate_left
    · intro w hSw
      try dsimp only at hSw
      go_simp
      try with_reducible rfl
    try simp only [Act.put, List.setIfInBounds_toArray, List.set_cons_zero, List.set_cons_succ]
    refine wpAnyG_take (i := 9) (oi := { dst := some 31, op := Op.load 61 (Operand.tmp 30), type := 61, pos := _, after := #[{ on := 8, ground := Ground.data }], guard := none }) (v := ?_) rfl (by kernel_rfl) (by kernel_rfl) (by kernel_rfl) (by kernel_rfl) (fun _ _ _ h => h) (Or.inl ⟨by rfl, ?_⟩) (by assumption) ?_
    rotate_left
    · intro w hSw
      try dsimp only at hSw
      go_simp
      try with_reducible rfl
    try simp only [Act.put, List.setIfInBounds_toArray, List.set_cons_zero, List.set_cons_succ]
    refine wpAnyG_take (i := 10) (oi := { dst := some 32, op := Op.load 65 (Operand.tmp 8), type := 65, pos := _, after := #[], guard := none }) (v := ?_) rfl (by kernel_rfl) (by kernel_rfl) (by kernel_rfl) (by kernel_rfl) (fun _ _ _ h => h) (Or.inl ⟨by rfl, ?_⟩) (by assumption) ?_
    rotate_left
    · intro w hSw
      try dsimp only at hSw
      refine exec_load 65 (.tmp 8) ?_ _ ?_ (.agg (lc (i, pad l))) (load_lc hSw.2.2.1 HPL.out)
      · rfl
      · rfl
    try simp only [Act.put, List.setIfInBounds_toArray, List.set_cons_zero, List.set_cons_succ]
    refine wpAnyG_pure (i := 13) (oi := { dst := some 35, op := Op.fieldAddr 65 (Operand.tmp 8) 1, type := 0, pos := _, after := #[], guard := none }) (v := ?_) rfl (by kernel_rfl) (by kernel_rfl) (by kernel_rfl) (by kernel_rfl) (fun _ _ _ h => h) (Or.inl ⟨by rfl, ?_⟩) (fun _ => by assumption) ?_
    rotate_left
    · intro w hSw
      try dsimp only at hSw
      go_simp
      try with_reducible rfl
    try simp only [Act.put, List.setIfInBounds_toArray, List.set_cons_zero, List.set_cons_succ]
    refine wpAnyG_take (i := 14) (oi := { dst := some 36, op := Op.load 59 (Operand.tmp 35), type := 59, pos := _, after := #[{ on := 13, ground := Ground.data }], guard := none }) (v := ?_) rfl (by kernel_rfl) (by kernel_rfl) (by kernel_rfl) (by kernel_rfl) (fun _ _ _ h => h) (Or.inl ⟨by rfl, ?_⟩) (by assumption) ?_
    rotate_left
    · intro w hSw
      try dsimp only at hSw
      refine exec_load 59 (.tmp 35) ?_ _ ?_ (.agg (bcells (pad l))) (load_lb hSw.2.2.1 HPL.out)
      · rfl
      · rfl
    try simp only [Act.put, List.setIfInBounds_toArray, List.set_cons_zero, List.set_cons_succ]
    refine wpAnyG_one (i := 11) (o := { dst := some 33, op := Op.buildSlice 61 1 #[(0, Operand.tmp 32)], type := 61, pos := _, after := #[{ on := 10, ground := Ground.data }], guard := none }) (by kernel_rfl) rfl (fun K hK => ?_)
    refine step_slice_late w2.drew rfl (.tmp 32) rfl (i, pad l) rfl HPL.out ?_
    try dsimp only
    refine hK.out _ _ ?_ (fun hHeld => ?_)
    · intro _
      try dsimp only
      exact ⟨cellA hHeld.1 _, cellA hHeld.2.1 _, hHeld.2.2.1.alloc _, hHeld.2.2.2.alloc _⟩
    clear hK K
    try simp only [Act.put, List.setIfInBounds_toArray, List.set_cons_zero, List.set_cons_succ]
    have hHeld := hHeld (by kernel_rfl)
    refine wpAnyG_one (i := 12) (o := { dst := some 34, op := Op.call { callee := Callee.builtin Builtin.append, args := #[Operand.tmp 31, Operand.tmp 33], argTypes := #[61, 61] }, type := 61, pos := _, after := #[{ on := 9, ground := Ground.data }, { on := 11, ground := Ground.data }], guard := none }) (by kernel_rfl) rfl (fun K hK => ?_)
    refine step_appK (w2.drew.alloc (.cells (lc (i, pad l)) 65)) rfl (.tmp 31) (.tmp 33) 61 (by rfl) 0 65 i0 _ 257 264 Try.underlying61 hi0 hz0 hz1 hz2 zlate_size (by decide) A0 c0 k (s.L.flatMap lcells) (by rfl) (HD.out.2.1.keep (nextA (Mem.start w2.drew) _)) (w2.heap.size + 1) (some ⟨w2.heap.size, 0, none⟩) 1 1 (lcells (i, pad l)) (by rfl) (lc_cells w2.drew (i, pad l)) (by rw [lcells_len HPL.out]) (lcells_one _) (by unfold maxLen; omega) (by omega) (Nat.zero_le _) (k + 1) rfl ?_
    intro A2 c2 w3 ho3 hb3 hg3 hA3
    rw [World.size_alloc] at hA3
    have H3 := Lib.hid (And.intro ho3 (And.intro hg3 hA3))
    have hf3 := Fr.grown (S := fun q => A0 = some ⟨q, 0, none⟩) hg3 (fun q hq => rowK HD.out.2.1 hq)
    clear ho3 hb3 hg3 hA3
    try dsimp only
    refine hK.out _ _ ?_ (fun hHeld => ?_)
    · intro _
      try dsimp only
      exact ⟨cellFr hf3 hHeld.1 (HA0.out p (.inl rfl)), cellFr hf3 hHeld.2.1 (HA0.out p (.inl rfl)), hHeld.2.2.1.fr hf3 (HA0.out _ (.inr (.inr (.inr rfl)))), hHeld.2.2.2.fr hf3 (HA0.out p (.inl rfl))⟩
    clear hK K
    try simp only [Act.put, List.setIfInBounds_toArray, List.set_cons_zero, List.set_cons_succ]
    have hHeld := hHeld (by kernel_rfl)
    refine wpAnyG_pure (i := 15) (oi := { dst := some 37, op := Op.nilCheck (Operand.tmp 22), type := 0, pos := _, after := #[{ on := 0, ground := Ground.data }, { on := 0, ground := Ground.phase }, { on := 1, ground := Ground.textOnly Departure.lateStores }, { on := 2, ground := Ground.textOnly Departure.lateStoresUnsure }, { on := 3, ground := Ground.textOnly Departure.lateStoresUnsure }, { on := 4, ground := Ground.phase }, { on := 5, ground := Ground.textOnly Departure.lateStoresUnsure }, { on := 6, ground := Ground.phase }, { on := 7, ground := Ground.phase }, { on := 8, ground := Ground.phase }, { on := 9, ground := Ground.phase }, { on := 10, ground := Ground.phase }, { on := 11, ground := Ground.phase }, { on := 12, ground := Ground.phase }, { on := 13, ground := Ground.textOnly Departure.lateStores }, { on := 14, ground := Ground.phase }], guard := none }) (v := ?_) rfl (by kernel_rfl) (by kernel_rfl) (by kernel_rfl) (by kernel_rfl) (fun _ _ _ h => h) (Or.inl ⟨by rfl, ?_⟩) (fun _ => by assumption) ?_
    rotate_left
    · intro w hSw
      try dsimp only at hSw
      go_simp
      try with_reducible rfl
    try simp only [Act.put, List.setIfInBounds_toArray, List.set_cons_zero, List.set_cons_succ]
    refine wpAnyG_pure (i := 16) (oi := { dst := some 38, op := Op.fieldAddr 63 (Operand.tmp 37) 3, type := 0, pos := _, after := #[{ on := 15, ground := Ground.data }, { on := 0, ground := Ground.phase }, { on := 1, ground := Ground.textOnly Departure.lateStores }, { on := 2, ground := Ground.textOnly Departure.lateStoresUnsure }, { on := 3, ground := Ground.textOnly Departure.lateStoresUnsure }, { on := 4, ground := Ground.phase }, { on := 5, ground := Ground.textOnly Departure.lateStoresUnsure }, { on := 6, ground := Ground.phase }, { on := 7, ground := Ground.phase }, { on := 8, ground := Ground.phase }, { on := 9, ground := Ground.phase }, { on := 10, ground := Ground.phase }, { on := 11, ground := Ground.phase }, { on := 12, ground := Ground.phase }, { on := 13, ground := Ground.textOnly Departure.lateStores }, { on := 14, ground := Ground.phase }], guard := none }) (v := ?_) rfl (by kernel_rfl) (by kernel_rfl) (by kernel_rfl) (by kernel_rfl) (fun _ _ _ h => h) (Or.inl ⟨by rfl, ?_⟩) (fun _ => by assumption) ?_
    rotate_left
    · intro w hSw
      try dsimp only at hSw
      go_simp
      try with_reducible rfl
    try simp only [Act.put, List.setIfInBounds_toArray, List.set_cons_zero, List.set_cons_succ]
    refine wpAnyG_one (i := 17) (o := { dst := none, op := Op.store 61 (Operand.tmp 38) (Operand.tmp 34), type := 0, pos := _, after := #[{ on := 16, ground := Ground.data }, { on := 12, ground := Ground.data }, { on := 12, ground := Ground.chain }, { on := 0, ground := Ground.phase }, { on := 1, ground := Ground.textOnly Departure.lateStores }, { on := 2, ground := Ground.textOnly Departure.lateStoresUnsure }, { on := 3, ground := Ground.textOnly Departure.lateStoresUnsure }, { on := 4, ground := Ground.phase }, { on := 5, ground := Ground.textOnly Departure.lateStoresUnsure }, { on := 6, ground := Ground.phase }, { on := 7, ground := Ground.phase }, { on := 8, ground := Ground.phase }, { on := 9, ground := Ground.phase }, { on := 10, ground := Ground.phase }, { on := 11, ground := Ground.phase }, { on := 12, ground := Ground.phase }, { on := 13, ground := Ground.textOnly Departure.lateStores }, { on := 14, ground := Ground.phase }], guard := none }) (by kernel_rfl) rfl (fun K hK => ?_)
    have HBK := Lib.hid hHeld.2.2.2
    have z0 := HBK.out.frozen 3
    have cc0 := hHeld.2.1
    go_simp
    clear z0 cc0
    try dsimp only
    refine hK.out _ _ ?_ (fun hHeld => ?_)
    · exact fun h => (st_no (by kernel_rfl) h).elim
    clear hK K
    try simp only [Act.put, List.setIfInBounds_toArray, List.set_cons_zero, List.set_cons_succ]
    clear hHeld
    refine wpAnyG_one (i := 18) (o := { dst := some 39, op := Op.mapEntry 60 (Operand.tmp 26) (Operand.tmp 27), type := 0, pos := _, after := #[{ on := 4, ground := Ground.data }, { on := 5, ground := Ground.data }, { on := 17, ground := Ground.chain }, { on := 0, ground := Ground.phase }, { on := 1, ground := Ground.textOnly Departure.tupleMapEntryFirst }, { on := 2, ground := Ground.textOnly Departure.lateStoresUnsure }, { on := 3, ground := Ground.textOnly Departure.lateStoresUnsure }, { on := 4, ground := Ground.phase }, { on := 5, ground := Ground.textOnly Departure.lateStoresUnsure }, { on := 6, ground := Ground.phase }, { on := 7, ground := Ground.phase }, { on := 8, ground := Ground.phase }, { on := 9, ground := Ground.phase }, { on := 10, ground := Ground.phase }, { on := 11, ground := Ground.phase }, { on := 12, ground := Ground.phase }, { on := 13, ground := Ground.textOnly Departure.tupleMapEntryFirst }, { on := 14, ground := Ground.phase }, { on := 15, ground := Ground.phase }, { on := 16, ground := Ground.phase }, { on := 17, ground := Ground.phase }], guard := none }) (by kernel_rfl) rfl (fun K hK => ?_)
    have hfw : Fr (fun q => A0 = some ⟨q, 0, none⟩ ∨ q = p) w2.drew (w3.setCell ⟨p, 3, none⟩ (.slice A2 (k + 1) c2)) := (((Fr.quiet (S := fun q => A0 = some ⟨q, 0, none⟩) (nextA (Mem.start w2.drew) (.cells (lc (i, pad l)) 65))).trans hf3 fun _ _ h => h).mono fun q _ h => .inl h).setCell (p := ⟨p, 3, none⟩) (fun _ => .inr rfl) _
    have hmn4 := HD.out.1.mN.fr hfw (fun h => h.elim (HA0.out mn (.inr (.inl rfl))) HD.out.1.foot.2.2.2.2.2.1)
    obtain ⟨v0, st, w5, hme, hg5, hs5, hes⟩ := MapB.entry (t := 60) (e := 59) hmn4 (Maps.int_keyed Try.underlying3) Try.underlying60 Try.underlying3 (zeroB _) HSM.out i hi (pad l)
    have HE := Lib.hid (And.intro hfw (And.intro hg5 (And.intro hs5 hes)))
    clear hfw hmn4 hg5 hs5 hes
    go_simp
    clear hme
    try dsimp only
    refine hK.out _ _ ?_ (fun hHeld => ?_)
    · exact fun h => (st_no (by kernel_rfl) h).elim
    clear hK K
    try simp only [Act.put, List.setIfInBounds_toArray, List.set_cons_zero, List.set_cons_succ]
    clear hHeld
    refine wpAnyG_pure (i := 19) (oi := { dst := some 40, op := Op.extract (Operand.tmp 39) 1, type := 3, pos := _, after := #[{ on := 18, ground := Ground.data }], guard := none }) (v := ?_) rfl (by kernel_rfl) (by kernel_rfl) (by kernel_rfl) (by kernel_rfl) (fun _ _ _ h => h) (Or.inl ⟨by rfl, ?_⟩) (fun h => (st_no (by kernel_rfl) h).elim) ?_
    rotate_left
    · intro w hSw
      try dsimp only at hSw
      go_simp
      try with_reducible rfl
    try simp only [Act.put, List.setIfInBounds_toArray, List.set_cons_zero, List.set_cons_succ]
    refine wpAnyG_one (i := 20) (o := { dst := none, op := Op.entryStore 60 (Operand.tmp 26) (Operand.tmp 40) (Operand.tmp 36), type := 0, pos := _, after := #[{ on := 4, ground := Ground.data }, { on := 19, ground := Ground.data }, { on := 14, ground := Ground.data }, { on := 18, ground := Ground.chain }, { on := 0, ground := Ground.phase }, { on := 1, ground := Ground.phase }, { on := 2, ground := Ground.phase }, { on := 3, ground := Ground.phase }, { on := 4, ground := Ground.phase }, { on := 5, ground := Ground.phase }, { on := 6, ground := Ground.phase }, { on := 7, ground := Ground.phase }, { on := 8, ground := Ground.phase }, { on := 9, ground := Ground.phase }, { on := 10, ground := Ground.phase }, { on := 11, ground := Ground.phase }, { on := 12, ground := Ground.phase }, { on := 13, ground := Ground.phase }, { on := 14, ground := Ground.phase }, { on := 15, ground := Ground.phase }, { on := 16, ground := Ground.phase }, { on := 17, ground := Ground.phase }, { on := 18, ground := Ground.phase }], guard := none }) (by kernel_rfl) rfl (fun K hK => ?_)
    obtain ⟨w6, hes1, hm6, hg6, hs6⟩ := HE.out.2.2.2 w5 rfl
    have hes2 : (Instr.entryStore 60 (.map (some mn)) (.int .i64 (st : Int)) (.agg (bcells (pad l)))).run Try.prog w5 = .ok () w6 := hes1
    have H6 := Lib.hid (And.intro hm6 (And.intro hg6 hs6))
    clear hes1 hm6 hg6 hs6
    go_simp
    clear hes2
    try dsimp only
    refine hK.out _ _ ?_ (fun hHeld => ?_)
    · exact fun h => (st_no (by kernel_rfl) h).elim
    clear hK K
    try simp only [Act.put, List.setIfInBounds_toArray, List.set_cons_zero, List.set_cons_succ]
    clear hHeld
    refine wpAnyG_done (by kernel_rfl) ?_ _
    refine NoPanic.normal ?_
    --END wr6
    have hsz1 : w2.heap.size = w.heap.size + 1 := by rw [HV.out.2.2, HW.out.2.2]
    have hpF := HD.out.1.foot
    have f46 : Fr (fun q => q = mn) (w3.setCell ⟨p, 3, none⟩ (.slice A2 (k + 1) c2)) w6 := (Fr.grown (S := fun q => q = mn) HE.out.2.1 (fun q hq => by injection hq with hq; exact hq.symm)).trans (Fr.grown (S := fun q => q = mn) H6.out.2.1 (fun q hq => by injection hq with hq; exact hq.symm)) fun _ _ h => h
    have f06 : Fr (fun q => A0 = some ⟨q, 0, none⟩ ∨ q = p ∨ q = mn) w2.drew w6 := (HE.out.1.mono fun q _ h => h.elim .inl (fun h => .inr (.inl h))).trans f46 fun q _ h => .inr (.inr h)
    have hFlt : ∀ q, F q → q < w.heap.size := H0.out.1.lt
    have f0 : Fr F w w6 := by
      have f02 : Fr F w w2.drew := ((Fr.quiet (S := F) HW.out.2.1).trans HV.out.2.1 fun q hq e => absurd e (by omega)).drew
      exact f02.trans f06 fun q hq h => by
        rcases h with h | rfl | rfl
        · exact (hpF.2.2.2.2.2.2 q h).1
        · exact hpF.1
        · exact hpF.2.2.1
    have hA2 : ∀ q, A2 = some ⟨q, 0, none⟩ → q ≠ p ∧ q ≠ ms ∧ q ≠ mn ∧ (F q ∨ w.heap.size ≤ q) := fun q hq => by
      rcases H3.out.2.2 with e | e
      · rw [e] at hq
        have h7 := hpF.2.2.2.2.2.2 q hq
        exact ⟨h7.2.1, h7.2.2.1, h7.2.2.2, .inl h7.1⟩
      · rw [e] at hq
        injection hq with hq; injection hq with hq
        have e2 : w2.drew.heap.size = w2.heap.size := rfl
        have h1 := hFlt p hpF.1
        have h2 := hFlt ms hpF.2.1
        have h3 := hFlt mn hpF.2.2.1
        exact ⟨by omega, by omega, by omega, .inr (by omega)⟩
    have HF := Lib.hid (show DkM (fun q => F q ∨ A2 = some ⟨q, 0, none⟩) p (s.steps + 1) { s with L := s.L ++ [(i, pad l)], N := upd s.N i (pad l) } w6 from by
      obtain ⟨hd, hown, hk⟩ := HD.out
      obtain ⟨k1, hms, hk1⟩ := hd.mS
      have hlen : (s.L ++ [(i, pad l)]).length = k + 1 := by rw [List.length_append, List.length_singleton, hk]
      have hp1 : ¬ (p = mn) := fun e => hd.foot.2.2.2.2.2.1 e.symm
      refine ⟨ms, mn, A2, c2, ?_, ⟨k1, hms.fr f06 (fun h => h.elim (HA0.out ms (.inr (.inr (.inl rfl)))) (fun h => h.elim hd.foot.2.2.2.2.1 hd.foot.2.2.2.1)), by show k1 + (s.L ++ [(i, pad l)]).length ≤ _; rw [hlen]; omega⟩, H6.out.1, ?_, ⟨?_, hd.lens.2.1, ?_⟩, ⟨.inl hd.foot.1, .inl hd.foot.2.1, .inl hd.foot.2.2.1, hd.foot.2.2.2.1, hd.foot.2.2.2.2.1, hd.foot.2.2.2.2.2.1, fun g hg => ⟨.inr hg, (hA2 g hg).1, (hA2 g hg).2.1, (hA2 g hg).2.2.1⟩⟩, ?_, hd.bound.1, hd.bound.2.1, Nat.le_refl _, hd.bound.2.2.2⟩
      · show Blk w6 p _ #[_, _, _, .slice A2 (s.L ++ [(i, pad l)]).length c2, _, _, _]
        rw [hlen]
        exact (HBK.out.set_ 3 (.slice A2 (k + 1) c2)).fr f46 hp1
      · show OwnK w6 0 _ 257 A2 (s.L ++ [(i, pad l)]).length c2 ((s.L ++ [(i, pad l)]).flatMap lcells)
        rw [hlen, List.flatMap_append]
        have h1 := (H3.out.1.fr ((Fr.refl (fun q => q = p) w3).setCell (p := ⟨p, 3, none⟩) (fun _ => rfl) (.slice A2 (k + 1) c2)) (fun g hg e => (hA2 g hg).1 e)).fr f46 (fun g hg e => (hA2 g hg).2.2.1 e)
        simpa using h1
      · intro x hx
        rcases List.mem_append.1 hx with hx | hx
        · exact hd.lens.1 x hx
        · rw [List.mem_singleton.1 hx]; exact ⟨HPL.out, hi⟩
      · intro j
        show (upd s.N i (pad l) j).length = 256
        unfold upd
        split
        · exact HPL.out
        · exact hd.lens.2.2 j
      · intro q hq
        rcases hq with hq | hq
        · exact Nat.lt_of_lt_of_le (hd.lt q hq) f06.size
        · rcases H3.out.1.form with ⟨e, _⟩ | ⟨g, e, _, hlt, _⟩
          · rw [e] at hq; cases hq
          · rw [e] at hq; injection hq with hq; injection hq with hq
            have := f46.size
            rw [size_set] at this
            omega)
    go_wp2_with fail
    refine (step_write HF.out H0.out.2.2.2).mono ?_
    rintro e w7 ⟨rfl, F7, h7, g7, f7⟩
    have H7 := Lib.hid (And.intro h7 (And.intro g7 f7))
    clear h7 g7 f7
    go_wp2_with fail
    go_ret
    have hst := step_steps { s with L := s.L ++ [(i, pad l)], N := upd s.N i (pad l) } id (fun _ => rfl)
    refine ⟨rfl, F7, H7.out.1.mono (by rw [hst]; exact Nat.le_refl _) (Nat.le_succ _), fun q hq => ?_, f0.trans H7.out.2.2 fun q hq h => h.elim id (fun h => (hA2 q h).2.2.2.elim id (fun h => by omega))⟩
    rcases H7.out.2.1 q hq with h | h
    · exact h.elim .inl (fun h => (hA2 q h).2.2.2)
    · exact .inr (Nat.le_trans f0.size h)
  · rw [if_pos h0]
    have h1 : (x == 0) = false := by simp [h0]
    go_enter Try.func23, Try.ntmps23
    go_wp2_with fail
    refine HM.out.mono ?_
    rintro e w' ⟨rfl, rfl⟩
    go_wp2_with fail
    go_ret
    exact DkOk.same H0.out.1 (Mem.start w)
end
end Go.Proofs.Ytjpelifafmkdpaa.DkW
