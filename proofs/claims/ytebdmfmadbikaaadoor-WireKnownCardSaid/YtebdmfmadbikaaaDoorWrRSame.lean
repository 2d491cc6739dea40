/- The document's Same. Printed by genwrsame.py. -/
import Derived.Test.YtebdmfmadbikaaaDoorWrPlain
import Derived.Test.YtebdmfmadbikaaaDoorChain2
namespace Go.Proofs.YtebdmfmadbikaaaDoor.WiW
open Go.RowKit Go.Shelf Mem Fds FdW Wi Rng
set_option linter.unusedVariables false
set_option linter.unusedSimpArgs false

theorem cut1 {P : Program} {Q : Exit → Act → World → Prop} {a : Act} {w : World} {x C : Code} (h : ∀ C' : Code, (∀ a w, C.wp P Q a w → C'.wp P Q a w) → (x.seq C').wp P Q a w) : (x.seq C).wp P Q a w := h C (fun _ _ h => h)
theorem didGuard : Tryd.prog.eqGuardType Tryd.prog.depth 54 = false := by kernel_rfl
theorem neq_did (W : World) (a b : List UInt8 × Int) : (binOp BinOp.neq 54 (.agg #[.string (str a.1), .int .i64 a.2]) (.agg #[.string (str b.1), .int .i64 b.2])).run Tryd.prog W = .ok (.bool (!(decide (a = b)))) W := by
  have u3 := Tryd.underlying9
  have a3 := Tryd.isAgg9
  have z3 := Tryd.sizeOf9
  have u2 := Tryd.underlying2
  have a2 := Tryd.isAgg2
  have z2 := Tryd.sizeOf2
  have hS : Tryd.prog.underlying 54 = some (.struct (Tryd.prog.fieldsOf 54)) := by kernel_rfl
  have hp : Tryd.prog.stoodInHeld 54 = false := by kernel_rfl
  rw [run_neq_struct, show (10000 : Nat) = 9999 + 1 from rfl, run_equalIn_agg W 9999 54 _ _ hS hp]
  simp only [Program.fieldsOf, Tryd.underlying54]
  go_simp
  obtain ⟨a1, a2⟩ := a
  obtain ⟨b1, b2⟩ := b
  by_cases h1 : a1 = b1
  · by_cases h2 : a2 = b2 <;> simp [h1, h2]
  · have h3 : ¬ (str a1).toList = (str b1).toList := by rw [str_toList, str_toList]; exact h1
    by_cases h2 : a2 = b2 <;> simp [h1, h2, h3]
theorem dfld0 (b : Nat) (w : World) : (Instr.fieldAt 33 (.pointer (some ⟨b, 0, none⟩)) 0).run Tryd.prog w = .ok (.pointer (some ⟨b, 0, none⟩)) w := by kernel_rfl
theorem dfld1 (b : Nat) (w : World) : (Instr.fieldAt 33 (.pointer (some ⟨b, 0, none⟩)) 1).run Tryd.prog w = .ok (.pointer (some ⟨b, 1, none⟩)) w := by kernel_rfl
theorem dfld2 (b : Nat) (w : World) : (Instr.fieldAt 33 (.pointer (some ⟨b, 0, none⟩)) 2).run Tryd.prog w = .ok (.pointer (some ⟨b, 2, none⟩)) w := by kernel_rfl
theorem dfld3 (b : Nat) (w : World) : (Instr.fieldAt 33 (.pointer (some ⟨b, 0, none⟩)) 3).run Tryd.prog w = .ok (.pointer (some ⟨b, 3, none⟩)) w := by kernel_rfl
theorem dfld4 (b : Nat) (w : World) : (Instr.fieldAt 33 (.pointer (some ⟨b, 0, none⟩)) 4).run Tryd.prog w = .ok (.pointer (some ⟨b, 4, none⟩)) w := by kernel_rfl
theorem dfld5 (b : Nat) (w : World) : (Instr.fieldAt 33 (.pointer (some ⟨b, 0, none⟩)) 5).run Tryd.prog w = .ok (.pointer (some ⟨b, 5, none⟩)) w := by kernel_rfl
theorem dfld6 (b : Nat) (w : World) : (Instr.fieldAt 33 (.pointer (some ⟨b, 0, none⟩)) 6).run Tryd.prog w = .ok (.pointer (some ⟨b, 6, none⟩)) w := by kernel_rfl
theorem dfld7 (b : Nat) (w : World) : (Instr.fieldAt 33 (.pointer (some ⟨b, 0, none⟩)) 7).run Tryd.prog w = .ok (.pointer (some ⟨b, 7, none⟩)) w := by kernel_rfl
theorem dfld8 (b : Nat) (w : World) : (Instr.fieldAt 33 (.pointer (some ⟨b, 0, none⟩)) 8).run Tryd.prog w = .ok (.pointer (some ⟨b, 8, none⟩)) w := by kernel_rfl
theorem dfld9 (b : Nat) (w : World) : (Instr.fieldAt 33 (.pointer (some ⟨b, 0, none⟩)) 9).run Tryd.prog w = .ok (.pointer (some ⟨b, 9, none⟩)) w := by kernel_rfl
theorem dfld10 (b : Nat) (w : World) : (Instr.fieldAt 33 (.pointer (some ⟨b, 0, none⟩)) 10).run Tryd.prog w = .ok (.pointer (some ⟨b, 10, none⟩)) w := by kernel_rfl
theorem dfld11 (b : Nat) (w : World) : (Instr.fieldAt 33 (.pointer (some ⟨b, 0, none⟩)) 11).run Tryd.prog w = .ok (.pointer (some ⟨b, 11, none⟩)) w := by kernel_rfl
theorem dfld12 (b : Nat) (w : World) : (Instr.fieldAt 33 (.pointer (some ⟨b, 0, none⟩)) 12).run Tryd.prog w = .ok (.pointer (some ⟨b, 12, none⟩)) w := by kernel_rfl
theorem dfld13 (b : Nat) (w : World) : (Instr.fieldAt 33 (.pointer (some ⟨b, 0, none⟩)) 13).run Tryd.prog w = .ok (.pointer (some ⟨b, 13, none⟩)) w := by kernel_rfl
theorem mne3 (o1 o2 : Operand) (a b : Int) (w : World) : (do eqGuard .neq 3 o1 o2 (.int .i64 a) (.int .i64 b); binOp .neq 3 (.int .i64 a) (.int .i64 b) : Sem Value).run Tryd.prog w = .ok (.bool (a != b)) w := by
  simp [go_sem, eqGuard]
theorem mne2 (o1 o2 : Operand) (a b : Int) (w : World) : (do eqGuard .neq 2 o1 o2 (.int .i64 a) (.int .i64 b); binOp .neq 2 (.int .i64 a) (.int .i64 b) : Sem Value).run Tryd.prog w = .ok (.bool (a != b)) w := by
  simp [go_sem, eqGuard]
theorem mne9 (o1 o2 : Operand) (a b : ByteArray) (w : World) : (do eqGuard .neq 9 o1 o2 (.string a) (.string b); binOp .neq 9 (.string a) (.string b) : Sem Value).run Tryd.prog w = .ok (.bool (!(a.toList == b.toList))) w := by
  simp [go_sem, eqGuard, bne]
theorem mne4 (o1 o2 : Operand) (a b : Bool) (w : World) : (do eqGuard .neq 4 o1 o2 (.bool a) (.bool b); binOp .neq 4 (.bool a) (.bool b) : Sem Value).run Tryd.prog w = .ok (.bool (a != b)) w := by
  have u4 := Tryd.underlying4
  simp [go_sem, eqGuard, u4]
  cases a <;> cases b <;> rfl
theorem dlen_ids {b : Act} {A : Option Addr} {n c x : Nat} (k j : Nat) (t : TypeId) (ps : String) (f : Array Edge) (g : Option (Nat × Bool)) (w : World) (h : b.eval (.tmp j) = .slice A n c) : (execOp b.eval ⟨some k, .call { callee := .builtin .len, args := #[.tmp j], argTypes := #[31] }, t, ps, f, g⟩).run Tryd.prog w = .ok (.value (.int .i64 (n : Int))) w := by
  have h2 := h
  simp [Act.eval] at h2
  simp [execOp, h2, go_sem]
theorem dlen_ints {b : Act} {A : Option Addr} {n c x : Nat} (k j : Nat) (t : TypeId) (ps : String) (f : Array Edge) (g : Option (Nat × Bool)) (w : World) (h : b.eval (.tmp j) = .slice A n c) : (execOp b.eval ⟨some k, .call { callee := .builtin .len, args := #[.tmp j], argTypes := #[24] }, t, ps, f, g⟩).run Tryd.prog w = .ok (.value (.int .i64 (n : Int))) w := by
  have h2 := h
  simp [Act.eval] at h2
  simp [execOp, h2, go_sem]
set_option maxRecDepth 100000 in
set_option maxHeartbeats 16000000 in
theorem rsame_any (w : World) (a b : Msg) (A : Option Addr) (c : Nat) (na : Option Addr) (nc : Nat) (A' : Option Addr) (c' : Nat) (na' : Option Addr) (nc' : Nat) (hA : PIn w w.heap.size a A na) (hB : PIn w w.heap.size b A' na') :
    Calls Tryd.prog 17 #[.agg (pv a A c na nc), .agg (pv b A' c' na' nc')] w fun e w' => e = .returned (.bool (same a b)) ∧ Below w.heap.size w w' := by
  obtain ⟨bx, hbx⟩ : ∃ bx, w.heap.size = bx := ⟨_, rfl⟩
  obtain ⟨w1, hw1⟩ : ∃ x : World, (w.alloc (.cells (pv a A c na nc) 33)).alloc (.cells (pv b A' c' na' nc') 33) = x := ⟨_, rfl⟩
  have hb1 : Below w.heap.size w w1 := by rw [← hw1]; exact nextA (nextA (Mem.start w) _) _
  have HB1 := Lib.hid hb1
  have HI := Lib.hid (And.intro (hA.keep hb1) (hB.keep hb1))
  have HX := Lib.hid (show Blk w1 bx 33 (pv a A c na nc) ∧ Blk w1 (bx + 1) 33 (pv b A' c' na' nc') by
    rw [← hw1, ← hbx]
    refine ⟨(Blk.new w _ _).keep (nextA (Mem.start _) _), ?_⟩
    have := Blk.new (w.alloc (.cells (pv a A c na nc) 33)) 33 (pv b A' c' na' nc')
    rw [World.size_alloc] at this; exact this)
  obtain ⟨D, hD⟩ : ∃ D, ((((((((((((((((a.kind : Nat) : Int) != ((b.kind : Nat) : Int)) || (a.frm != b.frm)) || (a.to_ != b.to_)) || (a.req != b.req)) || (!((str a.key).toList == (str b.key).toList))) || (a.ver != b.ver)) || (a.inc != b.inc)) || (a.size != b.size)) || (a.code != b.code)) || (a.node != b.node)) || (a.back != b.back)) || (((a.ids.length : Nat) : Int) != ((b.ids.length : Nat) : Int))) || (((a.nodes.length : Nat) : Int) != ((b.nodes.length : Nat) : Int))) || (!((str a.data).toList == (str b.data).toList))) = D := ⟨_, rfl⟩
  have HD := Lib.hid hD
  have ca0 := HX.out.1.cell 0
  have cb0 := HX.out.2.cell 0
  simp [pv, pvk] at ca0 cb0
  clear hA hB hb1 hD
  cases D
  · have HE := Lib.hid (show (a.kind = b.kind ∧ a.frm = b.frm ∧ a.to_ = b.to_ ∧ a.req = b.req ∧ a.key = b.key ∧ a.ver = b.ver ∧ a.inc = b.inc ∧ a.size = b.size ∧ a.code = b.code ∧ a.node = b.node ∧ a.back = b.back ∧ a.ids.length = b.ids.length ∧ a.nodes.length = b.nodes.length ∧ a.data = b.data) from by
      have h := HD.out
      simp only [Bool.or_eq_false_iff, str_beq, Bool.not_eq_false', decide_eq_true_eq, bne_eq_false_iff_eq] at h
      obtain ⟨⟨⟨⟨⟨⟨⟨⟨⟨⟨⟨⟨⟨h0, h1⟩, h2⟩, h3⟩, h4⟩, h5⟩, h6⟩, h7⟩, h8⟩, h9⟩, h10⟩, h11⟩, h12⟩, h13⟩ := h
      exact ⟨by omega, h1, h2, h3, h4, h5, h6, h7, h8, h9, h10, by omega, by omega, h13⟩)
    go_enter Tryd.func17, Tryd.ntmps17
    refine cut1 fun C' hC => ?_
    have HC := Lib.hid hC
    clear hC
    go_wp2_with fail
    refine HC.out _ _ ?_
    clear HC
    refine wp_seq ?_
    refine wp_seq ?_
    refine wp_region_lit ?_
    refine Chain.step_on (d := 7) rfl (by simp [Region.wanted]) (v := .pointer (some ⟨bx, 0, none⟩)) (by simp [execOp, Act.eval, dfld0]) ?_; simp only [Act.put, List.setIfInBounds_toArray, List.set_cons_zero, List.set_cons_succ]
    refine Chain.step_on (d := 8) rfl (by simp [Region.wanted]) (v := .int .u8 ((a.kind : Nat) : Int)) (exec_load 5 (.tmp 7) rfl _ rfl _ (ld _ _ Tryd.isAgg5 (by have := HX.out.1.cell 0; simpa [pv, pvk] using this))) ?_; simp only [Act.put, List.setIfInBounds_toArray, List.set_cons_zero, List.set_cons_succ]
    refine Chain.step_on (d := 9) rfl (by simp [Region.wanted]) (v := .pointer (some ⟨bx + 1, 0, none⟩)) (by simp [execOp, Act.eval, dfld0]) ?_; simp only [Act.put, List.setIfInBounds_toArray, List.set_cons_zero, List.set_cons_succ]
    refine Chain.step_on (d := 10) rfl (by simp [Region.wanted]) (v := .int .u8 ((b.kind : Nat) : Int)) (exec_load 5 (.tmp 9) rfl _ rfl _ (ld _ _ Tryd.isAgg5 (by have := HX.out.2.cell 0; simpa [pv, pvk] using this))) ?_; simp only [Act.put, List.setIfInBounds_toArray, List.set_cons_zero, List.set_cons_succ]
    refine Chain.step_on (d := 11) rfl (by simp [Region.wanted]) (v := .bool (((a.kind : Nat) : Int) != ((b.kind : Nat) : Int))) (by simp [execOp, Act.eval, go_sem, eqGuard]) ?_; simp only [Act.put, List.setIfInBounds_toArray, List.set_cons_zero, List.set_cons_succ]
    refine Chain.or_f 143 11 5 1 33 3 bx (bx + 1) (((a.kind : Nat) : Int) != ((b.kind : Nat) : Int)) (a.frm != b.frm) (.int .i64 a.frm) (.int .i64 b.frm) (by decide) (by decide) (by rfl) (by rfl) (by rfl) (by rfl) (by rfl) (dfld1 _ _) (dfld1 _ _) (ld _ _ Tryd.isAgg3 (by have := HX.out.1.cell 1; simpa [pv, pvk] using this)) (ld _ _ Tryd.isAgg3 (by have := HX.out.2.cell 1; simpa [pv, pvk] using this)) (fun o1 o2 => mne3 o1 o2 _ _ _) ?_; intro j2 j3 j4 j5 j6; simp only [Act.put, List.setIfInBounds_toArray, List.set_cons_zero, List.set_cons_succ]
    refine Chain.or_f 143 18 12 2 33 3 bx (bx + 1) ((((a.kind : Nat) : Int) != ((b.kind : Nat) : Int)) || (a.frm != b.frm)) (a.to_ != b.to_) (.int .i64 a.to_) (.int .i64 b.to_) (by decide) (by decide) (by rfl) (by rfl) (by rfl) (by rfl) (by rfl) (dfld2 _ _) (dfld2 _ _) (ld _ _ Tryd.isAgg3 (by have := HX.out.1.cell 2; simpa [pv, pvk] using this)) (ld _ _ Tryd.isAgg3 (by have := HX.out.2.cell 2; simpa [pv, pvk] using this)) (fun o1 o2 => mne3 o1 o2 _ _ _) ?_; intro j2 j3 j4 j5 j6; simp only [Act.put, List.setIfInBounds_toArray, List.set_cons_zero, List.set_cons_succ]
    refine Chain.or_f 143 25 19 3 33 2 bx (bx + 1) (((((a.kind : Nat) : Int) != ((b.kind : Nat) : Int)) || (a.frm != b.frm)) || (a.to_ != b.to_)) (a.req != b.req) (.int .i64 a.req) (.int .i64 b.req) (by decide) (by decide) (by rfl) (by rfl) (by rfl) (by rfl) (by rfl) (dfld3 _ _) (dfld3 _ _) (ld _ _ Tryd.isAgg2 (by have := HX.out.1.cell 3; simpa [pv, pvk] using this)) (ld _ _ Tryd.isAgg2 (by have := HX.out.2.cell 3; simpa [pv, pvk] using this)) (fun o1 o2 => mne2 o1 o2 _ _ _) ?_; intro j2 j3 j4 j5 j6; simp only [Act.put, List.setIfInBounds_toArray, List.set_cons_zero, List.set_cons_succ]
    refine Chain.or_f 143 32 26 4 33 9 bx (bx + 1) ((((((a.kind : Nat) : Int) != ((b.kind : Nat) : Int)) || (a.frm != b.frm)) || (a.to_ != b.to_)) || (a.req != b.req)) (!((str a.key).toList == (str b.key).toList)) (.string (str a.key)) (.string (str b.key)) (by decide) (by decide) (by rfl) (by rfl) (by rfl) (by rfl) (by rfl) (dfld4 _ _) (dfld4 _ _) (ld _ _ Tryd.isAgg9 (by have := HX.out.1.cell 4; simpa [pv, pvk] using this)) (ld _ _ Tryd.isAgg9 (by have := HX.out.2.cell 4; simpa [pv, pvk] using this)) (fun o1 o2 => mne9 o1 o2 _ _ _) ?_; intro j2 j3 j4 j5 j6; simp only [Act.put, List.setIfInBounds_toArray, List.set_cons_zero, List.set_cons_succ]
    refine Chain.or_f 143 39 33 5 33 2 bx (bx + 1) (((((((a.kind : Nat) : Int) != ((b.kind : Nat) : Int)) || (a.frm != b.frm)) || (a.to_ != b.to_)) || (a.req != b.req)) || (!((str a.key).toList == (str b.key).toList))) (a.ver != b.ver) (.int .i64 a.ver) (.int .i64 b.ver) (by decide) (by decide) (by rfl) (by rfl) (by rfl) (by rfl) (by rfl) (dfld5 _ _) (dfld5 _ _) (ld _ _ Tryd.isAgg2 (by have := HX.out.1.cell 5; simpa [pv, pvk] using this)) (ld _ _ Tryd.isAgg2 (by have := HX.out.2.cell 5; simpa [pv, pvk] using this)) (fun o1 o2 => mne2 o1 o2 _ _ _) ?_; intro j2 j3 j4 j5 j6; simp only [Act.put, List.setIfInBounds_toArray, List.set_cons_zero, List.set_cons_succ]
    refine Chain.or_f 143 46 40 6 33 2 bx (bx + 1) ((((((((a.kind : Nat) : Int) != ((b.kind : Nat) : Int)) || (a.frm != b.frm)) || (a.to_ != b.to_)) || (a.req != b.req)) || (!((str a.key).toList == (str b.key).toList))) || (a.ver != b.ver)) (a.inc != b.inc) (.int .i64 a.inc) (.int .i64 b.inc) (by decide) (by decide) (by rfl) (by rfl) (by rfl) (by rfl) (by rfl) (dfld6 _ _) (dfld6 _ _) (ld _ _ Tryd.isAgg2 (by have := HX.out.1.cell 6; simpa [pv, pvk] using this)) (ld _ _ Tryd.isAgg2 (by have := HX.out.2.cell 6; simpa [pv, pvk] using this)) (fun o1 o2 => mne2 o1 o2 _ _ _) ?_; intro j2 j3 j4 j5 j6; simp only [Act.put, List.setIfInBounds_toArray, List.set_cons_zero, List.set_cons_succ]
    refine Chain.or_f 143 53 47 7 33 3 bx (bx + 1) (((((((((a.kind : Nat) : Int) != ((b.kind : Nat) : Int)) || (a.frm != b.frm)) || (a.to_ != b.to_)) || (a.req != b.req)) || (!((str a.key).toList == (str b.key).toList))) || (a.ver != b.ver)) || (a.inc != b.inc)) (a.size != b.size) (.int .i64 a.size) (.int .i64 b.size) (by decide) (by decide) (by rfl) (by rfl) (by rfl) (by rfl) (by rfl) (dfld7 _ _) (dfld7 _ _) (ld _ _ Tryd.isAgg3 (by have := HX.out.1.cell 7; simpa [pv, pvk] using this)) (ld _ _ Tryd.isAgg3 (by have := HX.out.2.cell 7; simpa [pv, pvk] using this)) (fun o1 o2 => mne3 o1 o2 _ _ _) ?_; intro j2 j3 j4 j5 j6; simp only [Act.put, List.setIfInBounds_toArray, List.set_cons_zero, List.set_cons_succ]
    refine Chain.or_f 143 60 54 8 33 3 bx (bx + 1) ((((((((((a.kind : Nat) : Int) != ((b.kind : Nat) : Int)) || (a.frm != b.frm)) || (a.to_ != b.to_)) || (a.req != b.req)) || (!((str a.key).toList == (str b.key).toList))) || (a.ver != b.ver)) || (a.inc != b.inc)) || (a.size != b.size)) (a.code != b.code) (.int .i64 a.code) (.int .i64 b.code) (by decide) (by decide) (by rfl) (by rfl) (by rfl) (by rfl) (by rfl) (dfld8 _ _) (dfld8 _ _) (ld _ _ Tryd.isAgg3 (by have := HX.out.1.cell 8; simpa [pv, pvk] using this)) (ld _ _ Tryd.isAgg3 (by have := HX.out.2.cell 8; simpa [pv, pvk] using this)) (fun o1 o2 => mne3 o1 o2 _ _ _) ?_; intro j2 j3 j4 j5 j6; simp only [Act.put, List.setIfInBounds_toArray, List.set_cons_zero, List.set_cons_succ]
    refine Chain.or_f 143 67 61 9 33 3 bx (bx + 1) (((((((((((a.kind : Nat) : Int) != ((b.kind : Nat) : Int)) || (a.frm != b.frm)) || (a.to_ != b.to_)) || (a.req != b.req)) || (!((str a.key).toList == (str b.key).toList))) || (a.ver != b.ver)) || (a.inc != b.inc)) || (a.size != b.size)) || (a.code != b.code)) (a.node != b.node) (.int .i64 a.node) (.int .i64 b.node) (by decide) (by decide) (by rfl) (by rfl) (by rfl) (by rfl) (by rfl) (dfld9 _ _) (dfld9 _ _) (ld _ _ Tryd.isAgg3 (by have := HX.out.1.cell 9; simpa [pv, pvk] using this)) (ld _ _ Tryd.isAgg3 (by have := HX.out.2.cell 9; simpa [pv, pvk] using this)) (fun o1 o2 => mne3 o1 o2 _ _ _) ?_; intro j2 j3 j4 j5 j6; simp only [Act.put, List.setIfInBounds_toArray, List.set_cons_zero, List.set_cons_succ]
    refine Chain.or_f 143 74 68 10 33 4 bx (bx + 1) ((((((((((((a.kind : Nat) : Int) != ((b.kind : Nat) : Int)) || (a.frm != b.frm)) || (a.to_ != b.to_)) || (a.req != b.req)) || (!((str a.key).toList == (str b.key).toList))) || (a.ver != b.ver)) || (a.inc != b.inc)) || (a.size != b.size)) || (a.code != b.code)) || (a.node != b.node)) (a.back != b.back) (.bool a.back) (.bool b.back) (by decide) (by decide) (by rfl) (by rfl) (by rfl) (by rfl) (by rfl) (dfld10 _ _) (dfld10 _ _) (ld _ _ Tryd.isAgg4 (by have := HX.out.1.cell 10; simpa [pv, pvk] using this)) (ld _ _ Tryd.isAgg4 (by have := HX.out.2.cell 10; simpa [pv, pvk] using this)) (fun o1 o2 => mne4 o1 o2 _ _ _) ?_; intro j2 j3 j4 j5 j6; simp only [Act.put, List.setIfInBounds_toArray, List.set_cons_zero, List.set_cons_succ]
    refine Chain.or_l 143 81 75 11 33 31 3 bx (bx + 1) (((((((((((((a.kind : Nat) : Int) != ((b.kind : Nat) : Int)) || (a.frm != b.frm)) || (a.to_ != b.to_)) || (a.req != b.req)) || (!((str a.key).toList == (str b.key).toList))) || (a.ver != b.ver)) || (a.inc != b.inc)) || (a.size != b.size)) || (a.code != b.code)) || (a.node != b.node)) || (a.back != b.back)) (((a.ids.length : Nat) : Int) != ((b.ids.length : Nat) : Int)) (.slice A a.ids.length c) (.slice A' b.ids.length c') (.int .i64 ((a.ids.length : Nat) : Int)) (.int .i64 ((b.ids.length : Nat) : Int)) (by decide) (by decide) (by rfl) (by rfl) (by rfl) (by rfl) (by rfl) (dfld11 _ _) (dfld11 _ _) (ld _ _ Tryd.isAgg31 (by have := HX.out.1.cell 11; simpa [pv, pvk] using this)) (ld _ _ Tryd.isAgg31 (by have := HX.out.2.cell 11; simpa [pv, pvk] using this)) (fun z hz => dlen_ids (x := 0) _ _ _ _ _ _ _ hz) (fun z hz => dlen_ids (x := 0) _ _ _ _ _ _ _ hz) (fun o1 o2 => mne3 o1 o2 _ _ _) ?_; intro j2 j3 j4 j5 j6 j7 j8; simp only [Act.put, List.setIfInBounds_toArray, List.set_cons_zero, List.set_cons_succ]
    refine Chain.or_l 143 90 84 12 33 24 3 bx (bx + 1) ((((((((((((((a.kind : Nat) : Int) != ((b.kind : Nat) : Int)) || (a.frm != b.frm)) || (a.to_ != b.to_)) || (a.req != b.req)) || (!((str a.key).toList == (str b.key).toList))) || (a.ver != b.ver)) || (a.inc != b.inc)) || (a.size != b.size)) || (a.code != b.code)) || (a.node != b.node)) || (a.back != b.back)) || (((a.ids.length : Nat) : Int) != ((b.ids.length : Nat) : Int))) (((a.nodes.length : Nat) : Int) != ((b.nodes.length : Nat) : Int)) (.slice na a.nodes.length nc) (.slice na' b.nodes.length nc') (.int .i64 ((a.nodes.length : Nat) : Int)) (.int .i64 ((b.nodes.length : Nat) : Int)) (by decide) (by decide) (by rfl) (by rfl) (by rfl) (by rfl) (by rfl) (dfld12 _ _) (dfld12 _ _) (ld _ _ Tryd.isAgg24 (by have := HX.out.1.cell 12; simpa [pv, pvk] using this)) (ld _ _ Tryd.isAgg24 (by have := HX.out.2.cell 12; simpa [pv, pvk] using this)) (fun z hz => dlen_ints (x := 0) _ _ _ _ _ _ _ hz) (fun z hz => dlen_ints (x := 0) _ _ _ _ _ _ _ hz) (fun o1 o2 => mne3 o1 o2 _ _ _) ?_; intro j2 j3 j4 j5 j6 j7 j8; simp only [Act.put, List.setIfInBounds_toArray, List.set_cons_zero, List.set_cons_succ]
    refine Chain.or_f 143 99 93 13 33 9 bx (bx + 1) (((((((((((((((a.kind : Nat) : Int) != ((b.kind : Nat) : Int)) || (a.frm != b.frm)) || (a.to_ != b.to_)) || (a.req != b.req)) || (!((str a.key).toList == (str b.key).toList))) || (a.ver != b.ver)) || (a.inc != b.inc)) || (a.size != b.size)) || (a.code != b.code)) || (a.node != b.node)) || (a.back != b.back)) || (((a.ids.length : Nat) : Int) != ((b.ids.length : Nat) : Int))) || (((a.nodes.length : Nat) : Int) != ((b.nodes.length : Nat) : Int))) (!((str a.data).toList == (str b.data).toList)) (.string (str a.data)) (.string (str b.data)) (by decide) (by decide) (by rfl) (by rfl) (by rfl) (by rfl) (by rfl) (dfld13 _ _) (dfld13 _ _) (ld _ _ Tryd.isAgg9 (by have := HX.out.1.cell 13; simpa [pv, pvk] using this)) (ld _ _ Tryd.isAgg9 (by have := HX.out.2.cell 13; simpa [pv, pvk] using this)) (fun o1 o2 => mne9 o1 o2 _ _ _) ?_; intro j2 j3 j4 j5 j6; simp only [Act.put, List.setIfInBounds_toArray, List.set_cons_zero, List.set_cons_succ]; rw [HD.out]
    refine wpList_nil ?_
    simp only [Exit.then]
    have HLN := Lib.hid (show a.ids.length = b.ids.length ∧ a.nodes.length = b.nodes.length from ⟨HE.out.2.2.2.2.2.2.2.2.2.2.2.1, HE.out.2.2.2.2.2.2.2.2.2.2.2.2.1⟩)
    clear ca0 cb0 hw1 hbx
    go_wp2_with fail
    go_loopw [5] (fun i wr => ∃ j : Nat, i = .int .i64 (j : Int) ∧ j ≤ a.ids.length ∧ a.ids.take j = b.ids.take j ∧ Below w1.heap.size w1 wr) (fun i _ => a.ids.length - (intOf i).toNat)
    case atStart => exact ⟨0, rfl, Nat.zero_le _, rfl, Below.refl _ _⟩
    case round =>
      obtain ⟨j, rfl, hj, ht, hb⟩ := hrel
      have ca := (HX.out.1.keep hb).cell 11
      have cb := (HX.out.2.keep hb).cell 11
      simp [pv, pvk] at ca cb
      rw [← HLN.out.1] at cb
      have hlen : ((a.ids.length : Nat) : Int) ≤ 100000000 := by have := HI.out.1.li; omega
      by_cases hjl : j < a.ids.length
      · have ja : j < a.ids.length := hjl
        have jb : j < b.ids.length := by rw [← HLN.out.1]; exact hjl
        obtain ⟨b1, o1, e1, _, k1, k1'⟩ := ids_at (HI.out.1.keep hb).ids ja
        obtain ⟨b2, o2, e2, _, k2, k2'⟩ := ids_at (HI.out.2.keep hb).ids jb
        have hrun := fun W => neq_did W a.ids[j] b.ids[j]
        obtain ⟨⟨x1, x2⟩, hx⟩ : ∃ x, a.ids[j] = x := ⟨_, rfl⟩
        obtain ⟨⟨y1, y2⟩, hy⟩ : ∃ y, b.ids[j] = y := ⟨_, rfl⟩
        rw [hx] at k1 k1' hrun
        rw [hy] at k2 k2' hrun
        dsimp only at k1 k1' k2 k2' hrun
        rw [e1] at ca
        rw [e2] at cb
        have h1 : (j : Int) < ((a.ids.length : Nat) : Int) := by omega
        have h0 : (0 : Int) ≤ (j : Int) := by omega
        have HW := Lib.hid hb
        have HJ := Lib.hid hjl
        by_cases hxy : (x1, x2) = (y1, y2)
        · have HR := Lib.hid (show a.ids.take (j + 1) = b.ids.take (j + 1) by rw [List.take_succ_eq_append_getElem ja, List.take_succ_eq_append_getElem jb, ht, hx, hy, hxy])
          rw [decide_eq_true hxy] at hrun
          clear ht hx hy hb hxy e1 e2 ja jb hjl hj
          go_wp2_with fail
          go_quiet (fail)
          go_wp2_with fail
          go_roundw
          case rel => exact ⟨j + 1, rfl, HJ.out, HR.out, nextN HW.out _⟩
          case measure => simp [intOf]; have := HJ.out; omega
        · have HR := Lib.hid (show same a b = false from by
            cases hs : same a b
            · rfl
            · have e := (same_iff a b).1 hs
              exact absurd (by rw [← hx, ← hy]; simp [e]) hxy)
          rw [decide_eq_false hxy] at hrun
          clear ht hx hy hb hxy e1 e2 ja jb hjl hj
          go_wp2_with fail
          go_quiet (fail)
          go_wp2_with fail
          go_ret
          exact ⟨by rw [HR.out]; rfl, HB1.out.trans ((nextN HW.out _).mono HB1.out.size)⟩
      · obtain hjn : a.ids.length = j := by omega
        have HEQ11 := Lib.hid (show a.ids = b.ids by
          rw [← hjn] at ht
          rw [List.take_length] at ht
          rw [ht, List.take_of_length_le (by rw [HLN.out.1]; exact Nat.le_refl _)])
        have HW11 := Lib.hid hb
        have h1 : ¬ (j : Int) < ((a.ids.length : Nat) : Int) := by omega
        clear ht hj hjl hb hjn
        go_wp2_with fail
        go_loopw [6] (fun i wr => ∃ j : Nat, i = .int .i64 (j : Int) ∧ j ≤ a.nodes.length ∧ a.nodes.take j = b.nodes.take j ∧ Below w1.heap.size w1 wr) (fun i _ => a.nodes.length - (intOf i).toNat)
        case atStart => exact ⟨0, rfl, Nat.zero_le _, rfl, HW11.out⟩
        case round =>
          obtain ⟨j, rfl, hj, ht, hb⟩ := hrel
          have ca := (HX.out.1.keep hb).cell 12
          have cb := (HX.out.2.keep hb).cell 12
          simp [pv, pvk] at ca cb
          rw [← HLN.out.2] at cb
          have hlen : ((a.nodes.length : Nat) : Int) ≤ 100000000 := by have := HI.out.1.ln; omega
          by_cases hjl : j < a.nodes.length
          · have ja : j < a.nodes.length := hjl
            have jb : j < b.nodes.length := by rw [← HLN.out.2]; exact hjl
            obtain ⟨b1, o1, e1, _, k1⟩ := (HI.out.1.keep hb).nodes.at_ (k := j) (by simpa using ja)
            obtain ⟨b2, o2, e2, _, k2⟩ := (HI.out.2.keep hb).nodes.at_ (k := j) (by simpa using jb)
            simp only [List.getElem_map, iv] at k1 k2
            obtain ⟨x1, hx⟩ : ∃ x, a.nodes[j] = x := ⟨_, rfl⟩
            obtain ⟨y1, hy⟩ : ∃ y, b.nodes[j] = y := ⟨_, rfl⟩
            rw [hx] at k1
            rw [hy] at k2
            rw [e1] at ca
            rw [e2] at cb
            have h1 : (j : Int) < ((a.nodes.length : Nat) : Int) := by omega
            have h0 : (0 : Int) ≤ (j : Int) := by omega
            have HW := Lib.hid hb
            have HJ := Lib.hid hjl
            by_cases hxy : x1 = y1
            · have HR := Lib.hid (show a.nodes.take (j + 1) = b.nodes.take (j + 1) by rw [List.take_succ_eq_append_getElem ja, List.take_succ_eq_append_getElem jb, ht, hx, hy, hxy])
              have hne : (x1 != y1) = false := by simp [hxy]
              clear ht hx hy hb hxy e1 e2 ja jb hjl hj
              go_wp2_with fail
              go_quiet (fail)
              go_wp2_with fail
              go_roundw
              case rel => exact ⟨j + 1, rfl, HJ.out, HR.out, nextN HW.out _⟩
              case measure => simp [intOf]; have := HJ.out; omega
            · have HR := Lib.hid (show same a b = false from by
                cases hs : same a b
                · rfl
                · have e := (same_iff a b).1 hs
                  exact absurd (by rw [← hx, ← hy]; simp [e]) hxy)
              have hne : (x1 != y1) = true := by simp [hxy]
              clear ht hx hy hb hxy e1 e2 ja jb hjl hj
              go_wp2_with fail
              go_quiet (fail)
              go_wp2_with fail
              go_ret
              exact ⟨by rw [HR.out]; rfl, HB1.out.trans ((nextN HW.out _).mono HB1.out.size)⟩
          · obtain hjn : a.nodes.length = j := by omega
            have HEQ12 := Lib.hid (show a.nodes = b.nodes by
              rw [← hjn] at ht
              rw [List.take_length] at ht
              rw [ht, List.take_of_length_le (by rw [HLN.out.2]; exact Nat.le_refl _)])
            have HW12 := Lib.hid hb
            have h1 : ¬ (j : Int) < ((a.nodes.length : Nat) : Int) := by omega
            clear ht hj hjl hb hjn
            go_wp2_with fail
            go_ret
            have HR := Lib.hid (show same a b = true from by
              have hE := HE.out
              refine (same_iff a b).2 ?_
              cases a; cases b
              simp only [Msg.mk.injEq]
              exact ⟨hE.1, hE.2.1, hE.2.2.1, hE.2.2.2.1, hE.2.2.2.2.1, hE.2.2.2.2.2.1, hE.2.2.2.2.2.2.1, hE.2.2.2.2.2.2.2.1, hE.2.2.2.2.2.2.2.2.1, hE.2.2.2.2.2.2.2.2.2.1, hE.2.2.2.2.2.2.2.2.2.2.1, HEQ11.out, HEQ12.out, hE.2.2.2.2.2.2.2.2.2.2.2.2.2⟩)
            exact ⟨by rw [HR.out]; rfl, HB1.out.trans (HW12.out.mono HB1.out.size)⟩
  · have HR := Lib.hid (show same a b = false from by
      cases hs : same a b
      · rfl
      · have e := (same_iff a b).1 hs
        have h := HD.out
        rw [e] at h
        simp at h)
    rw [HR.out]
    go_enter Tryd.func17, Tryd.ntmps17
    refine cut1 fun C' hC => ?_
    have HC := Lib.hid hC
    clear hC
    go_wp2_with fail
    refine HC.out _ _ ?_
    clear HC
    refine wp_seq ?_
    refine wp_seq ?_
    refine wp_region_lit ?_
    refine Chain.step_on (d := 7) rfl (by simp [Region.wanted]) (v := .pointer (some ⟨bx, 0, none⟩)) (by simp [execOp, Act.eval, dfld0]) ?_; simp only [Act.put, List.setIfInBounds_toArray, List.set_cons_zero, List.set_cons_succ]
    refine Chain.step_on (d := 8) rfl (by simp [Region.wanted]) (v := .int .u8 ((a.kind : Nat) : Int)) (exec_load 5 (.tmp 7) rfl _ rfl _ (ld _ _ Tryd.isAgg5 (by have := HX.out.1.cell 0; simpa [pv, pvk] using this))) ?_; simp only [Act.put, List.setIfInBounds_toArray, List.set_cons_zero, List.set_cons_succ]
    refine Chain.step_on (d := 9) rfl (by simp [Region.wanted]) (v := .pointer (some ⟨bx + 1, 0, none⟩)) (by simp [execOp, Act.eval, dfld0]) ?_; simp only [Act.put, List.setIfInBounds_toArray, List.set_cons_zero, List.set_cons_succ]
    refine Chain.step_on (d := 10) rfl (by simp [Region.wanted]) (v := .int .u8 ((b.kind : Nat) : Int)) (exec_load 5 (.tmp 9) rfl _ rfl _ (ld _ _ Tryd.isAgg5 (by have := HX.out.2.cell 0; simpa [pv, pvk] using this))) ?_; simp only [Act.put, List.setIfInBounds_toArray, List.set_cons_zero, List.set_cons_succ]
    refine Chain.step_on (d := 11) rfl (by simp [Region.wanted]) (v := .bool (((a.kind : Nat) : Int) != ((b.kind : Nat) : Int))) (by simp [execOp, Act.eval, go_sem, eqGuard]) ?_; simp only [Act.put, List.setIfInBounds_toArray, List.set_cons_zero, List.set_cons_succ]
    refine Chain.or_f 143 11 5 1 33 3 bx (bx + 1) (((a.kind : Nat) : Int) != ((b.kind : Nat) : Int)) (a.frm != b.frm) (.int .i64 a.frm) (.int .i64 b.frm) (by decide) (by decide) (by rfl) (by rfl) (by rfl) (by rfl) (by rfl) (dfld1 _ _) (dfld1 _ _) (ld _ _ Tryd.isAgg3 (by have := HX.out.1.cell 1; simpa [pv, pvk] using this)) (ld _ _ Tryd.isAgg3 (by have := HX.out.2.cell 1; simpa [pv, pvk] using this)) (fun o1 o2 => mne3 o1 o2 _ _ _) ?_; intro j2 j3 j4 j5 j6; simp only [Act.put, List.setIfInBounds_toArray, List.set_cons_zero, List.set_cons_succ]
    refine Chain.or_f 143 18 12 2 33 3 bx (bx + 1) ((((a.kind : Nat) : Int) != ((b.kind : Nat) : Int)) || (a.frm != b.frm)) (a.to_ != b.to_) (.int .i64 a.to_) (.int .i64 b.to_) (by decide) (by decide) (by rfl) (by rfl) (by rfl) (by rfl) (by rfl) (dfld2 _ _) (dfld2 _ _) (ld _ _ Tryd.isAgg3 (by have := HX.out.1.cell 2; simpa [pv, pvk] using this)) (ld _ _ Tryd.isAgg3 (by have := HX.out.2.cell 2; simpa [pv, pvk] using this)) (fun o1 o2 => mne3 o1 o2 _ _ _) ?_; intro j2 j3 j4 j5 j6; simp only [Act.put, List.setIfInBounds_toArray, List.set_cons_zero, List.set_cons_succ]
    refine Chain.or_f 143 25 19 3 33 2 bx (bx + 1) (((((a.kind : Nat) : Int) != ((b.kind : Nat) : Int)) || (a.frm != b.frm)) || (a.to_ != b.to_)) (a.req != b.req) (.int .i64 a.req) (.int .i64 b.req) (by decide) (by decide) (by rfl) (by rfl) (by rfl) (by rfl) (by rfl) (dfld3 _ _) (dfld3 _ _) (ld _ _ Tryd.isAgg2 (by have := HX.out.1.cell 3; simpa [pv, pvk] using this)) (ld _ _ Tryd.isAgg2 (by have := HX.out.2.cell 3; simpa [pv, pvk] using this)) (fun o1 o2 => mne2 o1 o2 _ _ _) ?_; intro j2 j3 j4 j5 j6; simp only [Act.put, List.setIfInBounds_toArray, List.set_cons_zero, List.set_cons_succ]
    refine Chain.or_f 143 32 26 4 33 9 bx (bx + 1) ((((((a.kind : Nat) : Int) != ((b.kind : Nat) : Int)) || (a.frm != b.frm)) || (a.to_ != b.to_)) || (a.req != b.req)) (!((str a.key).toList == (str b.key).toList)) (.string (str a.key)) (.string (str b.key)) (by decide) (by decide) (by rfl) (by rfl) (by rfl) (by rfl) (by rfl) (dfld4 _ _) (dfld4 _ _) (ld _ _ Tryd.isAgg9 (by have := HX.out.1.cell 4; simpa [pv, pvk] using this)) (ld _ _ Tryd.isAgg9 (by have := HX.out.2.cell 4; simpa [pv, pvk] using this)) (fun o1 o2 => mne9 o1 o2 _ _ _) ?_; intro j2 j3 j4 j5 j6; simp only [Act.put, List.setIfInBounds_toArray, List.set_cons_zero, List.set_cons_succ]
    refine Chain.or_f 143 39 33 5 33 2 bx (bx + 1) (((((((a.kind : Nat) : Int) != ((b.kind : Nat) : Int)) || (a.frm != b.frm)) || (a.to_ != b.to_)) || (a.req != b.req)) || (!((str a.key).toList == (str b.key).toList))) (a.ver != b.ver) (.int .i64 a.ver) (.int .i64 b.ver) (by decide) (by decide) (by rfl) (by rfl) (by rfl) (by rfl) (by rfl) (dfld5 _ _) (dfld5 _ _) (ld _ _ Tryd.isAgg2 (by have := HX.out.1.cell 5; simpa [pv, pvk] using this)) (ld _ _ Tryd.isAgg2 (by have := HX.out.2.cell 5; simpa [pv, pvk] using this)) (fun o1 o2 => mne2 o1 o2 _ _ _) ?_; intro j2 j3 j4 j5 j6; simp only [Act.put, List.setIfInBounds_toArray, List.set_cons_zero, List.set_cons_succ]
    refine Chain.or_f 143 46 40 6 33 2 bx (bx + 1) ((((((((a.kind : Nat) : Int) != ((b.kind : Nat) : Int)) || (a.frm != b.frm)) || (a.to_ != b.to_)) || (a.req != b.req)) || (!((str a.key).toList == (str b.key).toList))) || (a.ver != b.ver)) (a.inc != b.inc) (.int .i64 a.inc) (.int .i64 b.inc) (by decide) (by decide) (by rfl) (by rfl) (by rfl) (by rfl) (by rfl) (dfld6 _ _) (dfld6 _ _) (ld _ _ Tryd.isAgg2 (by have := HX.out.1.cell 6; simpa [pv, pvk] using this)) (ld _ _ Tryd.isAgg2 (by have := HX.out.2.cell 6; simpa [pv, pvk] using this)) (fun o1 o2 => mne2 o1 o2 _ _ _) ?_; intro j2 j3 j4 j5 j6; simp only [Act.put, List.setIfInBounds_toArray, List.set_cons_zero, List.set_cons_succ]
    refine Chain.or_f 143 53 47 7 33 3 bx (bx + 1) (((((((((a.kind : Nat) : Int) != ((b.kind : Nat) : Int)) || (a.frm != b.frm)) || (a.to_ != b.to_)) || (a.req != b.req)) || (!((str a.key).toList == (str b.key).toList))) || (a.ver != b.ver)) || (a.inc != b.inc)) (a.size != b.size) (.int .i64 a.size) (.int .i64 b.size) (by decide) (by decide) (by rfl) (by rfl) (by rfl) (by rfl) (by rfl) (dfld7 _ _) (dfld7 _ _) (ld _ _ Tryd.isAgg3 (by have := HX.out.1.cell 7; simpa [pv, pvk] using this)) (ld _ _ Tryd.isAgg3 (by have := HX.out.2.cell 7; simpa [pv, pvk] using this)) (fun o1 o2 => mne3 o1 o2 _ _ _) ?_; intro j2 j3 j4 j5 j6; simp only [Act.put, List.setIfInBounds_toArray, List.set_cons_zero, List.set_cons_succ]
    refine Chain.or_f 143 60 54 8 33 3 bx (bx + 1) ((((((((((a.kind : Nat) : Int) != ((b.kind : Nat) : Int)) || (a.frm != b.frm)) || (a.to_ != b.to_)) || (a.req != b.req)) || (!((str a.key).toList == (str b.key).toList))) || (a.ver != b.ver)) || (a.inc != b.inc)) || (a.size != b.size)) (a.code != b.code) (.int .i64 a.code) (.int .i64 b.code) (by decide) (by decide) (by rfl) (by rfl) (by rfl) (by rfl) (by rfl) (dfld8 _ _) (dfld8 _ _) (ld _ _ Tryd.isAgg3 (by have := HX.out.1.cell 8; simpa [pv, pvk] using this)) (ld _ _ Tryd.isAgg3 (by have := HX.out.2.cell 8; simpa [pv, pvk] using this)) (fun o1 o2 => mne3 o1 o2 _ _ _) ?_; intro j2 j3 j4 j5 j6; simp only [Act.put, List.setIfInBounds_toArray, List.set_cons_zero, List.set_cons_succ]
    refine Chain.or_f 143 67 61 9 33 3 bx (bx + 1) (((((((((((a.kind : Nat) : Int) != ((b.kind : Nat) : Int)) || (a.frm != b.frm)) || (a.to_ != b.to_)) || (a.req != b.req)) || (!((str a.key).toList == (str b.key).toList))) || (a.ver != b.ver)) || (a.inc != b.inc)) || (a.size != b.size)) || (a.code != b.code)) (a.node != b.node) (.int .i64 a.node) (.int .i64 b.node) (by decide) (by decide) (by rfl) (by rfl) (by rfl) (by rfl) (by rfl) (dfld9 _ _) (dfld9 _ _) (ld _ _ Tryd.isAgg3 (by have := HX.out.1.cell 9; simpa [pv, pvk] using this)) (ld _ _ Tryd.isAgg3 (by have := HX.out.2.cell 9; simpa [pv, pvk] using this)) (fun o1 o2 => mne3 o1 o2 _ _ _) ?_; intro j2 j3 j4 j5 j6; simp only [Act.put, List.setIfInBounds_toArray, List.set_cons_zero, List.set_cons_succ]
    refine Chain.or_f 143 74 68 10 33 4 bx (bx + 1) ((((((((((((a.kind : Nat) : Int) != ((b.kind : Nat) : Int)) || (a.frm != b.frm)) || (a.to_ != b.to_)) || (a.req != b.req)) || (!((str a.key).toList == (str b.key).toList))) || (a.ver != b.ver)) || (a.inc != b.inc)) || (a.size != b.size)) || (a.code != b.code)) || (a.node != b.node)) (a.back != b.back) (.bool a.back) (.bool b.back) (by decide) (by decide) (by rfl) (by rfl) (by rfl) (by rfl) (by rfl) (dfld10 _ _) (dfld10 _ _) (ld _ _ Tryd.isAgg4 (by have := HX.out.1.cell 10; simpa [pv, pvk] using this)) (ld _ _ Tryd.isAgg4 (by have := HX.out.2.cell 10; simpa [pv, pvk] using this)) (fun o1 o2 => mne4 o1 o2 _ _ _) ?_; intro j2 j3 j4 j5 j6; simp only [Act.put, List.setIfInBounds_toArray, List.set_cons_zero, List.set_cons_succ]
    refine Chain.or_l 143 81 75 11 33 31 3 bx (bx + 1) (((((((((((((a.kind : Nat) : Int) != ((b.kind : Nat) : Int)) || (a.frm != b.frm)) || (a.to_ != b.to_)) || (a.req != b.req)) || (!((str a.key).toList == (str b.key).toList))) || (a.ver != b.ver)) || (a.inc != b.inc)) || (a.size != b.size)) || (a.code != b.code)) || (a.node != b.node)) || (a.back != b.back)) (((a.ids.length : Nat) : Int) != ((b.ids.length : Nat) : Int)) (.slice A a.ids.length c) (.slice A' b.ids.length c') (.int .i64 ((a.ids.length : Nat) : Int)) (.int .i64 ((b.ids.length : Nat) : Int)) (by decide) (by decide) (by rfl) (by rfl) (by rfl) (by rfl) (by rfl) (dfld11 _ _) (dfld11 _ _) (ld _ _ Tryd.isAgg31 (by have := HX.out.1.cell 11; simpa [pv, pvk] using this)) (ld _ _ Tryd.isAgg31 (by have := HX.out.2.cell 11; simpa [pv, pvk] using this)) (fun z hz => dlen_ids (x := 0) _ _ _ _ _ _ _ hz) (fun z hz => dlen_ids (x := 0) _ _ _ _ _ _ _ hz) (fun o1 o2 => mne3 o1 o2 _ _ _) ?_; intro j2 j3 j4 j5 j6 j7 j8; simp only [Act.put, List.setIfInBounds_toArray, List.set_cons_zero, List.set_cons_succ]
    refine Chain.or_l 143 90 84 12 33 24 3 bx (bx + 1) ((((((((((((((a.kind : Nat) : Int) != ((b.kind : Nat) : Int)) || (a.frm != b.frm)) || (a.to_ != b.to_)) || (a.req != b.req)) || (!((str a.key).toList == (str b.key).toList))) || (a.ver != b.ver)) || (a.inc != b.inc)) || (a.size != b.size)) || (a.code != b.code)) || (a.node != b.node)) || (a.back != b.back)) || (((a.ids.length : Nat) : Int) != ((b.ids.length : Nat) : Int))) (((a.nodes.length : Nat) : Int) != ((b.nodes.length : Nat) : Int)) (.slice na a.nodes.length nc) (.slice na' b.nodes.length nc') (.int .i64 ((a.nodes.length : Nat) : Int)) (.int .i64 ((b.nodes.length : Nat) : Int)) (by decide) (by decide) (by rfl) (by rfl) (by rfl) (by rfl) (by rfl) (dfld12 _ _) (dfld12 _ _) (ld _ _ Tryd.isAgg24 (by have := HX.out.1.cell 12; simpa [pv, pvk] using this)) (ld _ _ Tryd.isAgg24 (by have := HX.out.2.cell 12; simpa [pv, pvk] using this)) (fun z hz => dlen_ints (x := 0) _ _ _ _ _ _ _ hz) (fun z hz => dlen_ints (x := 0) _ _ _ _ _ _ _ hz) (fun o1 o2 => mne3 o1 o2 _ _ _) ?_; intro j2 j3 j4 j5 j6 j7 j8; simp only [Act.put, List.setIfInBounds_toArray, List.set_cons_zero, List.set_cons_succ]
    refine Chain.or_f 143 99 93 13 33 9 bx (bx + 1) (((((((((((((((a.kind : Nat) : Int) != ((b.kind : Nat) : Int)) || (a.frm != b.frm)) || (a.to_ != b.to_)) || (a.req != b.req)) || (!((str a.key).toList == (str b.key).toList))) || (a.ver != b.ver)) || (a.inc != b.inc)) || (a.size != b.size)) || (a.code != b.code)) || (a.node != b.node)) || (a.back != b.back)) || (((a.ids.length : Nat) : Int) != ((b.ids.length : Nat) : Int))) || (((a.nodes.length : Nat) : Int) != ((b.nodes.length : Nat) : Int))) (!((str a.data).toList == (str b.data).toList)) (.string (str a.data)) (.string (str b.data)) (by decide) (by decide) (by rfl) (by rfl) (by rfl) (by rfl) (by rfl) (dfld13 _ _) (dfld13 _ _) (ld _ _ Tryd.isAgg9 (by have := HX.out.1.cell 13; simpa [pv, pvk] using this)) (ld _ _ Tryd.isAgg9 (by have := HX.out.2.cell 13; simpa [pv, pvk] using this)) (fun o1 o2 => mne9 o1 o2 _ _ _) ?_; intro j2 j3 j4 j5 j6; simp only [Act.put, List.setIfInBounds_toArray, List.set_cons_zero, List.set_cons_succ]; rw [HD.out]
    refine wpList_nil ?_
    simp only [Exit.then]
    go_wp2_with fail
    go_ret
    exact ⟨rfl, HB1.out⟩
end Go.Proofs.YtebdmfmadbikaaaDoor.WiW
