/- Package wire's Same. Printed by gensame17.py. -/
import Derived.Test.YtebdmfmadbikaaaDoorWr2
import Derived.Test.YtebdmfmadbikaaaDoorChain
namespace Go.Proofs.YtebdmfmadbikaaaDoor.WiW
open Go.RowKit Mem Fds FdW Wi
set_option linter.unusedVariables false
set_option linter.unusedSimpArgs false

/-- Where a message's slices begin, and their rooms. -/
structure Sl where
  ia : Option Addr
  ic : Nat
  na : Option Addr
  nc : Nat
  da : Option Addr
  dk : Nat
/-- A message's fourteen cells. -/
def mv (m : Msg) (s : Sl) : Array Value := #[.int .u8 (m.kind : Int), .int .i64 m.frm, .int .i64 m.to_, .int .i64 m.req, .string (str m.key), .int .i64 m.ver, .int .i64 m.inc, .int .i64 m.size, .int .i64 m.code, .int .i64 m.node, .bool m.back,
  .slice s.ia m.ids.length s.ic, .slice s.na m.nodes.length s.nc, .slice s.da m.data.length s.dk]
/-- A message that came in, below B. -/
structure MIn (w : World) (B : Nat) (m : Msg) (s : Sl) : Prop where
  ids : Cells w B s.ia (m.ids.flatMap dc)
  nodes : Cells w B s.na (m.nodes.map iv)
  data : Bytes w B s.da m.data
  kind : m.kind < 256
  lk : m.key.length ≤ 100000000
  li : m.ids.length ≤ 100000000
  ln : m.nodes.length ≤ 100000000
  ld : m.data.length ≤ 100000000
  lik : ∀ x ∈ m.ids, x.1.length ≤ 100000000
theorem MIn.below {w w' : World} {B : Nat} {m : Msg} {s : Sl} (h : MIn w B m s) (hb : Below B w w') : MIn w' B m s := ⟨h.ids.below hb, h.nodes.below hb, h.data.below hb, h.kind, h.lk, h.li, h.ln, h.ld, h.lik⟩
theorem MIn.up {w : World} {B B' : Nat} {m : Msg} {s : Sl} (h : MIn w B m s) (hB : B ≤ B') : MIn w B' m s := ⟨h.ids.up hB, h.nodes.up hB, h.data.up hB, h.kind, h.lk, h.li, h.ln, h.ld, h.lik⟩
theorem MIn.keep {w w' : World} {m : Msg} {s : Sl} (h : MIn w w.heap.size m s) (hb : Below w.heap.size w w') : MIn w' w'.heap.size m s := (h.below hb).up hb.size
theorem i64_beq_nat (a b : Nat) : ((a : Int) == (b : Int)) = decide (a = b) := by
  rw [Bool.eq_iff_iff, beq_iff_eq, decide_eq_true_iff]; omega
theorem int_beq (a b : Int) : (a == b) = decide (a = b) := by rw [Bool.eq_iff_iff, beq_iff_eq, decide_eq_true_iff]
theorem bool_beq (a b : Bool) : (a == b) = decide (a = b) := by rw [Bool.eq_iff_iff, beq_iff_eq, decide_eq_true_iff]
theorem maxLen_ge {n : Nat} (h : n ≤ 100000000) : n ≤ maxLen := by unfold maxLen; omega
theorem ld (P : Program) (T : TypeId) {w : World} {q : Addr} {v : Value} (hT : ∀ w, (isAgg T).run P w = .ok false w) (h : w.cell? q = some v) : (Instr.loadAt T (.pointer (some q))).run P w = .ok v w := by
  simp [go_sem, hT, h]
theorem mfld0 (b : Nat) (w : World) : (Instr.fieldAt 27 (.pointer (some ⟨b, 0, none⟩)) 0).run Tryd.prog w = .ok (.pointer (some ⟨b, 0, none⟩)) w := by kernel_rfl
theorem mfld1 (b : Nat) (w : World) : (Instr.fieldAt 27 (.pointer (some ⟨b, 0, none⟩)) 1).run Tryd.prog w = .ok (.pointer (some ⟨b, 1, none⟩)) w := by kernel_rfl
theorem mfld2 (b : Nat) (w : World) : (Instr.fieldAt 27 (.pointer (some ⟨b, 0, none⟩)) 2).run Tryd.prog w = .ok (.pointer (some ⟨b, 2, none⟩)) w := by kernel_rfl
theorem mfld3 (b : Nat) (w : World) : (Instr.fieldAt 27 (.pointer (some ⟨b, 0, none⟩)) 3).run Tryd.prog w = .ok (.pointer (some ⟨b, 3, none⟩)) w := by kernel_rfl
theorem mfld4 (b : Nat) (w : World) : (Instr.fieldAt 27 (.pointer (some ⟨b, 0, none⟩)) 4).run Tryd.prog w = .ok (.pointer (some ⟨b, 4, none⟩)) w := by kernel_rfl
theorem mfld5 (b : Nat) (w : World) : (Instr.fieldAt 27 (.pointer (some ⟨b, 0, none⟩)) 5).run Tryd.prog w = .ok (.pointer (some ⟨b, 5, none⟩)) w := by kernel_rfl
theorem mfld6 (b : Nat) (w : World) : (Instr.fieldAt 27 (.pointer (some ⟨b, 0, none⟩)) 6).run Tryd.prog w = .ok (.pointer (some ⟨b, 6, none⟩)) w := by kernel_rfl
theorem mfld7 (b : Nat) (w : World) : (Instr.fieldAt 27 (.pointer (some ⟨b, 0, none⟩)) 7).run Tryd.prog w = .ok (.pointer (some ⟨b, 7, none⟩)) w := by kernel_rfl
theorem mfld8 (b : Nat) (w : World) : (Instr.fieldAt 27 (.pointer (some ⟨b, 0, none⟩)) 8).run Tryd.prog w = .ok (.pointer (some ⟨b, 8, none⟩)) w := by kernel_rfl
theorem mfld9 (b : Nat) (w : World) : (Instr.fieldAt 27 (.pointer (some ⟨b, 0, none⟩)) 9).run Tryd.prog w = .ok (.pointer (some ⟨b, 9, none⟩)) w := by kernel_rfl
theorem mfld10 (b : Nat) (w : World) : (Instr.fieldAt 27 (.pointer (some ⟨b, 0, none⟩)) 10).run Tryd.prog w = .ok (.pointer (some ⟨b, 10, none⟩)) w := by kernel_rfl
theorem meq5 (o1 o2 : Operand) (a b : Int) (d : Bool) (hd : (a == b) = d) (w : World) : (do eqGuard .eql 5 o1 o2 (.int .u8 a) (.int .u8 b); binOp .eql 5 (.int .u8 a) (.int .u8 b) : Sem Value).run Tryd.prog w = .ok (.bool d) w := by
  subst hd; simp [go_sem, eqGuard]
theorem meq3 (o1 o2 : Operand) (a b : Int) (d : Bool) (hd : (a == b) = d) (w : World) : (do eqGuard .eql 3 o1 o2 (.int .i64 a) (.int .i64 b); binOp .eql 3 (.int .i64 a) (.int .i64 b) : Sem Value).run Tryd.prog w = .ok (.bool d) w := by
  subst hd; simp [go_sem, eqGuard]
theorem meq2 (o1 o2 : Operand) (a b : Int) (d : Bool) (hd : (a == b) = d) (w : World) : (do eqGuard .eql 2 o1 o2 (.int .i64 a) (.int .i64 b); binOp .eql 2 (.int .i64 a) (.int .i64 b) : Sem Value).run Tryd.prog w = .ok (.bool d) w := by
  subst hd; simp [go_sem, eqGuard]
theorem meq22 (o1 o2 : Operand) (a b : Int) (d : Bool) (hd : (a == b) = d) (w : World) : (do eqGuard .eql 22 o1 o2 (.int .i64 a) (.int .i64 b); binOp .eql 22 (.int .i64 a) (.int .i64 b) : Sem Value).run Tryd.prog w = .ok (.bool d) w := by
  subst hd; simp [go_sem, eqGuard]
theorem meq9 (o1 o2 : Operand) (a b : ByteArray) (d : Bool) (hd : (a.toList == b.toList) = d) (w : World) : (do eqGuard .eql 9 o1 o2 (.string a) (.string b); binOp .eql 9 (.string a) (.string b) : Sem Value).run Tryd.prog w = .ok (.bool d) w := by
  subst hd; simp [go_sem, eqGuard]
theorem meq4 (o1 o2 : Operand) (a b : Bool) (d : Bool) (hd : (a == b) = d) (w : World) : (do eqGuard .eql 4 o1 o2 (.bool a) (.bool b); binOp .eql 4 (.bool a) (.bool b) : Sem Value).run Tryd.prog w = .ok (.bool d) w := by
  have u4 := Tryd.underlying4
  subst hd; simp [go_sem, eqGuard, u4]
theorem cut2 {P : Program} {Q : Exit → Act → World → Prop} {a : Act} {w : World} {x y z : Code} (M : Act → World → Prop) (h : ∀ C : Code, (∀ a w, M a w → C.wp P Q a w) → (x.seq (y.seq C)).wp P Q a w) (hz : ∀ a w, M a w → z.wp P Q a w) : (x.seq (y.seq z)).wp P Q a w := h z hz
def boxesOk (w W : World) (a b : Msg) (s t : Sl) : Prop := Blk W w.heap.size 27 (mv a s) ∧ Blk W (w.heap.size + 1) 27 (mv b t)
set_option maxRecDepth 100000 in
set_option maxHeartbeats 8000000 in
theorem same_any (w : World) (a b : Msg) (s t : Sl) (hA : MIn w w.heap.size a s) (hB : MIn w w.heap.size b t) : Calls Tryd.prog 18 #[.agg (mv a s), .agg (mv b t)] w fun e w' => e = .returned (.bool (same a b)) ∧ Below w.heap.size w w' := by
  obtain ⟨w0, hw0⟩ : ∃ x : World, (w.alloc (.cells (mv a s) 27)).alloc (.cells (mv b t) 27) = x := ⟨_, rfl⟩
  have hb0 : Below w.heap.size w w0 := by rw [← hw0]; exact nextA (nextA (Mem.start w) _) _
  have HN0 := Lib.hid hb0
  have HI0 := Lib.hid (And.intro (hA.keep hb0) (hB.keep hb0))
  have HX0 := Lib.hid (show boxesOk w w0 a b s t by
    rw [← hw0]
    refine ⟨(Blk.new w _ _).keep (nextA (Mem.start _) _), ?_⟩
    have := Blk.new (w.alloc (.cells (mv a s) 27)) 27 (mv b t)
    simpa using this)
  have HKEEP := Lib.hid (show ∀ W W', boxesOk w W a b s t → Below W.heap.size W W' → boxesOk w W' a b s t from fun W W' h hb => ⟨h.1.keep hb, h.2.keep hb⟩)
  clear hA hB hb0
  have ca11 := HX0.out.1.cell 11
  have cb11 := HX0.out.2.cell 11
  simp [mv] at ca11 cb11
  go_enter Tryd.func18, Tryd.ntmps18
  refine cut2 (fun a' W => a'.tmps.size = 103 ∧ a'.defers = [] ∧ a'.eval (.tmp 2) = .pointer (some ⟨w.heap.size, 0, none⟩) ∧ a'.eval (.tmp 3) = .pointer (some ⟨w.heap.size + 1, 0, none⟩) ∧ a'.eval (.tmp 5) = .bool (decide (a.ids = b.ids) && decide (a.nodes = b.nodes) && decide (a.data = b.data)) ∧ boxesOk w W a b s t ∧ Below w.heap.size w W) ?_ ?_
  · intro C hC
    have HC := Lib.hid hC
    clear hC
    rcases Classical.em (a.ids = b.ids) with E | E <;> have E0 := Lib.hid E <;> clear E
    rotate_left
    · go_wp2_with fail
      refine (eqD_any _ _ _ _ _ _ _ _ _ rfl rfl HI0.out.1.ids HI0.out.2.ids (maxLen_ge HI0.out.1.li)).mono ?_
      rintro e w1 ⟨rfl, hb⟩
      clear ca11 cb11 hw0
      have HI1 := Lib.hid (And.intro (HI0.out.1.keep hb) (HI0.out.2.keep hb))
      have HN1 := Lib.hid (next HN0.out hb)
      have HX1 := Lib.hid (HKEEP.out _ _ HX0.out hb)
      clear hb
      rw [show decide (a.ids = b.ids) = false from decide_eq_false E0.out]
      go_wp2_with fail
      refine HC.out _ _ ⟨?_, ?_, ?_, ?_, ?_, HX1.out, HN1.out⟩
      · simp only [List.size_toArray, List.length_cons, List.length_nil]
      · rfl
      · simp [Act.eval]
      · simp [Act.eval]
      · simp [Act.eval, E0.out]
    rcases Classical.em (a.nodes = b.nodes) with E | E <;> have E1 := Lib.hid E <;> clear E
    rotate_left
    · go_wp2_with fail
      refine (eqD_any _ _ _ _ _ _ _ _ _ rfl rfl HI0.out.1.ids HI0.out.2.ids (maxLen_ge HI0.out.1.li)).mono ?_
      rintro e w1 ⟨rfl, hb⟩
      clear ca11 cb11 hw0
      have HI1 := Lib.hid (And.intro (HI0.out.1.keep hb) (HI0.out.2.keep hb))
      have HN1 := Lib.hid (next HN0.out hb)
      have HX1 := Lib.hid (HKEEP.out _ _ HX0.out hb)
      clear hb
      have ca12 := HX1.out.1.cell 12
      have cb12 := HX1.out.2.cell 12
      simp [mv] at ca12 cb12
      rw [show decide (a.ids = b.ids) = true from decide_eq_true E0.out]
      go_wp2_with fail
      refine (eqI_any _ _ _ _ _ _ _ _ _ rfl rfl HI1.out.1.nodes HI1.out.2.nodes (maxLen_ge HI1.out.1.ln)).mono ?_
      rintro e w2 ⟨rfl, hb⟩
      clear ca12 cb12
      have HI2 := Lib.hid (And.intro (HI1.out.1.keep hb) (HI1.out.2.keep hb))
      have HN2 := Lib.hid (next HN1.out hb)
      have HX2 := Lib.hid (HKEEP.out _ _ HX1.out hb)
      clear hb
      rw [show decide (a.nodes = b.nodes) = false from decide_eq_false E1.out]
      go_wp2_with fail
      refine HC.out _ _ ⟨?_, ?_, ?_, ?_, ?_, HX2.out, HN2.out⟩
      · simp only [List.size_toArray, List.length_cons, List.length_nil]
      · rfl
      · simp [Act.eval]
      · simp [Act.eval]
      · simp [Act.eval, E0.out, E1.out]
    rcases Classical.em (a.data = b.data) with E | E <;> have E2 := Lib.hid E <;> clear E
    rotate_left
    · go_wp2_with fail
      refine (eqD_any _ _ _ _ _ _ _ _ _ rfl rfl HI0.out.1.ids HI0.out.2.ids (maxLen_ge HI0.out.1.li)).mono ?_
      rintro e w1 ⟨rfl, hb⟩
      clear ca11 cb11 hw0
      have HI1 := Lib.hid (And.intro (HI0.out.1.keep hb) (HI0.out.2.keep hb))
      have HN1 := Lib.hid (next HN0.out hb)
      have HX1 := Lib.hid (HKEEP.out _ _ HX0.out hb)
      clear hb
      have ca12 := HX1.out.1.cell 12
      have cb12 := HX1.out.2.cell 12
      simp [mv] at ca12 cb12
      rw [show decide (a.ids = b.ids) = true from decide_eq_true E0.out]
      go_wp2_with fail
      refine (eqI_any _ _ _ _ _ _ _ _ _ rfl rfl HI1.out.1.nodes HI1.out.2.nodes (maxLen_ge HI1.out.1.ln)).mono ?_
      rintro e w2 ⟨rfl, hb⟩
      clear ca12 cb12
      have HI2 := Lib.hid (And.intro (HI1.out.1.keep hb) (HI1.out.2.keep hb))
      have HN2 := Lib.hid (next HN1.out hb)
      have HX2 := Lib.hid (HKEEP.out _ _ HX1.out hb)
      clear hb
      have ca13 := HX2.out.1.cell 13
      have cb13 := HX2.out.2.cell 13
      simp [mv] at ca13 cb13
      rw [show decide (a.nodes = b.nodes) = true from decide_eq_true E1.out]
      go_wp2_with fail
      refine (eqB_any _ _ _ _ _ _ _ _ _ rfl rfl HI2.out.1.data HI2.out.2.data (maxLen_ge HI2.out.1.ld)).mono ?_
      rintro e w3 ⟨rfl, hb⟩
      clear ca13 cb13
      have HI3 := Lib.hid (And.intro (HI2.out.1.keep hb) (HI2.out.2.keep hb))
      have HN3 := Lib.hid (next HN2.out hb)
      have HX3 := Lib.hid (HKEEP.out _ _ HX2.out hb)
      clear hb
      rw [show decide (a.data = b.data) = false from decide_eq_false E2.out]
      go_wp2_with fail
      refine HC.out _ _ ⟨?_, ?_, ?_, ?_, ?_, HX3.out, HN3.out⟩
      · simp only [List.size_toArray, List.length_cons, List.length_nil]
      · rfl
      · simp [Act.eval]
      · simp [Act.eval]
      · simp [Act.eval, E0.out, E1.out, E2.out]
    go_wp2_with fail
    refine (eqD_any _ _ _ _ _ _ _ _ _ rfl rfl HI0.out.1.ids HI0.out.2.ids (maxLen_ge HI0.out.1.li)).mono ?_
    rintro e w1 ⟨rfl, hb⟩
    clear ca11 cb11 hw0
    have HI1 := Lib.hid (And.intro (HI0.out.1.keep hb) (HI0.out.2.keep hb))
    have HN1 := Lib.hid (next HN0.out hb)
    have HX1 := Lib.hid (HKEEP.out _ _ HX0.out hb)
    clear hb
    have ca12 := HX1.out.1.cell 12
    have cb12 := HX1.out.2.cell 12
    simp [mv] at ca12 cb12
    rw [show decide (a.ids = b.ids) = true from decide_eq_true E0.out]
    go_wp2_with fail
    refine (eqI_any _ _ _ _ _ _ _ _ _ rfl rfl HI1.out.1.nodes HI1.out.2.nodes (maxLen_ge HI1.out.1.ln)).mono ?_
    rintro e w2 ⟨rfl, hb⟩
    clear ca12 cb12
    have HI2 := Lib.hid (And.intro (HI1.out.1.keep hb) (HI1.out.2.keep hb))
    have HN2 := Lib.hid (next HN1.out hb)
    have HX2 := Lib.hid (HKEEP.out _ _ HX1.out hb)
    clear hb
    have ca13 := HX2.out.1.cell 13
    have cb13 := HX2.out.2.cell 13
    simp [mv] at ca13 cb13
    rw [show decide (a.nodes = b.nodes) = true from decide_eq_true E1.out]
    go_wp2_with fail
    refine (eqB_any _ _ _ _ _ _ _ _ _ rfl rfl HI2.out.1.data HI2.out.2.data (maxLen_ge HI2.out.1.ld)).mono ?_
    rintro e w3 ⟨rfl, hb⟩
    clear ca13 cb13
    have HI3 := Lib.hid (And.intro (HI2.out.1.keep hb) (HI2.out.2.keep hb))
    have HN3 := Lib.hid (next HN2.out hb)
    have HX3 := Lib.hid (HKEEP.out _ _ HX2.out hb)
    clear hb
    rw [show decide (a.data = b.data) = true from decide_eq_true E2.out]
    go_wp2_with fail
    refine HC.out _ _ ⟨?_, ?_, ?_, ?_, ?_, HX3.out, HN3.out⟩
    · simp only [List.size_toArray, List.length_cons, List.length_nil]
    · rfl
    · simp [Act.eval]
    · simp [Act.eval]
    · simp [Act.eval, E0.out, E1.out, E2.out]
  · clear ca11 cb11 hw0
    rintro a' W ⟨hs, hd, e2, e3, e5, hX, hN⟩
    have HX := Lib.hid hX
    refine wp_seq ?_
    refine wp_region_lit ?_
    refine Chain.step_on (d := 25) rfl (by simp [Region.wanted]) (v := .bool (decide (a.ids = b.ids) && decide (a.nodes = b.nodes) && decide (a.data = b.data))) (by rw [← e5]; rfl) ?_
    have ht : Chain.Ready (a'.put (some 25) (.bool (decide (a.ids = b.ids) && decide (a.nodes = b.nodes) && decide (a.data = b.data)))) 103 25 (decide (a.ids = b.ids) && decide (a.nodes = b.nodes) && decide (a.data = b.data)) w.heap.size (w.heap.size + 1) := ⟨by rw [Chain.size_put, hs], hd, by rw [Chain.eval_ne (by decide), e2], by rw [Chain.eval_ne (by decide), e3], by rw [Chain.eval_eq (by rw [hs]; decide)]⟩
    refine Chain.wp_grp 103 25 1 0 27 5 w.heap.size (w.heap.size + 1) (decide (a.ids = b.ids) && decide (a.nodes = b.nodes) && decide (a.data = b.data)) (decide (a.kind = b.kind)) (.int .u8 (a.kind : Int)) (.int .u8 (b.kind : Int)) (by decide) (by decide) ht (by rfl) (mfld0 _ _) (mfld0 _ _) (ld _ _ Tryd.isAgg5 (by have := HX.out.1.cell 0; simpa [mv] using this)) (ld _ _ Tryd.isAgg5 (by have := HX.out.2.cell 0; simpa [mv] using this)) (fun o1 o2 => meq5 o1 o2 _ _ _ (i64_beq_nat a.kind b.kind) _) ?_
    clear ht
    intro a0 ht
    refine Chain.wp_grp 103 32 8 1 27 3 w.heap.size (w.heap.size + 1) (decide (a.ids = b.ids) && decide (a.nodes = b.nodes) && decide (a.data = b.data) && decide (a.kind = b.kind)) (decide (a.frm = b.frm)) (.int .i64 a.frm) (.int .i64 b.frm) (by decide) (by decide) ht (by rfl) (mfld1 _ _) (mfld1 _ _) (ld _ _ Tryd.isAgg3 (by have := HX.out.1.cell 1; simpa [mv] using this)) (ld _ _ Tryd.isAgg3 (by have := HX.out.2.cell 1; simpa [mv] using this)) (fun o1 o2 => meq3 o1 o2 _ _ _ (int_beq a.frm b.frm) _) ?_
    clear ht
    intro a1 ht
    refine Chain.wp_grp 103 39 15 2 27 3 w.heap.size (w.heap.size + 1) (decide (a.ids = b.ids) && decide (a.nodes = b.nodes) && decide (a.data = b.data) && decide (a.kind = b.kind) && decide (a.frm = b.frm)) (decide (a.to_ = b.to_)) (.int .i64 a.to_) (.int .i64 b.to_) (by decide) (by decide) ht (by rfl) (mfld2 _ _) (mfld2 _ _) (ld _ _ Tryd.isAgg3 (by have := HX.out.1.cell 2; simpa [mv] using this)) (ld _ _ Tryd.isAgg3 (by have := HX.out.2.cell 2; simpa [mv] using this)) (fun o1 o2 => meq3 o1 o2 _ _ _ (int_beq a.to_ b.to_) _) ?_
    clear ht
    intro a2 ht
    refine Chain.wp_grp 103 46 22 3 27 2 w.heap.size (w.heap.size + 1) (decide (a.ids = b.ids) && decide (a.nodes = b.nodes) && decide (a.data = b.data) && decide (a.kind = b.kind) && decide (a.frm = b.frm) && decide (a.to_ = b.to_)) (decide (a.req = b.req)) (.int .i64 a.req) (.int .i64 b.req) (by decide) (by decide) ht (by rfl) (mfld3 _ _) (mfld3 _ _) (ld _ _ Tryd.isAgg2 (by have := HX.out.1.cell 3; simpa [mv] using this)) (ld _ _ Tryd.isAgg2 (by have := HX.out.2.cell 3; simpa [mv] using this)) (fun o1 o2 => meq2 o1 o2 _ _ _ (int_beq a.req b.req) _) ?_
    clear ht
    intro a3 ht
    refine Chain.wp_grp 103 53 29 4 27 9 w.heap.size (w.heap.size + 1) (decide (a.ids = b.ids) && decide (a.nodes = b.nodes) && decide (a.data = b.data) && decide (a.kind = b.kind) && decide (a.frm = b.frm) && decide (a.to_ = b.to_) && decide (a.req = b.req)) (decide (a.key = b.key)) (.string (str a.key)) (.string (str b.key)) (by decide) (by decide) ht (by rfl) (mfld4 _ _) (mfld4 _ _) (ld _ _ Tryd.isAgg9 (by have := HX.out.1.cell 4; simpa [mv] using this)) (ld _ _ Tryd.isAgg9 (by have := HX.out.2.cell 4; simpa [mv] using this)) (fun o1 o2 => meq9 o1 o2 _ _ _ (str_beq a.key b.key) _) ?_
    clear ht
    intro a4 ht
    refine Chain.wp_grp 103 60 36 5 27 2 w.heap.size (w.heap.size + 1) (decide (a.ids = b.ids) && decide (a.nodes = b.nodes) && decide (a.data = b.data) && decide (a.kind = b.kind) && decide (a.frm = b.frm) && decide (a.to_ = b.to_) && decide (a.req = b.req) && decide (a.key = b.key)) (decide (a.ver = b.ver)) (.int .i64 a.ver) (.int .i64 b.ver) (by decide) (by decide) ht (by rfl) (mfld5 _ _) (mfld5 _ _) (ld _ _ Tryd.isAgg2 (by have := HX.out.1.cell 5; simpa [mv] using this)) (ld _ _ Tryd.isAgg2 (by have := HX.out.2.cell 5; simpa [mv] using this)) (fun o1 o2 => meq2 o1 o2 _ _ _ (int_beq a.ver b.ver) _) ?_
    clear ht
    intro a5 ht
    refine Chain.wp_grp 103 67 43 6 27 2 w.heap.size (w.heap.size + 1) (decide (a.ids = b.ids) && decide (a.nodes = b.nodes) && decide (a.data = b.data) && decide (a.kind = b.kind) && decide (a.frm = b.frm) && decide (a.to_ = b.to_) && decide (a.req = b.req) && decide (a.key = b.key) && decide (a.ver = b.ver)) (decide (a.inc = b.inc)) (.int .i64 a.inc) (.int .i64 b.inc) (by decide) (by decide) ht (by rfl) (mfld6 _ _) (mfld6 _ _) (ld _ _ Tryd.isAgg2 (by have := HX.out.1.cell 6; simpa [mv] using this)) (ld _ _ Tryd.isAgg2 (by have := HX.out.2.cell 6; simpa [mv] using this)) (fun o1 o2 => meq2 o1 o2 _ _ _ (int_beq a.inc b.inc) _) ?_
    clear ht
    intro a6 ht
    refine Chain.wp_grp 103 74 50 7 27 3 w.heap.size (w.heap.size + 1) (decide (a.ids = b.ids) && decide (a.nodes = b.nodes) && decide (a.data = b.data) && decide (a.kind = b.kind) && decide (a.frm = b.frm) && decide (a.to_ = b.to_) && decide (a.req = b.req) && decide (a.key = b.key) && decide (a.ver = b.ver) && decide (a.inc = b.inc)) (decide (a.size = b.size)) (.int .i64 a.size) (.int .i64 b.size) (by decide) (by decide) ht (by rfl) (mfld7 _ _) (mfld7 _ _) (ld _ _ Tryd.isAgg3 (by have := HX.out.1.cell 7; simpa [mv] using this)) (ld _ _ Tryd.isAgg3 (by have := HX.out.2.cell 7; simpa [mv] using this)) (fun o1 o2 => meq3 o1 o2 _ _ _ (int_beq a.size b.size) _) ?_
    clear ht
    intro a7 ht
    refine Chain.wp_grp 103 81 57 8 27 22 w.heap.size (w.heap.size + 1) (decide (a.ids = b.ids) && decide (a.nodes = b.nodes) && decide (a.data = b.data) && decide (a.kind = b.kind) && decide (a.frm = b.frm) && decide (a.to_ = b.to_) && decide (a.req = b.req) && decide (a.key = b.key) && decide (a.ver = b.ver) && decide (a.inc = b.inc) && decide (a.size = b.size)) (decide (a.code = b.code)) (.int .i64 a.code) (.int .i64 b.code) (by decide) (by decide) ht (by rfl) (mfld8 _ _) (mfld8 _ _) (ld _ _ Tryd.isAgg22 (by have := HX.out.1.cell 8; simpa [mv] using this)) (ld _ _ Tryd.isAgg22 (by have := HX.out.2.cell 8; simpa [mv] using this)) (fun o1 o2 => meq22 o1 o2 _ _ _ (int_beq a.code b.code) _) ?_
    clear ht
    intro a8 ht
    refine Chain.wp_grp 103 88 64 9 27 3 w.heap.size (w.heap.size + 1) (decide (a.ids = b.ids) && decide (a.nodes = b.nodes) && decide (a.data = b.data) && decide (a.kind = b.kind) && decide (a.frm = b.frm) && decide (a.to_ = b.to_) && decide (a.req = b.req) && decide (a.key = b.key) && decide (a.ver = b.ver) && decide (a.inc = b.inc) && decide (a.size = b.size) && decide (a.code = b.code)) (decide (a.node = b.node)) (.int .i64 a.node) (.int .i64 b.node) (by decide) (by decide) ht (by rfl) (mfld9 _ _) (mfld9 _ _) (ld _ _ Tryd.isAgg3 (by have := HX.out.1.cell 9; simpa [mv] using this)) (ld _ _ Tryd.isAgg3 (by have := HX.out.2.cell 9; simpa [mv] using this)) (fun o1 o2 => meq3 o1 o2 _ _ _ (int_beq a.node b.node) _) ?_
    clear ht
    intro a9 ht
    refine Chain.wp_grp 103 95 71 10 27 4 w.heap.size (w.heap.size + 1) (decide (a.ids = b.ids) && decide (a.nodes = b.nodes) && decide (a.data = b.data) && decide (a.kind = b.kind) && decide (a.frm = b.frm) && decide (a.to_ = b.to_) && decide (a.req = b.req) && decide (a.key = b.key) && decide (a.ver = b.ver) && decide (a.inc = b.inc) && decide (a.size = b.size) && decide (a.code = b.code) && decide (a.node = b.node)) (decide (a.back = b.back)) (.bool a.back) (.bool b.back) (by decide) (by decide) ht (by rfl) (mfld10 _ _) (mfld10 _ _) (ld _ _ Tryd.isAgg4 (by have := HX.out.1.cell 10; simpa [mv] using this)) (ld _ _ Tryd.isAgg4 (by have := HX.out.2.cell 10; simpa [mv] using this)) (fun o1 o2 => meq4 o1 o2 _ _ _ (bool_beq a.back b.back) _) ?_
    clear ht
    intro a10 ht
    obtain ⟨g1, g2, g3, g4, g5⟩ := ht
    refine Chain.step_on (d := 4) rfl (by simp [Region.wanted]) (v := .bool (same a b)) (by rw [show (Value.bool (same a b)) = a10.eval (.tmp 102) from g5.symm]; rfl) ?_
    refine wpList_nil ?_
    refine wp_ret ?_
    refine bodyPost_ret (v := .bool (same a b)) ?_ g2 ⟨rfl, hN⟩
    have e4 : (a10.put (some 4) (.bool (same a b))).tmps.getD 4 undef = .bool (same a b) := Chain.eval_eq (by rw [g1]; decide)
    simp [results, Tryd.results18, go_sem]
    intro h
    rw [g1] at h
    exact absurd h (by decide)
end Go.Proofs.YtebdmfmadbikaaaDoor.WiW
