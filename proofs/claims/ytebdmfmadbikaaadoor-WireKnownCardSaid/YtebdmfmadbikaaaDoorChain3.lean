/- A long row of tests on one box (slot 1), each made only where it is wanted: or1, or2 (a row of ||; one or two operations behind the load), and1, and2 (a row of &&, each test 'has it || is nothing'). Printed by gench3.py. -/
import Derived.Test.YtebdmfmadbikaaaDoorChain
namespace Go.Proofs.YtebdmfmadbikaaaDoor.Chain
open Go.RowKit
set_option linter.unusedVariables false
variable {P : Program} {ops : Array Oper} {Q : Exit → Act → World → Prop} {a : Act} {w : World} {rest : List Oper}

theorem step_wp {o : Oper} (hg : Region.wanted o (yielded ops a.tmps) = true) (h : Oper.wp P o a w (wpList P ops Q rest) Q) : wpList P ops Q (o :: rest) a w := by
  rw [wpList, if_pos hg]
  left
  exact h
theorem op_wp {o : Oper} {v : Value} {K : Act → World → Prop} (hr : (execOp a.eval o).run P w = .ok (.value v) w) (h : K (a.put o.dst v) w) : Oper.wp P o a w K Q := by
  unfold Oper.wp
  rw [hr]
  exact h
theorem step_offU {o : Oper} {d m g : Nat} {b : Bool} (hd : o.dst = some d) (hgd : o.guard = some (g, b)) (hg : (ops[g]?).bind (·.dst) = some m) (hm : m < a.tmps.size) (hu : a.eval (.tmp m) = undef) (h : wpList P ops Q rest (a.put (some d) undef) w) : wpList P ops Q (o :: rest) a w := by
  refine step_off hd ?_ h
  have : yielded ops a.tmps g = none := by
    unfold yielded
    rw [hg]
    simp only [Act.eval, Array.getD_eq_getD_getElem?] at hu
    simp only [Option.bind_some]
    rw [Array.getElem?_eq_getElem hm] at hu ⊢
    simp only [Option.getD_some] at hu
    rw [hu]; rfl
  simp [Region.wanted, hgd, this]
theorem or1 (N p g fi x : Nat) (T TL : TypeId) (c d : Bool) (v1 : Value) (hN : p + 5 < N) (hp : 1 < p) (hs : a.tmps.size = N) (e1 : a.eval (.tmp 1) = .pointer (some ⟨x, 0, none⟩)) (ep : a.eval (.tmp p) = .bool c) (hg : (ops[g]?).bind (·.dst) = some (p + 1))
    (hx : (Instr.fieldAt T (.pointer (some ⟨x, 0, none⟩)) fi).run P w = .ok (.pointer (some ⟨x, fi, none⟩)) w) (h1 : (Instr.loadAt TL (.pointer (some ⟨x, fi, none⟩))).run P w = .ok v1 w)
    {op4 : Op} {t0 t2 t3 t4 t5 : TypeId} {p0 p2 p3 p4 p5 : String} {f0 f2 f3 f4 f5 : Array Edge}
    (hm4 : ∀ (b : Act) (K : Act → World → Prop), b.eval (.tmp (p + 3)) = v1 → K (b.put (some (p + 4)) (.bool d)) w → Oper.wp P ⟨some (p + 4), op4, t4, p4, f4, some (g, false)⟩ b w K Q)
    (h0 : ∀ j2 j3 j4 : Value, wpList P ops Q rest (((((a.put (some (p + 1)) (.bool c)).put (some (p + 2)) j2).put (some (p + 3)) j3).put (some (p + 4)) j4).put (some (p + 5)) (.bool (c || d))) w) :
    wpList P ops Q (⟨some (p + 1), .move (.tmp p), t0, p0, f0, none⟩ :: ⟨some (p + 2), .fieldAddr T (.tmp 1) fi, t2, p2, f2, some (g, false)⟩ :: ⟨some (p + 3), .load TL (.tmp (p + 2)), t3, p3, f3, some (g, false)⟩ :: ⟨some (p + 4), op4, t4, p4, f4, some (g, false)⟩ :: ⟨some (p + 5), .pick (.tmp (p + 1)) (.const (.bool true)) (.tmp (p + 4)), t5, p5, f5, none⟩ :: rest) a w := by
  have hw : ∀ (b : Act) (u v : Bool) {o : Oper}, o.guard = some (g, v) → b.tmps.size = N → b.eval (.tmp (p + 1)) = .bool u → Region.wanted o (yielded ops b.tmps) = (u == v) := by
    intro b u v o ho hb hv
    have := yielded_bool (ops := ops) (a := b) hg (by rw [hb]; omega) hv
    simp only [Region.wanted, ho, this]
    cases u <;> cases v <;> rfl
  refine step_on (d := p + 1) rfl (by simp [Region.wanted]) (v := .bool c) (by rw [← ep]; rfl) ?_
  obtain ⟨b1, hb1⟩ : ∃ b1, a.put (some (p + 1)) (.bool c) = b1 := ⟨_, rfl⟩
  rw [hb1]
  have s1 : b1.tmps.size = N := by rw [← hb1, size_put, hs]
  have m1 : b1.eval (.tmp (p + 1)) = .bool c := by rw [← hb1, eval_eq (by omega)]
  have x1 : b1.eval (.tmp 1) = .pointer (some ⟨x, 0, none⟩) := by rw [← hb1, eval_ne (by omega), e1]
  cases c
  · skip
    refine step_on (d := p + 2) rfl (by rw [hw b1 false false rfl s1 m1]; rfl) (v := .pointer (some ⟨x, fi, none⟩)) (by simp [execOp, x1, hx]) ?_
    obtain ⟨b2, hb2⟩ : ∃ b, b1.put (some (p + 2)) (.pointer (some ⟨x, fi, none⟩)) = b := ⟨_, rfl⟩
    rw [hb2]
    have s2 : b2.tmps.size = N := by rw [← hb2, size_put, s1]
    have m1 : b2.eval (.tmp (p + 1)) = .bool false := by rw [← hb2, eval_ne (by omega), m1]
    have x1 : b2.eval (.tmp 1) = .pointer (some ⟨x, 0, none⟩) := by rw [← hb2, eval_ne (by omega), x1]
    have r2 : b2.eval (.tmp (p + 2)) = .pointer (some ⟨x, fi, none⟩) := by rw [← hb2, eval_eq (by omega)]
    refine step_on (d := p + 3) rfl (by rw [hw b2 false false rfl s2 m1]; rfl) (v := v1) (by simp [execOp, r2, h1]) ?_
    obtain ⟨b3, hb3⟩ : ∃ b, b2.put (some (p + 3)) (v1) = b := ⟨_, rfl⟩
    rw [hb3]
    have s3 : b3.tmps.size = N := by rw [← hb3, size_put, s2]
    have m1 : b3.eval (.tmp (p + 1)) = .bool false := by rw [← hb3, eval_ne (by omega), m1]
    have x1 : b3.eval (.tmp 1) = .pointer (some ⟨x, 0, none⟩) := by rw [← hb3, eval_ne (by omega), x1]
    have r2 : b3.eval (.tmp (p + 2)) = .pointer (some ⟨x, fi, none⟩) := by rw [← hb3, eval_ne (by omega), r2]
    have r3 : b3.eval (.tmp (p + 3)) = v1 := by rw [← hb3, eval_eq (by omega)]
    refine step_wp (by rw [hw b3 false false rfl s3 m1]; rfl) (hm4 b3 _ r3 ?_)
    show wpList P ops Q _ (b3.put (some (p + 4)) ((.bool d))) w
    obtain ⟨b4, hb4⟩ : ∃ b, b3.put (some (p + 4)) ((.bool d)) = b := ⟨_, rfl⟩
    rw [hb4]
    have s4 : b4.tmps.size = N := by rw [← hb4, size_put, s3]
    have m1 : b4.eval (.tmp (p + 1)) = .bool false := by rw [← hb4, eval_ne (by omega), m1]
    have x1 : b4.eval (.tmp 1) = .pointer (some ⟨x, 0, none⟩) := by rw [← hb4, eval_ne (by omega), x1]
    have r2 : b4.eval (.tmp (p + 2)) = .pointer (some ⟨x, fi, none⟩) := by rw [← hb4, eval_ne (by omega), r2]
    have r3 : b4.eval (.tmp (p + 3)) = v1 := by rw [← hb4, eval_ne (by omega), r3]
    have r4 : b4.eval (.tmp (p + 4)) = (.bool d) := by rw [← hb4, eval_eq (by omega)]
    refine step_on (d := p + 5) rfl (by simp [Region.wanted]) (v := .bool d) ?_ ?_
    · show (do pure (Next.value (if ← asBool (b4.eval (.tmp (p + 1))) then .bool true else b4.eval (.tmp (p + 4)))) : Sem Next).run P w = _
      rw [m1, r4]; rfl
    obtain ⟨b5, hb5⟩ : ∃ b, b4.put (some (p + 5)) (.bool d) = b := ⟨_, rfl⟩
    rw [hb5]
    have s5 : b5.tmps.size = N := by rw [← hb5, size_put, s4]
    have m1 : b5.eval (.tmp (p + 1)) = .bool false := by rw [← hb5, eval_ne (by omega), m1]
    have x1 : b5.eval (.tmp 1) = .pointer (some ⟨x, 0, none⟩) := by rw [← hb5, eval_ne (by omega), x1]
    have r2 : b5.eval (.tmp (p + 2)) = .pointer (some ⟨x, fi, none⟩) := by rw [← hb5, eval_ne (by omega), r2]
    have r3 : b5.eval (.tmp (p + 3)) = v1 := by rw [← hb5, eval_ne (by omega), r3]
    have r4 : b5.eval (.tmp (p + 4)) = (.bool d) := by rw [← hb5, eval_ne (by omega), r4]
    have r5 : b5.eval (.tmp (p + 5)) = .bool d := by rw [← hb5, eval_eq (by omega)]
    have hz := h0 (.pointer (some ⟨x, fi, none⟩)) (v1) ((.bool d))
    rw [hb1, hb2, hb3, hb4] at hz
    rw [← hb5]
    exact hz
  · skip
    refine step_off (d := p + 2) rfl (by rw [hw b1 true false rfl s1 m1]; rfl) ?_
    obtain ⟨b2, hb2⟩ : ∃ b, b1.put (some (p + 2)) (undef) = b := ⟨_, rfl⟩
    rw [hb2]
    have s2 : b2.tmps.size = N := by rw [← hb2, size_put, s1]
    have m1 : b2.eval (.tmp (p + 1)) = .bool true := by rw [← hb2, eval_ne (by omega), m1]
    have x1 : b2.eval (.tmp 1) = .pointer (some ⟨x, 0, none⟩) := by rw [← hb2, eval_ne (by omega), x1]
    have r2 : b2.eval (.tmp (p + 2)) = undef := by rw [← hb2, eval_eq (by omega)]
    refine step_off (d := p + 3) rfl (by rw [hw b2 true false rfl s2 m1]; rfl) ?_
    obtain ⟨b3, hb3⟩ : ∃ b, b2.put (some (p + 3)) (undef) = b := ⟨_, rfl⟩
    rw [hb3]
    have s3 : b3.tmps.size = N := by rw [← hb3, size_put, s2]
    have m1 : b3.eval (.tmp (p + 1)) = .bool true := by rw [← hb3, eval_ne (by omega), m1]
    have x1 : b3.eval (.tmp 1) = .pointer (some ⟨x, 0, none⟩) := by rw [← hb3, eval_ne (by omega), x1]
    have r2 : b3.eval (.tmp (p + 2)) = undef := by rw [← hb3, eval_ne (by omega), r2]
    have r3 : b3.eval (.tmp (p + 3)) = undef := by rw [← hb3, eval_eq (by omega)]
    refine step_off (d := p + 4) rfl (by rw [hw b3 true false rfl s3 m1]; rfl) ?_
    obtain ⟨b4, hb4⟩ : ∃ b, b3.put (some (p + 4)) (undef) = b := ⟨_, rfl⟩
    rw [hb4]
    have s4 : b4.tmps.size = N := by rw [← hb4, size_put, s3]
    have m1 : b4.eval (.tmp (p + 1)) = .bool true := by rw [← hb4, eval_ne (by omega), m1]
    have x1 : b4.eval (.tmp 1) = .pointer (some ⟨x, 0, none⟩) := by rw [← hb4, eval_ne (by omega), x1]
    have r2 : b4.eval (.tmp (p + 2)) = undef := by rw [← hb4, eval_ne (by omega), r2]
    have r3 : b4.eval (.tmp (p + 3)) = undef := by rw [← hb4, eval_ne (by omega), r3]
    have r4 : b4.eval (.tmp (p + 4)) = undef := by rw [← hb4, eval_eq (by omega)]
    refine step_on (d := p + 5) rfl (by simp [Region.wanted]) (v := .bool true) ?_ ?_
    · show (do pure (Next.value (if ← asBool (b4.eval (.tmp (p + 1))) then .bool true else b4.eval (.tmp (p + 4)))) : Sem Next).run P w = _
      rw [m1]; rfl
    obtain ⟨b5, hb5⟩ : ∃ b, b4.put (some (p + 5)) (.bool true) = b := ⟨_, rfl⟩
    rw [hb5]
    have s5 : b5.tmps.size = N := by rw [← hb5, size_put, s4]
    have m1 : b5.eval (.tmp (p + 1)) = .bool true := by rw [← hb5, eval_ne (by omega), m1]
    have x1 : b5.eval (.tmp 1) = .pointer (some ⟨x, 0, none⟩) := by rw [← hb5, eval_ne (by omega), x1]
    have r2 : b5.eval (.tmp (p + 2)) = undef := by rw [← hb5, eval_ne (by omega), r2]
    have r3 : b5.eval (.tmp (p + 3)) = undef := by rw [← hb5, eval_ne (by omega), r3]
    have r4 : b5.eval (.tmp (p + 4)) = undef := by rw [← hb5, eval_ne (by omega), r4]
    have r5 : b5.eval (.tmp (p + 5)) = .bool true := by rw [← hb5, eval_eq (by omega)]
    have hz := h0 (undef) (undef) (undef)
    rw [hb1, hb2, hb3, hb4] at hz
    rw [← hb5]
    exact hz
theorem or2 (N p g fi x : Nat) (T TL : TypeId) (c d : Bool) (v1 u4 : Value) (hN : p + 6 < N) (hp : 1 < p) (hs : a.tmps.size = N) (e1 : a.eval (.tmp 1) = .pointer (some ⟨x, 0, none⟩)) (ep : a.eval (.tmp p) = .bool c) (hg : (ops[g]?).bind (·.dst) = some (p + 1))
    (hx : (Instr.fieldAt T (.pointer (some ⟨x, 0, none⟩)) fi).run P w = .ok (.pointer (some ⟨x, fi, none⟩)) w) (h1 : (Instr.loadAt TL (.pointer (some ⟨x, fi, none⟩))).run P w = .ok v1 w)
    {op4 op5 : Op} {t0 t2 t3 t4 t5 t6 : TypeId} {p0 p2 p3 p4 p5 p6 : String} {f0 f2 f3 f4 f5 f6 : Array Edge}
    (hm4 : ∀ (b : Act) (K : Act → World → Prop), b.eval (.tmp (p + 3)) = v1 → K (b.put (some (p + 4)) u4) w → Oper.wp P ⟨some (p + 4), op4, t4, p4, f4, some (g, false)⟩ b w K Q)
    (hm5 : ∀ (b : Act) (K : Act → World → Prop), b.eval (.tmp (p + 4)) = u4 → K (b.put (some (p + 5)) (.bool d)) w → Oper.wp P ⟨some (p + 5), op5, t5, p5, f5, some (g, false)⟩ b w K Q)
    (h0 : ∀ j2 j3 j4 j5 : Value, wpList P ops Q rest ((((((a.put (some (p + 1)) (.bool c)).put (some (p + 2)) j2).put (some (p + 3)) j3).put (some (p + 4)) j4).put (some (p + 5)) j5).put (some (p + 6)) (.bool (c || d))) w) :
    wpList P ops Q (⟨some (p + 1), .move (.tmp p), t0, p0, f0, none⟩ :: ⟨some (p + 2), .fieldAddr T (.tmp 1) fi, t2, p2, f2, some (g, false)⟩ :: ⟨some (p + 3), .load TL (.tmp (p + 2)), t3, p3, f3, some (g, false)⟩ :: ⟨some (p + 4), op4, t4, p4, f4, some (g, false)⟩ :: ⟨some (p + 5), op5, t5, p5, f5, some (g, false)⟩ :: ⟨some (p + 6), .pick (.tmp (p + 1)) (.const (.bool true)) (.tmp (p + 5)), t6, p6, f6, none⟩ :: rest) a w := by
  have hw : ∀ (b : Act) (u v : Bool) {o : Oper}, o.guard = some (g, v) → b.tmps.size = N → b.eval (.tmp (p + 1)) = .bool u → Region.wanted o (yielded ops b.tmps) = (u == v) := by
    intro b u v o ho hb hv
    have := yielded_bool (ops := ops) (a := b) hg (by rw [hb]; omega) hv
    simp only [Region.wanted, ho, this]
    cases u <;> cases v <;> rfl
  refine step_on (d := p + 1) rfl (by simp [Region.wanted]) (v := .bool c) (by rw [← ep]; rfl) ?_
  obtain ⟨b1, hb1⟩ : ∃ b1, a.put (some (p + 1)) (.bool c) = b1 := ⟨_, rfl⟩
  rw [hb1]
  have s1 : b1.tmps.size = N := by rw [← hb1, size_put, hs]
  have m1 : b1.eval (.tmp (p + 1)) = .bool c := by rw [← hb1, eval_eq (by omega)]
  have x1 : b1.eval (.tmp 1) = .pointer (some ⟨x, 0, none⟩) := by rw [← hb1, eval_ne (by omega), e1]
  cases c
  · skip
    refine step_on (d := p + 2) rfl (by rw [hw b1 false false rfl s1 m1]; rfl) (v := .pointer (some ⟨x, fi, none⟩)) (by simp [execOp, x1, hx]) ?_
    obtain ⟨b2, hb2⟩ : ∃ b, b1.put (some (p + 2)) (.pointer (some ⟨x, fi, none⟩)) = b := ⟨_, rfl⟩
    rw [hb2]
    have s2 : b2.tmps.size = N := by rw [← hb2, size_put, s1]
    have m1 : b2.eval (.tmp (p + 1)) = .bool false := by rw [← hb2, eval_ne (by omega), m1]
    have x1 : b2.eval (.tmp 1) = .pointer (some ⟨x, 0, none⟩) := by rw [← hb2, eval_ne (by omega), x1]
    have r2 : b2.eval (.tmp (p + 2)) = .pointer (some ⟨x, fi, none⟩) := by rw [← hb2, eval_eq (by omega)]
    refine step_on (d := p + 3) rfl (by rw [hw b2 false false rfl s2 m1]; rfl) (v := v1) (by simp [execOp, r2, h1]) ?_
    obtain ⟨b3, hb3⟩ : ∃ b, b2.put (some (p + 3)) (v1) = b := ⟨_, rfl⟩
    rw [hb3]
    have s3 : b3.tmps.size = N := by rw [← hb3, size_put, s2]
    have m1 : b3.eval (.tmp (p + 1)) = .bool false := by rw [← hb3, eval_ne (by omega), m1]
    have x1 : b3.eval (.tmp 1) = .pointer (some ⟨x, 0, none⟩) := by rw [← hb3, eval_ne (by omega), x1]
    have r2 : b3.eval (.tmp (p + 2)) = .pointer (some ⟨x, fi, none⟩) := by rw [← hb3, eval_ne (by omega), r2]
    have r3 : b3.eval (.tmp (p + 3)) = v1 := by rw [← hb3, eval_eq (by omega)]
    refine step_wp (by rw [hw b3 false false rfl s3 m1]; rfl) (hm4 b3 _ r3 ?_)
    show wpList P ops Q _ (b3.put (some (p + 4)) (u4)) w
    obtain ⟨b4, hb4⟩ : ∃ b, b3.put (some (p + 4)) (u4) = b := ⟨_, rfl⟩
    rw [hb4]
    have s4 : b4.tmps.size = N := by rw [← hb4, size_put, s3]
    have m1 : b4.eval (.tmp (p + 1)) = .bool false := by rw [← hb4, eval_ne (by omega), m1]
    have x1 : b4.eval (.tmp 1) = .pointer (some ⟨x, 0, none⟩) := by rw [← hb4, eval_ne (by omega), x1]
    have r2 : b4.eval (.tmp (p + 2)) = .pointer (some ⟨x, fi, none⟩) := by rw [← hb4, eval_ne (by omega), r2]
    have r3 : b4.eval (.tmp (p + 3)) = v1 := by rw [← hb4, eval_ne (by omega), r3]
    have r4 : b4.eval (.tmp (p + 4)) = u4 := by rw [← hb4, eval_eq (by omega)]
    refine step_wp (by rw [hw b4 false false rfl s4 m1]; rfl) (hm5 b4 _ r4 ?_)
    show wpList P ops Q _ (b4.put (some (p + 5)) ((.bool d))) w
    obtain ⟨b5, hb5⟩ : ∃ b, b4.put (some (p + 5)) ((.bool d)) = b := ⟨_, rfl⟩
    rw [hb5]
    have s5 : b5.tmps.size = N := by rw [← hb5, size_put, s4]
    have m1 : b5.eval (.tmp (p + 1)) = .bool false := by rw [← hb5, eval_ne (by omega), m1]
    have x1 : b5.eval (.tmp 1) = .pointer (some ⟨x, 0, none⟩) := by rw [← hb5, eval_ne (by omega), x1]
    have r2 : b5.eval (.tmp (p + 2)) = .pointer (some ⟨x, fi, none⟩) := by rw [← hb5, eval_ne (by omega), r2]
    have r3 : b5.eval (.tmp (p + 3)) = v1 := by rw [← hb5, eval_ne (by omega), r3]
    have r4 : b5.eval (.tmp (p + 4)) = u4 := by rw [← hb5, eval_ne (by omega), r4]
    have r5 : b5.eval (.tmp (p + 5)) = (.bool d) := by rw [← hb5, eval_eq (by omega)]
    refine step_on (d := p + 6) rfl (by simp [Region.wanted]) (v := .bool d) ?_ ?_
    · show (do pure (Next.value (if ← asBool (b5.eval (.tmp (p + 1))) then .bool true else b5.eval (.tmp (p + 5)))) : Sem Next).run P w = _
      rw [m1, r5]; rfl
    obtain ⟨b6, hb6⟩ : ∃ b, b5.put (some (p + 6)) (.bool d) = b := ⟨_, rfl⟩
    rw [hb6]
    have s6 : b6.tmps.size = N := by rw [← hb6, size_put, s5]
    have m1 : b6.eval (.tmp (p + 1)) = .bool false := by rw [← hb6, eval_ne (by omega), m1]
    have x1 : b6.eval (.tmp 1) = .pointer (some ⟨x, 0, none⟩) := by rw [← hb6, eval_ne (by omega), x1]
    have r2 : b6.eval (.tmp (p + 2)) = .pointer (some ⟨x, fi, none⟩) := by rw [← hb6, eval_ne (by omega), r2]
    have r3 : b6.eval (.tmp (p + 3)) = v1 := by rw [← hb6, eval_ne (by omega), r3]
    have r4 : b6.eval (.tmp (p + 4)) = u4 := by rw [← hb6, eval_ne (by omega), r4]
    have r5 : b6.eval (.tmp (p + 5)) = (.bool d) := by rw [← hb6, eval_ne (by omega), r5]
    have r6 : b6.eval (.tmp (p + 6)) = .bool d := by rw [← hb6, eval_eq (by omega)]
    have hz := h0 (.pointer (some ⟨x, fi, none⟩)) (v1) (u4) ((.bool d))
    rw [hb1, hb2, hb3, hb4, hb5] at hz
    rw [← hb6]
    exact hz
  · skip
    refine step_off (d := p + 2) rfl (by rw [hw b1 true false rfl s1 m1]; rfl) ?_
    obtain ⟨b2, hb2⟩ : ∃ b, b1.put (some (p + 2)) (undef) = b := ⟨_, rfl⟩
    rw [hb2]
    have s2 : b2.tmps.size = N := by rw [← hb2, size_put, s1]
    have m1 : b2.eval (.tmp (p + 1)) = .bool true := by rw [← hb2, eval_ne (by omega), m1]
    have x1 : b2.eval (.tmp 1) = .pointer (some ⟨x, 0, none⟩) := by rw [← hb2, eval_ne (by omega), x1]
    have r2 : b2.eval (.tmp (p + 2)) = undef := by rw [← hb2, eval_eq (by omega)]
    refine step_off (d := p + 3) rfl (by rw [hw b2 true false rfl s2 m1]; rfl) ?_
    obtain ⟨b3, hb3⟩ : ∃ b, b2.put (some (p + 3)) (undef) = b := ⟨_, rfl⟩
    rw [hb3]
    have s3 : b3.tmps.size = N := by rw [← hb3, size_put, s2]
    have m1 : b3.eval (.tmp (p + 1)) = .bool true := by rw [← hb3, eval_ne (by omega), m1]
    have x1 : b3.eval (.tmp 1) = .pointer (some ⟨x, 0, none⟩) := by rw [← hb3, eval_ne (by omega), x1]
    have r2 : b3.eval (.tmp (p + 2)) = undef := by rw [← hb3, eval_ne (by omega), r2]
    have r3 : b3.eval (.tmp (p + 3)) = undef := by rw [← hb3, eval_eq (by omega)]
    refine step_off (d := p + 4) rfl (by rw [hw b3 true false rfl s3 m1]; rfl) ?_
    obtain ⟨b4, hb4⟩ : ∃ b, b3.put (some (p + 4)) (undef) = b := ⟨_, rfl⟩
    rw [hb4]
    have s4 : b4.tmps.size = N := by rw [← hb4, size_put, s3]
    have m1 : b4.eval (.tmp (p + 1)) = .bool true := by rw [← hb4, eval_ne (by omega), m1]
    have x1 : b4.eval (.tmp 1) = .pointer (some ⟨x, 0, none⟩) := by rw [← hb4, eval_ne (by omega), x1]
    have r2 : b4.eval (.tmp (p + 2)) = undef := by rw [← hb4, eval_ne (by omega), r2]
    have r3 : b4.eval (.tmp (p + 3)) = undef := by rw [← hb4, eval_ne (by omega), r3]
    have r4 : b4.eval (.tmp (p + 4)) = undef := by rw [← hb4, eval_eq (by omega)]
    refine step_off (d := p + 5) rfl (by rw [hw b4 true false rfl s4 m1]; rfl) ?_
    obtain ⟨b5, hb5⟩ : ∃ b, b4.put (some (p + 5)) (undef) = b := ⟨_, rfl⟩
    rw [hb5]
    have s5 : b5.tmps.size = N := by rw [← hb5, size_put, s4]
    have m1 : b5.eval (.tmp (p + 1)) = .bool true := by rw [← hb5, eval_ne (by omega), m1]
    have x1 : b5.eval (.tmp 1) = .pointer (some ⟨x, 0, none⟩) := by rw [← hb5, eval_ne (by omega), x1]
    have r2 : b5.eval (.tmp (p + 2)) = undef := by rw [← hb5, eval_ne (by omega), r2]
    have r3 : b5.eval (.tmp (p + 3)) = undef := by rw [← hb5, eval_ne (by omega), r3]
    have r4 : b5.eval (.tmp (p + 4)) = undef := by rw [← hb5, eval_ne (by omega), r4]
    have r5 : b5.eval (.tmp (p + 5)) = undef := by rw [← hb5, eval_eq (by omega)]
    refine step_on (d := p + 6) rfl (by simp [Region.wanted]) (v := .bool true) ?_ ?_
    · show (do pure (Next.value (if ← asBool (b5.eval (.tmp (p + 1))) then .bool true else b5.eval (.tmp (p + 5)))) : Sem Next).run P w = _
      rw [m1]; rfl
    obtain ⟨b6, hb6⟩ : ∃ b, b5.put (some (p + 6)) (.bool true) = b := ⟨_, rfl⟩
    rw [hb6]
    have s6 : b6.tmps.size = N := by rw [← hb6, size_put, s5]
    have m1 : b6.eval (.tmp (p + 1)) = .bool true := by rw [← hb6, eval_ne (by omega), m1]
    have x1 : b6.eval (.tmp 1) = .pointer (some ⟨x, 0, none⟩) := by rw [← hb6, eval_ne (by omega), x1]
    have r2 : b6.eval (.tmp (p + 2)) = undef := by rw [← hb6, eval_ne (by omega), r2]
    have r3 : b6.eval (.tmp (p + 3)) = undef := by rw [← hb6, eval_ne (by omega), r3]
    have r4 : b6.eval (.tmp (p + 4)) = undef := by rw [← hb6, eval_ne (by omega), r4]
    have r5 : b6.eval (.tmp (p + 5)) = undef := by rw [← hb6, eval_ne (by omega), r5]
    have r6 : b6.eval (.tmp (p + 6)) = .bool true := by rw [← hb6, eval_eq (by omega)]
    have hz := h0 (undef) (undef) (undef) (undef)
    rw [hb1, hb2, hb3, hb4, hb5] at hz
    rw [← hb6]
    exact hz
theorem and1 (N p g h fi x k : Nat) (T TL : TypeId) (c i d : Bool) (v1 : Value) (hN : p + 9 < N) (hp : 3 < p) (hs : a.tmps.size = N) (e1 : a.eval (.tmp 1) = .pointer (some ⟨x, 0, none⟩)) (e3 : a.eval (.tmp 3) = .int .u8 (k : Int)) (ep : a.eval (.tmp p) = .bool c) (hg : (ops[g]?).bind (·.dst) = some (p + 1)) (hh : (ops[h]?).bind (·.dst) = some (p + 4))
    (hx : (Instr.fieldAt T (.pointer (some ⟨x, 0, none⟩)) fi).run P w = .ok (.pointer (some ⟨x, fi, none⟩)) w) (h1 : (Instr.loadAt TL (.pointer (some ⟨x, fi, none⟩))).run P w = .ok v1 w)
    {op3 op7 : Op} {t0 t2 t3 t4 t5 t6 t7 t8 t9 : TypeId} {p0 p2 p3 p4 p5 p6 p7 p8 p9 : String} {f0 f2 f3 f4 f5 f6 f7 f8 f9 : Array Edge}
    (hm3 : ∀ (b : Act) (K : Act → World → Prop), b.eval (.tmp (p + 2)) = .int .u8 (k : Int) → K (b.put (some (p + 3)) (.bool i)) w → Oper.wp P ⟨some (p + 3), op3, t3, p3, f3, some (g, true)⟩ b w K Q)
    (hm7 : ∀ (b : Act) (K : Act → World → Prop), b.eval (.tmp (p + 6)) = v1 → K (b.put (some (p + 7)) (.bool d)) w → Oper.wp P ⟨some (p + 7), op7, t7, p7, f7, some (h, false)⟩ b w K Q)
    (h0 : ∀ j2 j3 j4 j5 j6 j7 j8 : Value, wpList P ops Q rest (((((((((a.put (some (p + 1)) (.bool c)).put (some (p + 2)) j2).put (some (p + 3)) j3).put (some (p + 4)) j4).put (some (p + 5)) j5).put (some (p + 6)) j6).put (some (p + 7)) j7).put (some (p + 8)) j8).put (some (p + 9)) (.bool (c && (i || d)))) w) :
    wpList P ops Q (⟨some (p + 1), .move (.tmp p), t0, p0, f0, none⟩ :: ⟨some (p + 2), .move (.tmp 3), t2, p2, f2, some (g, true)⟩ :: ⟨some (p + 3), op3, t3, p3, f3, some (g, true)⟩ :: ⟨some (p + 4), .move (.tmp (p + 3)), t4, p4, f4, some (g, true)⟩ :: ⟨some (p + 5), .fieldAddr T (.tmp 1) fi, t5, p5, f5, some (h, false)⟩ :: ⟨some (p + 6), .load TL (.tmp (p + 5)), t6, p6, f6, some (h, false)⟩ :: ⟨some (p + 7), op7, t7, p7, f7, some (h, false)⟩ :: ⟨some (p + 8), .pick (.tmp (p + 4)) (.const (.bool true)) (.tmp (p + 7)), t8, p8, f8, some (g, true)⟩ :: ⟨some (p + 9), .pick (.tmp (p + 1)) (.tmp (p + 8)) (.const (.bool false)), t9, p9, f9, none⟩ :: rest) a w := by
  have hw : ∀ (b : Act) (u v : Bool) {o : Oper}, o.guard = some (g, v) → b.tmps.size = N → b.eval (.tmp (p + 1)) = .bool u → Region.wanted o (yielded ops b.tmps) = (u == v) := by
    intro b u v o ho hb hv
    have := yielded_bool (ops := ops) (a := b) hg (by rw [hb]; omega) hv
    simp only [Region.wanted, ho, this]
    cases u <;> cases v <;> rfl
  have hv : ∀ (b : Act) (u v : Bool) {o : Oper}, o.guard = some (h, v) → b.tmps.size = N → b.eval (.tmp (p + 4)) = .bool u → Region.wanted o (yielded ops b.tmps) = (u == v) := by
    intro b u v o ho hb hv
    have := yielded_bool (ops := ops) (a := b) hh (by rw [hb]; omega) hv
    simp only [Region.wanted, ho, this]
    cases u <;> cases v <;> rfl
  refine step_on (d := p + 1) rfl (by simp [Region.wanted]) (v := .bool c) (by rw [← ep]; rfl) ?_
  obtain ⟨b1, hb1⟩ : ∃ b1, a.put (some (p + 1)) (.bool c) = b1 := ⟨_, rfl⟩
  rw [hb1]
  have s1 : b1.tmps.size = N := by rw [← hb1, size_put, hs]
  have m1 : b1.eval (.tmp (p + 1)) = .bool c := by rw [← hb1, eval_eq (by omega)]
  have x1 : b1.eval (.tmp 1) = .pointer (some ⟨x, 0, none⟩) := by rw [← hb1, eval_ne (by omega), e1]
  have y1 : b1.eval (.tmp 3) = .int .u8 (k : Int) := by rw [← hb1, eval_ne (by omega), e3]
  cases c
  · skip
    refine step_off (d := p + 2) rfl (by rw [hw b1 false true rfl s1 m1]; rfl) ?_
    obtain ⟨b2, hb2⟩ : ∃ b, b1.put (some (p + 2)) (undef) = b := ⟨_, rfl⟩
    rw [hb2]
    have s2 : b2.tmps.size = N := by rw [← hb2, size_put, s1]
    have m1 : b2.eval (.tmp (p + 1)) = .bool false := by rw [← hb2, eval_ne (by omega), m1]
    have x1 : b2.eval (.tmp 1) = .pointer (some ⟨x, 0, none⟩) := by rw [← hb2, eval_ne (by omega), x1]
    have y1 : b2.eval (.tmp 3) = .int .u8 (k : Int) := by rw [← hb2, eval_ne (by omega), y1]
    have r2 : b2.eval (.tmp (p + 2)) = undef := by rw [← hb2, eval_eq (by omega)]
    refine step_off (d := p + 3) rfl (by rw [hw b2 false true rfl s2 m1]; rfl) ?_
    obtain ⟨b3, hb3⟩ : ∃ b, b2.put (some (p + 3)) (undef) = b := ⟨_, rfl⟩
    rw [hb3]
    have s3 : b3.tmps.size = N := by rw [← hb3, size_put, s2]
    have m1 : b3.eval (.tmp (p + 1)) = .bool false := by rw [← hb3, eval_ne (by omega), m1]
    have x1 : b3.eval (.tmp 1) = .pointer (some ⟨x, 0, none⟩) := by rw [← hb3, eval_ne (by omega), x1]
    have y1 : b3.eval (.tmp 3) = .int .u8 (k : Int) := by rw [← hb3, eval_ne (by omega), y1]
    have r2 : b3.eval (.tmp (p + 2)) = undef := by rw [← hb3, eval_ne (by omega), r2]
    have r3 : b3.eval (.tmp (p + 3)) = undef := by rw [← hb3, eval_eq (by omega)]
    refine step_off (d := p + 4) rfl (by rw [hw b3 false true rfl s3 m1]; rfl) ?_
    obtain ⟨b4, hb4⟩ : ∃ b, b3.put (some (p + 4)) (undef) = b := ⟨_, rfl⟩
    rw [hb4]
    have s4 : b4.tmps.size = N := by rw [← hb4, size_put, s3]
    have m1 : b4.eval (.tmp (p + 1)) = .bool false := by rw [← hb4, eval_ne (by omega), m1]
    have x1 : b4.eval (.tmp 1) = .pointer (some ⟨x, 0, none⟩) := by rw [← hb4, eval_ne (by omega), x1]
    have y1 : b4.eval (.tmp 3) = .int .u8 (k : Int) := by rw [← hb4, eval_ne (by omega), y1]
    have r2 : b4.eval (.tmp (p + 2)) = undef := by rw [← hb4, eval_ne (by omega), r2]
    have r3 : b4.eval (.tmp (p + 3)) = undef := by rw [← hb4, eval_ne (by omega), r3]
    have r4 : b4.eval (.tmp (p + 4)) = undef := by rw [← hb4, eval_eq (by omega)]
    refine step_offU (d := p + 5) (m := p + 4) rfl rfl hh (by omega) r4 ?_
    obtain ⟨b5, hb5⟩ : ∃ b, b4.put (some (p + 5)) (undef) = b := ⟨_, rfl⟩
    rw [hb5]
    have s5 : b5.tmps.size = N := by rw [← hb5, size_put, s4]
    have m1 : b5.eval (.tmp (p + 1)) = .bool false := by rw [← hb5, eval_ne (by omega), m1]
    have x1 : b5.eval (.tmp 1) = .pointer (some ⟨x, 0, none⟩) := by rw [← hb5, eval_ne (by omega), x1]
    have y1 : b5.eval (.tmp 3) = .int .u8 (k : Int) := by rw [← hb5, eval_ne (by omega), y1]
    have r2 : b5.eval (.tmp (p + 2)) = undef := by rw [← hb5, eval_ne (by omega), r2]
    have r3 : b5.eval (.tmp (p + 3)) = undef := by rw [← hb5, eval_ne (by omega), r3]
    have r4 : b5.eval (.tmp (p + 4)) = undef := by rw [← hb5, eval_ne (by omega), r4]
    have r5 : b5.eval (.tmp (p + 5)) = undef := by rw [← hb5, eval_eq (by omega)]
    refine step_offU (d := p + 6) (m := p + 4) rfl rfl hh (by omega) r4 ?_
    obtain ⟨b6, hb6⟩ : ∃ b, b5.put (some (p + 6)) (undef) = b := ⟨_, rfl⟩
    rw [hb6]
    have s6 : b6.tmps.size = N := by rw [← hb6, size_put, s5]
    have m1 : b6.eval (.tmp (p + 1)) = .bool false := by rw [← hb6, eval_ne (by omega), m1]
    have x1 : b6.eval (.tmp 1) = .pointer (some ⟨x, 0, none⟩) := by rw [← hb6, eval_ne (by omega), x1]
    have y1 : b6.eval (.tmp 3) = .int .u8 (k : Int) := by rw [← hb6, eval_ne (by omega), y1]
    have r2 : b6.eval (.tmp (p + 2)) = undef := by rw [← hb6, eval_ne (by omega), r2]
    have r3 : b6.eval (.tmp (p + 3)) = undef := by rw [← hb6, eval_ne (by omega), r3]
    have r4 : b6.eval (.tmp (p + 4)) = undef := by rw [← hb6, eval_ne (by omega), r4]
    have r5 : b6.eval (.tmp (p + 5)) = undef := by rw [← hb6, eval_ne (by omega), r5]
    have r6 : b6.eval (.tmp (p + 6)) = undef := by rw [← hb6, eval_eq (by omega)]
    refine step_offU (d := p + 7) (m := p + 4) rfl rfl hh (by omega) r4 ?_
    obtain ⟨b7, hb7⟩ : ∃ b, b6.put (some (p + 7)) (undef) = b := ⟨_, rfl⟩
    rw [hb7]
    have s7 : b7.tmps.size = N := by rw [← hb7, size_put, s6]
    have m1 : b7.eval (.tmp (p + 1)) = .bool false := by rw [← hb7, eval_ne (by omega), m1]
    have x1 : b7.eval (.tmp 1) = .pointer (some ⟨x, 0, none⟩) := by rw [← hb7, eval_ne (by omega), x1]
    have y1 : b7.eval (.tmp 3) = .int .u8 (k : Int) := by rw [← hb7, eval_ne (by omega), y1]
    have r2 : b7.eval (.tmp (p + 2)) = undef := by rw [← hb7, eval_ne (by omega), r2]
    have r3 : b7.eval (.tmp (p + 3)) = undef := by rw [← hb7, eval_ne (by omega), r3]
    have r4 : b7.eval (.tmp (p + 4)) = undef := by rw [← hb7, eval_ne (by omega), r4]
    have r5 : b7.eval (.tmp (p + 5)) = undef := by rw [← hb7, eval_ne (by omega), r5]
    have r6 : b7.eval (.tmp (p + 6)) = undef := by rw [← hb7, eval_ne (by omega), r6]
    have r7 : b7.eval (.tmp (p + 7)) = undef := by rw [← hb7, eval_eq (by omega)]
    refine step_off (d := p + 8) rfl (by rw [hw b7 false true rfl s7 m1]; rfl) ?_
    obtain ⟨b8, hb8⟩ : ∃ b, b7.put (some (p + 8)) (undef) = b := ⟨_, rfl⟩
    rw [hb8]
    have s8 : b8.tmps.size = N := by rw [← hb8, size_put, s7]
    have m1 : b8.eval (.tmp (p + 1)) = .bool false := by rw [← hb8, eval_ne (by omega), m1]
    have x1 : b8.eval (.tmp 1) = .pointer (some ⟨x, 0, none⟩) := by rw [← hb8, eval_ne (by omega), x1]
    have y1 : b8.eval (.tmp 3) = .int .u8 (k : Int) := by rw [← hb8, eval_ne (by omega), y1]
    have r2 : b8.eval (.tmp (p + 2)) = undef := by rw [← hb8, eval_ne (by omega), r2]
    have r3 : b8.eval (.tmp (p + 3)) = undef := by rw [← hb8, eval_ne (by omega), r3]
    have r4 : b8.eval (.tmp (p + 4)) = undef := by rw [← hb8, eval_ne (by omega), r4]
    have r5 : b8.eval (.tmp (p + 5)) = undef := by rw [← hb8, eval_ne (by omega), r5]
    have r6 : b8.eval (.tmp (p + 6)) = undef := by rw [← hb8, eval_ne (by omega), r6]
    have r7 : b8.eval (.tmp (p + 7)) = undef := by rw [← hb8, eval_ne (by omega), r7]
    have r8 : b8.eval (.tmp (p + 8)) = undef := by rw [← hb8, eval_eq (by omega)]
    refine step_on (d := p + 9) rfl (by simp [Region.wanted]) (v := .bool false) ?_ ?_
    · show (do pure (Next.value (if ← asBool (b8.eval (.tmp (p + 1))) then b8.eval (.tmp (p + 8)) else .bool false)) : Sem Next).run P w = _
      rw [m1]; rfl
    obtain ⟨b9, hb9⟩ : ∃ b, b8.put (some (p + 9)) (.bool false) = b := ⟨_, rfl⟩
    rw [hb9]
    have s9 : b9.tmps.size = N := by rw [← hb9, size_put, s8]
    have m1 : b9.eval (.tmp (p + 1)) = .bool false := by rw [← hb9, eval_ne (by omega), m1]
    have x1 : b9.eval (.tmp 1) = .pointer (some ⟨x, 0, none⟩) := by rw [← hb9, eval_ne (by omega), x1]
    have y1 : b9.eval (.tmp 3) = .int .u8 (k : Int) := by rw [← hb9, eval_ne (by omega), y1]
    have r2 : b9.eval (.tmp (p + 2)) = undef := by rw [← hb9, eval_ne (by omega), r2]
    have r3 : b9.eval (.tmp (p + 3)) = undef := by rw [← hb9, eval_ne (by omega), r3]
    have r4 : b9.eval (.tmp (p + 4)) = undef := by rw [← hb9, eval_ne (by omega), r4]
    have r5 : b9.eval (.tmp (p + 5)) = undef := by rw [← hb9, eval_ne (by omega), r5]
    have r6 : b9.eval (.tmp (p + 6)) = undef := by rw [← hb9, eval_ne (by omega), r6]
    have r7 : b9.eval (.tmp (p + 7)) = undef := by rw [← hb9, eval_ne (by omega), r7]
    have r8 : b9.eval (.tmp (p + 8)) = undef := by rw [← hb9, eval_ne (by omega), r8]
    have r9 : b9.eval (.tmp (p + 9)) = .bool false := by rw [← hb9, eval_eq (by omega)]
    have hz := h0 (undef) (undef) (undef) (undef) (undef) (undef) (undef)
    rw [hb1, hb2, hb3, hb4, hb5, hb6, hb7, hb8] at hz
    rw [← hb9]
    exact hz
  · cases i
    · skip
      refine step_on (d := p + 2) rfl (by rw [hw b1 true true rfl s1 m1]; rfl) (v := .int .u8 (k : Int)) (by simp [execOp, y1]) ?_
      obtain ⟨b2, hb2⟩ : ∃ b, b1.put (some (p + 2)) (.int .u8 (k : Int)) = b := ⟨_, rfl⟩
      rw [hb2]
      have s2 : b2.tmps.size = N := by rw [← hb2, size_put, s1]
      have m1 : b2.eval (.tmp (p + 1)) = .bool true := by rw [← hb2, eval_ne (by omega), m1]
      have x1 : b2.eval (.tmp 1) = .pointer (some ⟨x, 0, none⟩) := by rw [← hb2, eval_ne (by omega), x1]
      have y1 : b2.eval (.tmp 3) = .int .u8 (k : Int) := by rw [← hb2, eval_ne (by omega), y1]
      have r2 : b2.eval (.tmp (p + 2)) = .int .u8 (k : Int) := by rw [← hb2, eval_eq (by omega)]
      refine step_wp (by rw [hw b2 true true rfl s2 m1]; rfl) (hm3 b2 _ r2 ?_)
      show wpList P ops Q _ (b2.put (some (p + 3)) (.bool false)) w
      obtain ⟨b3, hb3⟩ : ∃ b, b2.put (some (p + 3)) (.bool false) = b := ⟨_, rfl⟩
      rw [hb3]
      have s3 : b3.tmps.size = N := by rw [← hb3, size_put, s2]
      have m1 : b3.eval (.tmp (p + 1)) = .bool true := by rw [← hb3, eval_ne (by omega), m1]
      have x1 : b3.eval (.tmp 1) = .pointer (some ⟨x, 0, none⟩) := by rw [← hb3, eval_ne (by omega), x1]
      have y1 : b3.eval (.tmp 3) = .int .u8 (k : Int) := by rw [← hb3, eval_ne (by omega), y1]
      have r2 : b3.eval (.tmp (p + 2)) = .int .u8 (k : Int) := by rw [← hb3, eval_ne (by omega), r2]
      have r3 : b3.eval (.tmp (p + 3)) = .bool false := by rw [← hb3, eval_eq (by omega)]
      refine step_on (d := p + 4) rfl (by rw [hw b3 true true rfl s3 m1]; rfl) (v := .bool false) (by simp [execOp, r3]) ?_
      obtain ⟨b4, hb4⟩ : ∃ b, b3.put (some (p + 4)) (.bool false) = b := ⟨_, rfl⟩
      rw [hb4]
      have s4 : b4.tmps.size = N := by rw [← hb4, size_put, s3]
      have m1 : b4.eval (.tmp (p + 1)) = .bool true := by rw [← hb4, eval_ne (by omega), m1]
      have x1 : b4.eval (.tmp 1) = .pointer (some ⟨x, 0, none⟩) := by rw [← hb4, eval_ne (by omega), x1]
      have y1 : b4.eval (.tmp 3) = .int .u8 (k : Int) := by rw [← hb4, eval_ne (by omega), y1]
      have r2 : b4.eval (.tmp (p + 2)) = .int .u8 (k : Int) := by rw [← hb4, eval_ne (by omega), r2]
      have r3 : b4.eval (.tmp (p + 3)) = .bool false := by rw [← hb4, eval_ne (by omega), r3]
      have r4 : b4.eval (.tmp (p + 4)) = .bool false := by rw [← hb4, eval_eq (by omega)]
      refine step_on (d := p + 5) rfl (by rw [hv b4 false false rfl s4 r4]; rfl) (v := .pointer (some ⟨x, fi, none⟩)) (by simp [execOp, x1, hx]) ?_
      obtain ⟨b5, hb5⟩ : ∃ b, b4.put (some (p + 5)) (.pointer (some ⟨x, fi, none⟩)) = b := ⟨_, rfl⟩
      rw [hb5]
      have s5 : b5.tmps.size = N := by rw [← hb5, size_put, s4]
      have m1 : b5.eval (.tmp (p + 1)) = .bool true := by rw [← hb5, eval_ne (by omega), m1]
      have x1 : b5.eval (.tmp 1) = .pointer (some ⟨x, 0, none⟩) := by rw [← hb5, eval_ne (by omega), x1]
      have y1 : b5.eval (.tmp 3) = .int .u8 (k : Int) := by rw [← hb5, eval_ne (by omega), y1]
      have r2 : b5.eval (.tmp (p + 2)) = .int .u8 (k : Int) := by rw [← hb5, eval_ne (by omega), r2]
      have r3 : b5.eval (.tmp (p + 3)) = .bool false := by rw [← hb5, eval_ne (by omega), r3]
      have r4 : b5.eval (.tmp (p + 4)) = .bool false := by rw [← hb5, eval_ne (by omega), r4]
      have r5 : b5.eval (.tmp (p + 5)) = .pointer (some ⟨x, fi, none⟩) := by rw [← hb5, eval_eq (by omega)]
      refine step_on (d := p + 6) rfl (by rw [hv b5 false false rfl s5 r4]; rfl) (v := v1) (by simp [execOp, r5, h1]) ?_
      obtain ⟨b6, hb6⟩ : ∃ b, b5.put (some (p + 6)) (v1) = b := ⟨_, rfl⟩
      rw [hb6]
      have s6 : b6.tmps.size = N := by rw [← hb6, size_put, s5]
      have m1 : b6.eval (.tmp (p + 1)) = .bool true := by rw [← hb6, eval_ne (by omega), m1]
      have x1 : b6.eval (.tmp 1) = .pointer (some ⟨x, 0, none⟩) := by rw [← hb6, eval_ne (by omega), x1]
      have y1 : b6.eval (.tmp 3) = .int .u8 (k : Int) := by rw [← hb6, eval_ne (by omega), y1]
      have r2 : b6.eval (.tmp (p + 2)) = .int .u8 (k : Int) := by rw [← hb6, eval_ne (by omega), r2]
      have r3 : b6.eval (.tmp (p + 3)) = .bool false := by rw [← hb6, eval_ne (by omega), r3]
      have r4 : b6.eval (.tmp (p + 4)) = .bool false := by rw [← hb6, eval_ne (by omega), r4]
      have r5 : b6.eval (.tmp (p + 5)) = .pointer (some ⟨x, fi, none⟩) := by rw [← hb6, eval_ne (by omega), r5]
      have r6 : b6.eval (.tmp (p + 6)) = v1 := by rw [← hb6, eval_eq (by omega)]
      refine step_wp (by rw [hv b6 false false rfl s6 r4]; rfl) (hm7 b6 _ r6 ?_)
      show wpList P ops Q _ (b6.put (some (p + 7)) ((.bool d))) w
      obtain ⟨b7, hb7⟩ : ∃ b, b6.put (some (p + 7)) ((.bool d)) = b := ⟨_, rfl⟩
      rw [hb7]
      have s7 : b7.tmps.size = N := by rw [← hb7, size_put, s6]
      have m1 : b7.eval (.tmp (p + 1)) = .bool true := by rw [← hb7, eval_ne (by omega), m1]
      have x1 : b7.eval (.tmp 1) = .pointer (some ⟨x, 0, none⟩) := by rw [← hb7, eval_ne (by omega), x1]
      have y1 : b7.eval (.tmp 3) = .int .u8 (k : Int) := by rw [← hb7, eval_ne (by omega), y1]
      have r2 : b7.eval (.tmp (p + 2)) = .int .u8 (k : Int) := by rw [← hb7, eval_ne (by omega), r2]
      have r3 : b7.eval (.tmp (p + 3)) = .bool false := by rw [← hb7, eval_ne (by omega), r3]
      have r4 : b7.eval (.tmp (p + 4)) = .bool false := by rw [← hb7, eval_ne (by omega), r4]
      have r5 : b7.eval (.tmp (p + 5)) = .pointer (some ⟨x, fi, none⟩) := by rw [← hb7, eval_ne (by omega), r5]
      have r6 : b7.eval (.tmp (p + 6)) = v1 := by rw [← hb7, eval_ne (by omega), r6]
      have r7 : b7.eval (.tmp (p + 7)) = (.bool d) := by rw [← hb7, eval_eq (by omega)]
      refine step_on (d := p + 8) rfl (by rw [hw b7 true true rfl s7 m1]; rfl) (v := .bool d) ?_ ?_
      · show (do pure (Next.value (if ← asBool (b7.eval (.tmp (p + 4))) then .bool true else b7.eval (.tmp (p + 7)))) : Sem Next).run P w = _
        rw [r4, r7]; rfl
      obtain ⟨b8, hb8⟩ : ∃ b, b7.put (some (p + 8)) (.bool d) = b := ⟨_, rfl⟩
      rw [hb8]
      have s8 : b8.tmps.size = N := by rw [← hb8, size_put, s7]
      have m1 : b8.eval (.tmp (p + 1)) = .bool true := by rw [← hb8, eval_ne (by omega), m1]
      have x1 : b8.eval (.tmp 1) = .pointer (some ⟨x, 0, none⟩) := by rw [← hb8, eval_ne (by omega), x1]
      have y1 : b8.eval (.tmp 3) = .int .u8 (k : Int) := by rw [← hb8, eval_ne (by omega), y1]
      have r2 : b8.eval (.tmp (p + 2)) = .int .u8 (k : Int) := by rw [← hb8, eval_ne (by omega), r2]
      have r3 : b8.eval (.tmp (p + 3)) = .bool false := by rw [← hb8, eval_ne (by omega), r3]
      have r4 : b8.eval (.tmp (p + 4)) = .bool false := by rw [← hb8, eval_ne (by omega), r4]
      have r5 : b8.eval (.tmp (p + 5)) = .pointer (some ⟨x, fi, none⟩) := by rw [← hb8, eval_ne (by omega), r5]
      have r6 : b8.eval (.tmp (p + 6)) = v1 := by rw [← hb8, eval_ne (by omega), r6]
      have r7 : b8.eval (.tmp (p + 7)) = (.bool d) := by rw [← hb8, eval_ne (by omega), r7]
      have r8 : b8.eval (.tmp (p + 8)) = .bool d := by rw [← hb8, eval_eq (by omega)]
      refine step_on (d := p + 9) rfl (by simp [Region.wanted]) (v := .bool d) ?_ ?_
      · show (do pure (Next.value (if ← asBool (b8.eval (.tmp (p + 1))) then b8.eval (.tmp (p + 8)) else .bool false)) : Sem Next).run P w = _
        rw [m1, r8]; rfl
      obtain ⟨b9, hb9⟩ : ∃ b, b8.put (some (p + 9)) (.bool d) = b := ⟨_, rfl⟩
      rw [hb9]
      have s9 : b9.tmps.size = N := by rw [← hb9, size_put, s8]
      have m1 : b9.eval (.tmp (p + 1)) = .bool true := by rw [← hb9, eval_ne (by omega), m1]
      have x1 : b9.eval (.tmp 1) = .pointer (some ⟨x, 0, none⟩) := by rw [← hb9, eval_ne (by omega), x1]
      have y1 : b9.eval (.tmp 3) = .int .u8 (k : Int) := by rw [← hb9, eval_ne (by omega), y1]
      have r2 : b9.eval (.tmp (p + 2)) = .int .u8 (k : Int) := by rw [← hb9, eval_ne (by omega), r2]
      have r3 : b9.eval (.tmp (p + 3)) = .bool false := by rw [← hb9, eval_ne (by omega), r3]
      have r4 : b9.eval (.tmp (p + 4)) = .bool false := by rw [← hb9, eval_ne (by omega), r4]
      have r5 : b9.eval (.tmp (p + 5)) = .pointer (some ⟨x, fi, none⟩) := by rw [← hb9, eval_ne (by omega), r5]
      have r6 : b9.eval (.tmp (p + 6)) = v1 := by rw [← hb9, eval_ne (by omega), r6]
      have r7 : b9.eval (.tmp (p + 7)) = (.bool d) := by rw [← hb9, eval_ne (by omega), r7]
      have r8 : b9.eval (.tmp (p + 8)) = .bool d := by rw [← hb9, eval_ne (by omega), r8]
      have r9 : b9.eval (.tmp (p + 9)) = .bool d := by rw [← hb9, eval_eq (by omega)]
      have hz := h0 (.int .u8 (k : Int)) (.bool false) (.bool false) (.pointer (some ⟨x, fi, none⟩)) (v1) ((.bool d)) (.bool d)
      rw [hb1, hb2, hb3, hb4, hb5, hb6, hb7, hb8] at hz
      rw [← hb9]
      exact hz
    · skip
      refine step_on (d := p + 2) rfl (by rw [hw b1 true true rfl s1 m1]; rfl) (v := .int .u8 (k : Int)) (by simp [execOp, y1]) ?_
      obtain ⟨b2, hb2⟩ : ∃ b, b1.put (some (p + 2)) (.int .u8 (k : Int)) = b := ⟨_, rfl⟩
      rw [hb2]
      have s2 : b2.tmps.size = N := by rw [← hb2, size_put, s1]
      have m1 : b2.eval (.tmp (p + 1)) = .bool true := by rw [← hb2, eval_ne (by omega), m1]
      have x1 : b2.eval (.tmp 1) = .pointer (some ⟨x, 0, none⟩) := by rw [← hb2, eval_ne (by omega), x1]
      have y1 : b2.eval (.tmp 3) = .int .u8 (k : Int) := by rw [← hb2, eval_ne (by omega), y1]
      have r2 : b2.eval (.tmp (p + 2)) = .int .u8 (k : Int) := by rw [← hb2, eval_eq (by omega)]
      refine step_wp (by rw [hw b2 true true rfl s2 m1]; rfl) (hm3 b2 _ r2 ?_)
      show wpList P ops Q _ (b2.put (some (p + 3)) (.bool true)) w
      obtain ⟨b3, hb3⟩ : ∃ b, b2.put (some (p + 3)) (.bool true) = b := ⟨_, rfl⟩
      rw [hb3]
      have s3 : b3.tmps.size = N := by rw [← hb3, size_put, s2]
      have m1 : b3.eval (.tmp (p + 1)) = .bool true := by rw [← hb3, eval_ne (by omega), m1]
      have x1 : b3.eval (.tmp 1) = .pointer (some ⟨x, 0, none⟩) := by rw [← hb3, eval_ne (by omega), x1]
      have y1 : b3.eval (.tmp 3) = .int .u8 (k : Int) := by rw [← hb3, eval_ne (by omega), y1]
      have r2 : b3.eval (.tmp (p + 2)) = .int .u8 (k : Int) := by rw [← hb3, eval_ne (by omega), r2]
      have r3 : b3.eval (.tmp (p + 3)) = .bool true := by rw [← hb3, eval_eq (by omega)]
      refine step_on (d := p + 4) rfl (by rw [hw b3 true true rfl s3 m1]; rfl) (v := .bool true) (by simp [execOp, r3]) ?_
      obtain ⟨b4, hb4⟩ : ∃ b, b3.put (some (p + 4)) (.bool true) = b := ⟨_, rfl⟩
      rw [hb4]
      have s4 : b4.tmps.size = N := by rw [← hb4, size_put, s3]
      have m1 : b4.eval (.tmp (p + 1)) = .bool true := by rw [← hb4, eval_ne (by omega), m1]
      have x1 : b4.eval (.tmp 1) = .pointer (some ⟨x, 0, none⟩) := by rw [← hb4, eval_ne (by omega), x1]
      have y1 : b4.eval (.tmp 3) = .int .u8 (k : Int) := by rw [← hb4, eval_ne (by omega), y1]
      have r2 : b4.eval (.tmp (p + 2)) = .int .u8 (k : Int) := by rw [← hb4, eval_ne (by omega), r2]
      have r3 : b4.eval (.tmp (p + 3)) = .bool true := by rw [← hb4, eval_ne (by omega), r3]
      have r4 : b4.eval (.tmp (p + 4)) = .bool true := by rw [← hb4, eval_eq (by omega)]
      refine step_off (d := p + 5) rfl (by rw [hv b4 true false rfl s4 r4]; rfl) ?_
      obtain ⟨b5, hb5⟩ : ∃ b, b4.put (some (p + 5)) (undef) = b := ⟨_, rfl⟩
      rw [hb5]
      have s5 : b5.tmps.size = N := by rw [← hb5, size_put, s4]
      have m1 : b5.eval (.tmp (p + 1)) = .bool true := by rw [← hb5, eval_ne (by omega), m1]
      have x1 : b5.eval (.tmp 1) = .pointer (some ⟨x, 0, none⟩) := by rw [← hb5, eval_ne (by omega), x1]
      have y1 : b5.eval (.tmp 3) = .int .u8 (k : Int) := by rw [← hb5, eval_ne (by omega), y1]
      have r2 : b5.eval (.tmp (p + 2)) = .int .u8 (k : Int) := by rw [← hb5, eval_ne (by omega), r2]
      have r3 : b5.eval (.tmp (p + 3)) = .bool true := by rw [← hb5, eval_ne (by omega), r3]
      have r4 : b5.eval (.tmp (p + 4)) = .bool true := by rw [← hb5, eval_ne (by omega), r4]
      have r5 : b5.eval (.tmp (p + 5)) = undef := by rw [← hb5, eval_eq (by omega)]
      refine step_off (d := p + 6) rfl (by rw [hv b5 true false rfl s5 r4]; rfl) ?_
      obtain ⟨b6, hb6⟩ : ∃ b, b5.put (some (p + 6)) (undef) = b := ⟨_, rfl⟩
      rw [hb6]
      have s6 : b6.tmps.size = N := by rw [← hb6, size_put, s5]
      have m1 : b6.eval (.tmp (p + 1)) = .bool true := by rw [← hb6, eval_ne (by omega), m1]
      have x1 : b6.eval (.tmp 1) = .pointer (some ⟨x, 0, none⟩) := by rw [← hb6, eval_ne (by omega), x1]
      have y1 : b6.eval (.tmp 3) = .int .u8 (k : Int) := by rw [← hb6, eval_ne (by omega), y1]
      have r2 : b6.eval (.tmp (p + 2)) = .int .u8 (k : Int) := by rw [← hb6, eval_ne (by omega), r2]
      have r3 : b6.eval (.tmp (p + 3)) = .bool true := by rw [← hb6, eval_ne (by omega), r3]
      have r4 : b6.eval (.tmp (p + 4)) = .bool true := by rw [← hb6, eval_ne (by omega), r4]
      have r5 : b6.eval (.tmp (p + 5)) = undef := by rw [← hb6, eval_ne (by omega), r5]
      have r6 : b6.eval (.tmp (p + 6)) = undef := by rw [← hb6, eval_eq (by omega)]
      refine step_off (d := p + 7) rfl (by rw [hv b6 true false rfl s6 r4]; rfl) ?_
      obtain ⟨b7, hb7⟩ : ∃ b, b6.put (some (p + 7)) (undef) = b := ⟨_, rfl⟩
      rw [hb7]
      have s7 : b7.tmps.size = N := by rw [← hb7, size_put, s6]
      have m1 : b7.eval (.tmp (p + 1)) = .bool true := by rw [← hb7, eval_ne (by omega), m1]
      have x1 : b7.eval (.tmp 1) = .pointer (some ⟨x, 0, none⟩) := by rw [← hb7, eval_ne (by omega), x1]
      have y1 : b7.eval (.tmp 3) = .int .u8 (k : Int) := by rw [← hb7, eval_ne (by omega), y1]
      have r2 : b7.eval (.tmp (p + 2)) = .int .u8 (k : Int) := by rw [← hb7, eval_ne (by omega), r2]
      have r3 : b7.eval (.tmp (p + 3)) = .bool true := by rw [← hb7, eval_ne (by omega), r3]
      have r4 : b7.eval (.tmp (p + 4)) = .bool true := by rw [← hb7, eval_ne (by omega), r4]
      have r5 : b7.eval (.tmp (p + 5)) = undef := by rw [← hb7, eval_ne (by omega), r5]
      have r6 : b7.eval (.tmp (p + 6)) = undef := by rw [← hb7, eval_ne (by omega), r6]
      have r7 : b7.eval (.tmp (p + 7)) = undef := by rw [← hb7, eval_eq (by omega)]
      refine step_on (d := p + 8) rfl (by rw [hw b7 true true rfl s7 m1]; rfl) (v := .bool true) ?_ ?_
      · show (do pure (Next.value (if ← asBool (b7.eval (.tmp (p + 4))) then .bool true else b7.eval (.tmp (p + 7)))) : Sem Next).run P w = _
        rw [r4]; rfl
      obtain ⟨b8, hb8⟩ : ∃ b, b7.put (some (p + 8)) (.bool true) = b := ⟨_, rfl⟩
      rw [hb8]
      have s8 : b8.tmps.size = N := by rw [← hb8, size_put, s7]
      have m1 : b8.eval (.tmp (p + 1)) = .bool true := by rw [← hb8, eval_ne (by omega), m1]
      have x1 : b8.eval (.tmp 1) = .pointer (some ⟨x, 0, none⟩) := by rw [← hb8, eval_ne (by omega), x1]
      have y1 : b8.eval (.tmp 3) = .int .u8 (k : Int) := by rw [← hb8, eval_ne (by omega), y1]
      have r2 : b8.eval (.tmp (p + 2)) = .int .u8 (k : Int) := by rw [← hb8, eval_ne (by omega), r2]
      have r3 : b8.eval (.tmp (p + 3)) = .bool true := by rw [← hb8, eval_ne (by omega), r3]
      have r4 : b8.eval (.tmp (p + 4)) = .bool true := by rw [← hb8, eval_ne (by omega), r4]
      have r5 : b8.eval (.tmp (p + 5)) = undef := by rw [← hb8, eval_ne (by omega), r5]
      have r6 : b8.eval (.tmp (p + 6)) = undef := by rw [← hb8, eval_ne (by omega), r6]
      have r7 : b8.eval (.tmp (p + 7)) = undef := by rw [← hb8, eval_ne (by omega), r7]
      have r8 : b8.eval (.tmp (p + 8)) = .bool true := by rw [← hb8, eval_eq (by omega)]
      refine step_on (d := p + 9) rfl (by simp [Region.wanted]) (v := .bool true) ?_ ?_
      · show (do pure (Next.value (if ← asBool (b8.eval (.tmp (p + 1))) then b8.eval (.tmp (p + 8)) else .bool false)) : Sem Next).run P w = _
        rw [m1, r8]; rfl
      obtain ⟨b9, hb9⟩ : ∃ b, b8.put (some (p + 9)) (.bool true) = b := ⟨_, rfl⟩
      rw [hb9]
      have s9 : b9.tmps.size = N := by rw [← hb9, size_put, s8]
      have m1 : b9.eval (.tmp (p + 1)) = .bool true := by rw [← hb9, eval_ne (by omega), m1]
      have x1 : b9.eval (.tmp 1) = .pointer (some ⟨x, 0, none⟩) := by rw [← hb9, eval_ne (by omega), x1]
      have y1 : b9.eval (.tmp 3) = .int .u8 (k : Int) := by rw [← hb9, eval_ne (by omega), y1]
      have r2 : b9.eval (.tmp (p + 2)) = .int .u8 (k : Int) := by rw [← hb9, eval_ne (by omega), r2]
      have r3 : b9.eval (.tmp (p + 3)) = .bool true := by rw [← hb9, eval_ne (by omega), r3]
      have r4 : b9.eval (.tmp (p + 4)) = .bool true := by rw [← hb9, eval_ne (by omega), r4]
      have r5 : b9.eval (.tmp (p + 5)) = undef := by rw [← hb9, eval_ne (by omega), r5]
      have r6 : b9.eval (.tmp (p + 6)) = undef := by rw [← hb9, eval_ne (by omega), r6]
      have r7 : b9.eval (.tmp (p + 7)) = undef := by rw [← hb9, eval_ne (by omega), r7]
      have r8 : b9.eval (.tmp (p + 8)) = .bool true := by rw [← hb9, eval_ne (by omega), r8]
      have r9 : b9.eval (.tmp (p + 9)) = .bool true := by rw [← hb9, eval_eq (by omega)]
      have hz := h0 (.int .u8 (k : Int)) (.bool true) (.bool true) (undef) (undef) (undef) (.bool true)
      rw [hb1, hb2, hb3, hb4, hb5, hb6, hb7, hb8] at hz
      rw [← hb9]
      exact hz
theorem and2 (N p g h fi x k : Nat) (T TL : TypeId) (c i d : Bool) (v1 u7 : Value) (hN : p + 10 < N) (hp : 3 < p) (hs : a.tmps.size = N) (e1 : a.eval (.tmp 1) = .pointer (some ⟨x, 0, none⟩)) (e3 : a.eval (.tmp 3) = .int .u8 (k : Int)) (ep : a.eval (.tmp p) = .bool c) (hg : (ops[g]?).bind (·.dst) = some (p + 1)) (hh : (ops[h]?).bind (·.dst) = some (p + 4))
    (hx : (Instr.fieldAt T (.pointer (some ⟨x, 0, none⟩)) fi).run P w = .ok (.pointer (some ⟨x, fi, none⟩)) w) (h1 : (Instr.loadAt TL (.pointer (some ⟨x, fi, none⟩))).run P w = .ok v1 w)
    {op3 op7 op8 : Op} {t0 t2 t3 t4 t5 t6 t7 t8 t9 t10 : TypeId} {p0 p2 p3 p4 p5 p6 p7 p8 p9 p10 : String} {f0 f2 f3 f4 f5 f6 f7 f8 f9 f10 : Array Edge}
    (hm3 : ∀ (b : Act) (K : Act → World → Prop), b.eval (.tmp (p + 2)) = .int .u8 (k : Int) → K (b.put (some (p + 3)) (.bool i)) w → Oper.wp P ⟨some (p + 3), op3, t3, p3, f3, some (g, true)⟩ b w K Q)
    (hm7 : ∀ (b : Act) (K : Act → World → Prop), b.eval (.tmp (p + 6)) = v1 → K (b.put (some (p + 7)) u7) w → Oper.wp P ⟨some (p + 7), op7, t7, p7, f7, some (h, false)⟩ b w K Q)
    (hm8 : ∀ (b : Act) (K : Act → World → Prop), b.eval (.tmp (p + 7)) = u7 → K (b.put (some (p + 8)) (.bool d)) w → Oper.wp P ⟨some (p + 8), op8, t8, p8, f8, some (h, false)⟩ b w K Q)
    (h0 : ∀ j2 j3 j4 j5 j6 j7 j8 j9 : Value, wpList P ops Q rest ((((((((((a.put (some (p + 1)) (.bool c)).put (some (p + 2)) j2).put (some (p + 3)) j3).put (some (p + 4)) j4).put (some (p + 5)) j5).put (some (p + 6)) j6).put (some (p + 7)) j7).put (some (p + 8)) j8).put (some (p + 9)) j9).put (some (p + 10)) (.bool (c && (i || d)))) w) :
    wpList P ops Q (⟨some (p + 1), .move (.tmp p), t0, p0, f0, none⟩ :: ⟨some (p + 2), .move (.tmp 3), t2, p2, f2, some (g, true)⟩ :: ⟨some (p + 3), op3, t3, p3, f3, some (g, true)⟩ :: ⟨some (p + 4), .move (.tmp (p + 3)), t4, p4, f4, some (g, true)⟩ :: ⟨some (p + 5), .fieldAddr T (.tmp 1) fi, t5, p5, f5, some (h, false)⟩ :: ⟨some (p + 6), .load TL (.tmp (p + 5)), t6, p6, f6, some (h, false)⟩ :: ⟨some (p + 7), op7, t7, p7, f7, some (h, false)⟩ :: ⟨some (p + 8), op8, t8, p8, f8, some (h, false)⟩ :: ⟨some (p + 9), .pick (.tmp (p + 4)) (.const (.bool true)) (.tmp (p + 8)), t9, p9, f9, some (g, true)⟩ :: ⟨some (p + 10), .pick (.tmp (p + 1)) (.tmp (p + 9)) (.const (.bool false)), t10, p10, f10, none⟩ :: rest) a w := by
  have hw : ∀ (b : Act) (u v : Bool) {o : Oper}, o.guard = some (g, v) → b.tmps.size = N → b.eval (.tmp (p + 1)) = .bool u → Region.wanted o (yielded ops b.tmps) = (u == v) := by
    intro b u v o ho hb hv
    have := yielded_bool (ops := ops) (a := b) hg (by rw [hb]; omega) hv
    simp only [Region.wanted, ho, this]
    cases u <;> cases v <;> rfl
  have hv : ∀ (b : Act) (u v : Bool) {o : Oper}, o.guard = some (h, v) → b.tmps.size = N → b.eval (.tmp (p + 4)) = .bool u → Region.wanted o (yielded ops b.tmps) = (u == v) := by
    intro b u v o ho hb hv
    have := yielded_bool (ops := ops) (a := b) hh (by rw [hb]; omega) hv
    simp only [Region.wanted, ho, this]
    cases u <;> cases v <;> rfl
  refine step_on (d := p + 1) rfl (by simp [Region.wanted]) (v := .bool c) (by rw [← ep]; rfl) ?_
  obtain ⟨b1, hb1⟩ : ∃ b1, a.put (some (p + 1)) (.bool c) = b1 := ⟨_, rfl⟩
  rw [hb1]
  have s1 : b1.tmps.size = N := by rw [← hb1, size_put, hs]
  have m1 : b1.eval (.tmp (p + 1)) = .bool c := by rw [← hb1, eval_eq (by omega)]
  have x1 : b1.eval (.tmp 1) = .pointer (some ⟨x, 0, none⟩) := by rw [← hb1, eval_ne (by omega), e1]
  have y1 : b1.eval (.tmp 3) = .int .u8 (k : Int) := by rw [← hb1, eval_ne (by omega), e3]
  cases c
  · skip
    refine step_off (d := p + 2) rfl (by rw [hw b1 false true rfl s1 m1]; rfl) ?_
    obtain ⟨b2, hb2⟩ : ∃ b, b1.put (some (p + 2)) (undef) = b := ⟨_, rfl⟩
    rw [hb2]
    have s2 : b2.tmps.size = N := by rw [← hb2, size_put, s1]
    have m1 : b2.eval (.tmp (p + 1)) = .bool false := by rw [← hb2, eval_ne (by omega), m1]
    have x1 : b2.eval (.tmp 1) = .pointer (some ⟨x, 0, none⟩) := by rw [← hb2, eval_ne (by omega), x1]
    have y1 : b2.eval (.tmp 3) = .int .u8 (k : Int) := by rw [← hb2, eval_ne (by omega), y1]
    have r2 : b2.eval (.tmp (p + 2)) = undef := by rw [← hb2, eval_eq (by omega)]
    refine step_off (d := p + 3) rfl (by rw [hw b2 false true rfl s2 m1]; rfl) ?_
    obtain ⟨b3, hb3⟩ : ∃ b, b2.put (some (p + 3)) (undef) = b := ⟨_, rfl⟩
    rw [hb3]
    have s3 : b3.tmps.size = N := by rw [← hb3, size_put, s2]
    have m1 : b3.eval (.tmp (p + 1)) = .bool false := by rw [← hb3, eval_ne (by omega), m1]
    have x1 : b3.eval (.tmp 1) = .pointer (some ⟨x, 0, none⟩) := by rw [← hb3, eval_ne (by omega), x1]
    have y1 : b3.eval (.tmp 3) = .int .u8 (k : Int) := by rw [← hb3, eval_ne (by omega), y1]
    have r2 : b3.eval (.tmp (p + 2)) = undef := by rw [← hb3, eval_ne (by omega), r2]
    have r3 : b3.eval (.tmp (p + 3)) = undef := by rw [← hb3, eval_eq (by omega)]
    refine step_off (d := p + 4) rfl (by rw [hw b3 false true rfl s3 m1]; rfl) ?_
    obtain ⟨b4, hb4⟩ : ∃ b, b3.put (some (p + 4)) (undef) = b := ⟨_, rfl⟩
    rw [hb4]
    have s4 : b4.tmps.size = N := by rw [← hb4, size_put, s3]
    have m1 : b4.eval (.tmp (p + 1)) = .bool false := by rw [← hb4, eval_ne (by omega), m1]
    have x1 : b4.eval (.tmp 1) = .pointer (some ⟨x, 0, none⟩) := by rw [← hb4, eval_ne (by omega), x1]
    have y1 : b4.eval (.tmp 3) = .int .u8 (k : Int) := by rw [← hb4, eval_ne (by omega), y1]
    have r2 : b4.eval (.tmp (p + 2)) = undef := by rw [← hb4, eval_ne (by omega), r2]
    have r3 : b4.eval (.tmp (p + 3)) = undef := by rw [← hb4, eval_ne (by omega), r3]
    have r4 : b4.eval (.tmp (p + 4)) = undef := by rw [← hb4, eval_eq (by omega)]
    refine step_offU (d := p + 5) (m := p + 4) rfl rfl hh (by omega) r4 ?_
    obtain ⟨b5, hb5⟩ : ∃ b, b4.put (some (p + 5)) (undef) = b := ⟨_, rfl⟩
    rw [hb5]
    have s5 : b5.tmps.size = N := by rw [← hb5, size_put, s4]
    have m1 : b5.eval (.tmp (p + 1)) = .bool false := by rw [← hb5, eval_ne (by omega), m1]
    have x1 : b5.eval (.tmp 1) = .pointer (some ⟨x, 0, none⟩) := by rw [← hb5, eval_ne (by omega), x1]
    have y1 : b5.eval (.tmp 3) = .int .u8 (k : Int) := by rw [← hb5, eval_ne (by omega), y1]
    have r2 : b5.eval (.tmp (p + 2)) = undef := by rw [← hb5, eval_ne (by omega), r2]
    have r3 : b5.eval (.tmp (p + 3)) = undef := by rw [← hb5, eval_ne (by omega), r3]
    have r4 : b5.eval (.tmp (p + 4)) = undef := by rw [← hb5, eval_ne (by omega), r4]
    have r5 : b5.eval (.tmp (p + 5)) = undef := by rw [← hb5, eval_eq (by omega)]
    refine step_offU (d := p + 6) (m := p + 4) rfl rfl hh (by omega) r4 ?_
    obtain ⟨b6, hb6⟩ : ∃ b, b5.put (some (p + 6)) (undef) = b := ⟨_, rfl⟩
    rw [hb6]
    have s6 : b6.tmps.size = N := by rw [← hb6, size_put, s5]
    have m1 : b6.eval (.tmp (p + 1)) = .bool false := by rw [← hb6, eval_ne (by omega), m1]
    have x1 : b6.eval (.tmp 1) = .pointer (some ⟨x, 0, none⟩) := by rw [← hb6, eval_ne (by omega), x1]
    have y1 : b6.eval (.tmp 3) = .int .u8 (k : Int) := by rw [← hb6, eval_ne (by omega), y1]
    have r2 : b6.eval (.tmp (p + 2)) = undef := by rw [← hb6, eval_ne (by omega), r2]
    have r3 : b6.eval (.tmp (p + 3)) = undef := by rw [← hb6, eval_ne (by omega), r3]
    have r4 : b6.eval (.tmp (p + 4)) = undef := by rw [← hb6, eval_ne (by omega), r4]
    have r5 : b6.eval (.tmp (p + 5)) = undef := by rw [← hb6, eval_ne (by omega), r5]
    have r6 : b6.eval (.tmp (p + 6)) = undef := by rw [← hb6, eval_eq (by omega)]
    refine step_offU (d := p + 7) (m := p + 4) rfl rfl hh (by omega) r4 ?_
    obtain ⟨b7, hb7⟩ : ∃ b, b6.put (some (p + 7)) (undef) = b := ⟨_, rfl⟩
    rw [hb7]
    have s7 : b7.tmps.size = N := by rw [← hb7, size_put, s6]
    have m1 : b7.eval (.tmp (p + 1)) = .bool false := by rw [← hb7, eval_ne (by omega), m1]
    have x1 : b7.eval (.tmp 1) = .pointer (some ⟨x, 0, none⟩) := by rw [← hb7, eval_ne (by omega), x1]
    have y1 : b7.eval (.tmp 3) = .int .u8 (k : Int) := by rw [← hb7, eval_ne (by omega), y1]
    have r2 : b7.eval (.tmp (p + 2)) = undef := by rw [← hb7, eval_ne (by omega), r2]
    have r3 : b7.eval (.tmp (p + 3)) = undef := by rw [← hb7, eval_ne (by omega), r3]
    have r4 : b7.eval (.tmp (p + 4)) = undef := by rw [← hb7, eval_ne (by omega), r4]
    have r5 : b7.eval (.tmp (p + 5)) = undef := by rw [← hb7, eval_ne (by omega), r5]
    have r6 : b7.eval (.tmp (p + 6)) = undef := by rw [← hb7, eval_ne (by omega), r6]
    have r7 : b7.eval (.tmp (p + 7)) = undef := by rw [← hb7, eval_eq (by omega)]
    refine step_offU (d := p + 8) (m := p + 4) rfl rfl hh (by omega) r4 ?_
    obtain ⟨b8, hb8⟩ : ∃ b, b7.put (some (p + 8)) (undef) = b := ⟨_, rfl⟩
    rw [hb8]
    have s8 : b8.tmps.size = N := by rw [← hb8, size_put, s7]
    have m1 : b8.eval (.tmp (p + 1)) = .bool false := by rw [← hb8, eval_ne (by omega), m1]
    have x1 : b8.eval (.tmp 1) = .pointer (some ⟨x, 0, none⟩) := by rw [← hb8, eval_ne (by omega), x1]
    have y1 : b8.eval (.tmp 3) = .int .u8 (k : Int) := by rw [← hb8, eval_ne (by omega), y1]
    have r2 : b8.eval (.tmp (p + 2)) = undef := by rw [← hb8, eval_ne (by omega), r2]
    have r3 : b8.eval (.tmp (p + 3)) = undef := by rw [← hb8, eval_ne (by omega), r3]
    have r4 : b8.eval (.tmp (p + 4)) = undef := by rw [← hb8, eval_ne (by omega), r4]
    have r5 : b8.eval (.tmp (p + 5)) = undef := by rw [← hb8, eval_ne (by omega), r5]
    have r6 : b8.eval (.tmp (p + 6)) = undef := by rw [← hb8, eval_ne (by omega), r6]
    have r7 : b8.eval (.tmp (p + 7)) = undef := by rw [← hb8, eval_ne (by omega), r7]
    have r8 : b8.eval (.tmp (p + 8)) = undef := by rw [← hb8, eval_eq (by omega)]
    refine step_off (d := p + 9) rfl (by rw [hw b8 false true rfl s8 m1]; rfl) ?_
    obtain ⟨b9, hb9⟩ : ∃ b, b8.put (some (p + 9)) (undef) = b := ⟨_, rfl⟩
    rw [hb9]
    have s9 : b9.tmps.size = N := by rw [← hb9, size_put, s8]
    have m1 : b9.eval (.tmp (p + 1)) = .bool false := by rw [← hb9, eval_ne (by omega), m1]
    have x1 : b9.eval (.tmp 1) = .pointer (some ⟨x, 0, none⟩) := by rw [← hb9, eval_ne (by omega), x1]
    have y1 : b9.eval (.tmp 3) = .int .u8 (k : Int) := by rw [← hb9, eval_ne (by omega), y1]
    have r2 : b9.eval (.tmp (p + 2)) = undef := by rw [← hb9, eval_ne (by omega), r2]
    have r3 : b9.eval (.tmp (p + 3)) = undef := by rw [← hb9, eval_ne (by omega), r3]
    have r4 : b9.eval (.tmp (p + 4)) = undef := by rw [← hb9, eval_ne (by omega), r4]
    have r5 : b9.eval (.tmp (p + 5)) = undef := by rw [← hb9, eval_ne (by omega), r5]
    have r6 : b9.eval (.tmp (p + 6)) = undef := by rw [← hb9, eval_ne (by omega), r6]
    have r7 : b9.eval (.tmp (p + 7)) = undef := by rw [← hb9, eval_ne (by omega), r7]
    have r8 : b9.eval (.tmp (p + 8)) = undef := by rw [← hb9, eval_ne (by omega), r8]
    have r9 : b9.eval (.tmp (p + 9)) = undef := by rw [← hb9, eval_eq (by omega)]
    refine step_on (d := p + 10) rfl (by simp [Region.wanted]) (v := .bool false) ?_ ?_
    · show (do pure (Next.value (if ← asBool (b9.eval (.tmp (p + 1))) then b9.eval (.tmp (p + 9)) else .bool false)) : Sem Next).run P w = _
      rw [m1]; rfl
    obtain ⟨b10, hb10⟩ : ∃ b, b9.put (some (p + 10)) (.bool false) = b := ⟨_, rfl⟩
    rw [hb10]
    have s10 : b10.tmps.size = N := by rw [← hb10, size_put, s9]
    have m1 : b10.eval (.tmp (p + 1)) = .bool false := by rw [← hb10, eval_ne (by omega), m1]
    have x1 : b10.eval (.tmp 1) = .pointer (some ⟨x, 0, none⟩) := by rw [← hb10, eval_ne (by omega), x1]
    have y1 : b10.eval (.tmp 3) = .int .u8 (k : Int) := by rw [← hb10, eval_ne (by omega), y1]
    have r2 : b10.eval (.tmp (p + 2)) = undef := by rw [← hb10, eval_ne (by omega), r2]
    have r3 : b10.eval (.tmp (p + 3)) = undef := by rw [← hb10, eval_ne (by omega), r3]
    have r4 : b10.eval (.tmp (p + 4)) = undef := by rw [← hb10, eval_ne (by omega), r4]
    have r5 : b10.eval (.tmp (p + 5)) = undef := by rw [← hb10, eval_ne (by omega), r5]
    have r6 : b10.eval (.tmp (p + 6)) = undef := by rw [← hb10, eval_ne (by omega), r6]
    have r7 : b10.eval (.tmp (p + 7)) = undef := by rw [← hb10, eval_ne (by omega), r7]
    have r8 : b10.eval (.tmp (p + 8)) = undef := by rw [← hb10, eval_ne (by omega), r8]
    have r9 : b10.eval (.tmp (p + 9)) = undef := by rw [← hb10, eval_ne (by omega), r9]
    have r10 : b10.eval (.tmp (p + 10)) = .bool false := by rw [← hb10, eval_eq (by omega)]
    have hz := h0 (undef) (undef) (undef) (undef) (undef) (undef) (undef) (undef)
    rw [hb1, hb2, hb3, hb4, hb5, hb6, hb7, hb8, hb9] at hz
    rw [← hb10]
    exact hz
  · cases i
    · skip
      refine step_on (d := p + 2) rfl (by rw [hw b1 true true rfl s1 m1]; rfl) (v := .int .u8 (k : Int)) (by simp [execOp, y1]) ?_
      obtain ⟨b2, hb2⟩ : ∃ b, b1.put (some (p + 2)) (.int .u8 (k : Int)) = b := ⟨_, rfl⟩
      rw [hb2]
      have s2 : b2.tmps.size = N := by rw [← hb2, size_put, s1]
      have m1 : b2.eval (.tmp (p + 1)) = .bool true := by rw [← hb2, eval_ne (by omega), m1]
      have x1 : b2.eval (.tmp 1) = .pointer (some ⟨x, 0, none⟩) := by rw [← hb2, eval_ne (by omega), x1]
      have y1 : b2.eval (.tmp 3) = .int .u8 (k : Int) := by rw [← hb2, eval_ne (by omega), y1]
      have r2 : b2.eval (.tmp (p + 2)) = .int .u8 (k : Int) := by rw [← hb2, eval_eq (by omega)]
      refine step_wp (by rw [hw b2 true true rfl s2 m1]; rfl) (hm3 b2 _ r2 ?_)
      show wpList P ops Q _ (b2.put (some (p + 3)) (.bool false)) w
      obtain ⟨b3, hb3⟩ : ∃ b, b2.put (some (p + 3)) (.bool false) = b := ⟨_, rfl⟩
      rw [hb3]
      have s3 : b3.tmps.size = N := by rw [← hb3, size_put, s2]
      have m1 : b3.eval (.tmp (p + 1)) = .bool true := by rw [← hb3, eval_ne (by omega), m1]
      have x1 : b3.eval (.tmp 1) = .pointer (some ⟨x, 0, none⟩) := by rw [← hb3, eval_ne (by omega), x1]
      have y1 : b3.eval (.tmp 3) = .int .u8 (k : Int) := by rw [← hb3, eval_ne (by omega), y1]
      have r2 : b3.eval (.tmp (p + 2)) = .int .u8 (k : Int) := by rw [← hb3, eval_ne (by omega), r2]
      have r3 : b3.eval (.tmp (p + 3)) = .bool false := by rw [← hb3, eval_eq (by omega)]
      refine step_on (d := p + 4) rfl (by rw [hw b3 true true rfl s3 m1]; rfl) (v := .bool false) (by simp [execOp, r3]) ?_
      obtain ⟨b4, hb4⟩ : ∃ b, b3.put (some (p + 4)) (.bool false) = b := ⟨_, rfl⟩
      rw [hb4]
      have s4 : b4.tmps.size = N := by rw [← hb4, size_put, s3]
      have m1 : b4.eval (.tmp (p + 1)) = .bool true := by rw [← hb4, eval_ne (by omega), m1]
      have x1 : b4.eval (.tmp 1) = .pointer (some ⟨x, 0, none⟩) := by rw [← hb4, eval_ne (by omega), x1]
      have y1 : b4.eval (.tmp 3) = .int .u8 (k : Int) := by rw [← hb4, eval_ne (by omega), y1]
      have r2 : b4.eval (.tmp (p + 2)) = .int .u8 (k : Int) := by rw [← hb4, eval_ne (by omega), r2]
      have r3 : b4.eval (.tmp (p + 3)) = .bool false := by rw [← hb4, eval_ne (by omega), r3]
      have r4 : b4.eval (.tmp (p + 4)) = .bool false := by rw [← hb4, eval_eq (by omega)]
      refine step_on (d := p + 5) rfl (by rw [hv b4 false false rfl s4 r4]; rfl) (v := .pointer (some ⟨x, fi, none⟩)) (by simp [execOp, x1, hx]) ?_
      obtain ⟨b5, hb5⟩ : ∃ b, b4.put (some (p + 5)) (.pointer (some ⟨x, fi, none⟩)) = b := ⟨_, rfl⟩
      rw [hb5]
      have s5 : b5.tmps.size = N := by rw [← hb5, size_put, s4]
      have m1 : b5.eval (.tmp (p + 1)) = .bool true := by rw [← hb5, eval_ne (by omega), m1]
      have x1 : b5.eval (.tmp 1) = .pointer (some ⟨x, 0, none⟩) := by rw [← hb5, eval_ne (by omega), x1]
      have y1 : b5.eval (.tmp 3) = .int .u8 (k : Int) := by rw [← hb5, eval_ne (by omega), y1]
      have r2 : b5.eval (.tmp (p + 2)) = .int .u8 (k : Int) := by rw [← hb5, eval_ne (by omega), r2]
      have r3 : b5.eval (.tmp (p + 3)) = .bool false := by rw [← hb5, eval_ne (by omega), r3]
      have r4 : b5.eval (.tmp (p + 4)) = .bool false := by rw [← hb5, eval_ne (by omega), r4]
      have r5 : b5.eval (.tmp (p + 5)) = .pointer (some ⟨x, fi, none⟩) := by rw [← hb5, eval_eq (by omega)]
      refine step_on (d := p + 6) rfl (by rw [hv b5 false false rfl s5 r4]; rfl) (v := v1) (by simp [execOp, r5, h1]) ?_
      obtain ⟨b6, hb6⟩ : ∃ b, b5.put (some (p + 6)) (v1) = b := ⟨_, rfl⟩
      rw [hb6]
      have s6 : b6.tmps.size = N := by rw [← hb6, size_put, s5]
      have m1 : b6.eval (.tmp (p + 1)) = .bool true := by rw [← hb6, eval_ne (by omega), m1]
      have x1 : b6.eval (.tmp 1) = .pointer (some ⟨x, 0, none⟩) := by rw [← hb6, eval_ne (by omega), x1]
      have y1 : b6.eval (.tmp 3) = .int .u8 (k : Int) := by rw [← hb6, eval_ne (by omega), y1]
      have r2 : b6.eval (.tmp (p + 2)) = .int .u8 (k : Int) := by rw [← hb6, eval_ne (by omega), r2]
      have r3 : b6.eval (.tmp (p + 3)) = .bool false := by rw [← hb6, eval_ne (by omega), r3]
      have r4 : b6.eval (.tmp (p + 4)) = .bool false := by rw [← hb6, eval_ne (by omega), r4]
      have r5 : b6.eval (.tmp (p + 5)) = .pointer (some ⟨x, fi, none⟩) := by rw [← hb6, eval_ne (by omega), r5]
      have r6 : b6.eval (.tmp (p + 6)) = v1 := by rw [← hb6, eval_eq (by omega)]
      refine step_wp (by rw [hv b6 false false rfl s6 r4]; rfl) (hm7 b6 _ r6 ?_)
      show wpList P ops Q _ (b6.put (some (p + 7)) (u7)) w
      obtain ⟨b7, hb7⟩ : ∃ b, b6.put (some (p + 7)) (u7) = b := ⟨_, rfl⟩
      rw [hb7]
      have s7 : b7.tmps.size = N := by rw [← hb7, size_put, s6]
      have m1 : b7.eval (.tmp (p + 1)) = .bool true := by rw [← hb7, eval_ne (by omega), m1]
      have x1 : b7.eval (.tmp 1) = .pointer (some ⟨x, 0, none⟩) := by rw [← hb7, eval_ne (by omega), x1]
      have y1 : b7.eval (.tmp 3) = .int .u8 (k : Int) := by rw [← hb7, eval_ne (by omega), y1]
      have r2 : b7.eval (.tmp (p + 2)) = .int .u8 (k : Int) := by rw [← hb7, eval_ne (by omega), r2]
      have r3 : b7.eval (.tmp (p + 3)) = .bool false := by rw [← hb7, eval_ne (by omega), r3]
      have r4 : b7.eval (.tmp (p + 4)) = .bool false := by rw [← hb7, eval_ne (by omega), r4]
      have r5 : b7.eval (.tmp (p + 5)) = .pointer (some ⟨x, fi, none⟩) := by rw [← hb7, eval_ne (by omega), r5]
      have r6 : b7.eval (.tmp (p + 6)) = v1 := by rw [← hb7, eval_ne (by omega), r6]
      have r7 : b7.eval (.tmp (p + 7)) = u7 := by rw [← hb7, eval_eq (by omega)]
      refine step_wp (by rw [hv b7 false false rfl s7 r4]; rfl) (hm8 b7 _ r7 ?_)
      show wpList P ops Q _ (b7.put (some (p + 8)) ((.bool d))) w
      obtain ⟨b8, hb8⟩ : ∃ b, b7.put (some (p + 8)) ((.bool d)) = b := ⟨_, rfl⟩
      rw [hb8]
      have s8 : b8.tmps.size = N := by rw [← hb8, size_put, s7]
      have m1 : b8.eval (.tmp (p + 1)) = .bool true := by rw [← hb8, eval_ne (by omega), m1]
      have x1 : b8.eval (.tmp 1) = .pointer (some ⟨x, 0, none⟩) := by rw [← hb8, eval_ne (by omega), x1]
      have y1 : b8.eval (.tmp 3) = .int .u8 (k : Int) := by rw [← hb8, eval_ne (by omega), y1]
      have r2 : b8.eval (.tmp (p + 2)) = .int .u8 (k : Int) := by rw [← hb8, eval_ne (by omega), r2]
      have r3 : b8.eval (.tmp (p + 3)) = .bool false := by rw [← hb8, eval_ne (by omega), r3]
      have r4 : b8.eval (.tmp (p + 4)) = .bool false := by rw [← hb8, eval_ne (by omega), r4]
      have r5 : b8.eval (.tmp (p + 5)) = .pointer (some ⟨x, fi, none⟩) := by rw [← hb8, eval_ne (by omega), r5]
      have r6 : b8.eval (.tmp (p + 6)) = v1 := by rw [← hb8, eval_ne (by omega), r6]
      have r7 : b8.eval (.tmp (p + 7)) = u7 := by rw [← hb8, eval_ne (by omega), r7]
      have r8 : b8.eval (.tmp (p + 8)) = (.bool d) := by rw [← hb8, eval_eq (by omega)]
      refine step_on (d := p + 9) rfl (by rw [hw b8 true true rfl s8 m1]; rfl) (v := .bool d) ?_ ?_
      · show (do pure (Next.value (if ← asBool (b8.eval (.tmp (p + 4))) then .bool true else b8.eval (.tmp (p + 8)))) : Sem Next).run P w = _
        rw [r4, r8]; rfl
      obtain ⟨b9, hb9⟩ : ∃ b, b8.put (some (p + 9)) (.bool d) = b := ⟨_, rfl⟩
      rw [hb9]
      have s9 : b9.tmps.size = N := by rw [← hb9, size_put, s8]
      have m1 : b9.eval (.tmp (p + 1)) = .bool true := by rw [← hb9, eval_ne (by omega), m1]
      have x1 : b9.eval (.tmp 1) = .pointer (some ⟨x, 0, none⟩) := by rw [← hb9, eval_ne (by omega), x1]
      have y1 : b9.eval (.tmp 3) = .int .u8 (k : Int) := by rw [← hb9, eval_ne (by omega), y1]
      have r2 : b9.eval (.tmp (p + 2)) = .int .u8 (k : Int) := by rw [← hb9, eval_ne (by omega), r2]
      have r3 : b9.eval (.tmp (p + 3)) = .bool false := by rw [← hb9, eval_ne (by omega), r3]
      have r4 : b9.eval (.tmp (p + 4)) = .bool false := by rw [← hb9, eval_ne (by omega), r4]
      have r5 : b9.eval (.tmp (p + 5)) = .pointer (some ⟨x, fi, none⟩) := by rw [← hb9, eval_ne (by omega), r5]
      have r6 : b9.eval (.tmp (p + 6)) = v1 := by rw [← hb9, eval_ne (by omega), r6]
      have r7 : b9.eval (.tmp (p + 7)) = u7 := by rw [← hb9, eval_ne (by omega), r7]
      have r8 : b9.eval (.tmp (p + 8)) = (.bool d) := by rw [← hb9, eval_ne (by omega), r8]
      have r9 : b9.eval (.tmp (p + 9)) = .bool d := by rw [← hb9, eval_eq (by omega)]
      refine step_on (d := p + 10) rfl (by simp [Region.wanted]) (v := .bool d) ?_ ?_
      · show (do pure (Next.value (if ← asBool (b9.eval (.tmp (p + 1))) then b9.eval (.tmp (p + 9)) else .bool false)) : Sem Next).run P w = _
        rw [m1, r9]; rfl
      obtain ⟨b10, hb10⟩ : ∃ b, b9.put (some (p + 10)) (.bool d) = b := ⟨_, rfl⟩
      rw [hb10]
      have s10 : b10.tmps.size = N := by rw [← hb10, size_put, s9]
      have m1 : b10.eval (.tmp (p + 1)) = .bool true := by rw [← hb10, eval_ne (by omega), m1]
      have x1 : b10.eval (.tmp 1) = .pointer (some ⟨x, 0, none⟩) := by rw [← hb10, eval_ne (by omega), x1]
      have y1 : b10.eval (.tmp 3) = .int .u8 (k : Int) := by rw [← hb10, eval_ne (by omega), y1]
      have r2 : b10.eval (.tmp (p + 2)) = .int .u8 (k : Int) := by rw [← hb10, eval_ne (by omega), r2]
      have r3 : b10.eval (.tmp (p + 3)) = .bool false := by rw [← hb10, eval_ne (by omega), r3]
      have r4 : b10.eval (.tmp (p + 4)) = .bool false := by rw [← hb10, eval_ne (by omega), r4]
      have r5 : b10.eval (.tmp (p + 5)) = .pointer (some ⟨x, fi, none⟩) := by rw [← hb10, eval_ne (by omega), r5]
      have r6 : b10.eval (.tmp (p + 6)) = v1 := by rw [← hb10, eval_ne (by omega), r6]
      have r7 : b10.eval (.tmp (p + 7)) = u7 := by rw [← hb10, eval_ne (by omega), r7]
      have r8 : b10.eval (.tmp (p + 8)) = (.bool d) := by rw [← hb10, eval_ne (by omega), r8]
      have r9 : b10.eval (.tmp (p + 9)) = .bool d := by rw [← hb10, eval_ne (by omega), r9]
      have r10 : b10.eval (.tmp (p + 10)) = .bool d := by rw [← hb10, eval_eq (by omega)]
      have hz := h0 (.int .u8 (k : Int)) (.bool false) (.bool false) (.pointer (some ⟨x, fi, none⟩)) (v1) (u7) ((.bool d)) (.bool d)
      rw [hb1, hb2, hb3, hb4, hb5, hb6, hb7, hb8, hb9] at hz
      rw [← hb10]
      exact hz
    · skip
      refine step_on (d := p + 2) rfl (by rw [hw b1 true true rfl s1 m1]; rfl) (v := .int .u8 (k : Int)) (by simp [execOp, y1]) ?_
      obtain ⟨b2, hb2⟩ : ∃ b, b1.put (some (p + 2)) (.int .u8 (k : Int)) = b := ⟨_, rfl⟩
      rw [hb2]
      have s2 : b2.tmps.size = N := by rw [← hb2, size_put, s1]
      have m1 : b2.eval (.tmp (p + 1)) = .bool true := by rw [← hb2, eval_ne (by omega), m1]
      have x1 : b2.eval (.tmp 1) = .pointer (some ⟨x, 0, none⟩) := by rw [← hb2, eval_ne (by omega), x1]
      have y1 : b2.eval (.tmp 3) = .int .u8 (k : Int) := by rw [← hb2, eval_ne (by omega), y1]
      have r2 : b2.eval (.tmp (p + 2)) = .int .u8 (k : Int) := by rw [← hb2, eval_eq (by omega)]
      refine step_wp (by rw [hw b2 true true rfl s2 m1]; rfl) (hm3 b2 _ r2 ?_)
      show wpList P ops Q _ (b2.put (some (p + 3)) (.bool true)) w
      obtain ⟨b3, hb3⟩ : ∃ b, b2.put (some (p + 3)) (.bool true) = b := ⟨_, rfl⟩
      rw [hb3]
      have s3 : b3.tmps.size = N := by rw [← hb3, size_put, s2]
      have m1 : b3.eval (.tmp (p + 1)) = .bool true := by rw [← hb3, eval_ne (by omega), m1]
      have x1 : b3.eval (.tmp 1) = .pointer (some ⟨x, 0, none⟩) := by rw [← hb3, eval_ne (by omega), x1]
      have y1 : b3.eval (.tmp 3) = .int .u8 (k : Int) := by rw [← hb3, eval_ne (by omega), y1]
      have r2 : b3.eval (.tmp (p + 2)) = .int .u8 (k : Int) := by rw [← hb3, eval_ne (by omega), r2]
      have r3 : b3.eval (.tmp (p + 3)) = .bool true := by rw [← hb3, eval_eq (by omega)]
      refine step_on (d := p + 4) rfl (by rw [hw b3 true true rfl s3 m1]; rfl) (v := .bool true) (by simp [execOp, r3]) ?_
      obtain ⟨b4, hb4⟩ : ∃ b, b3.put (some (p + 4)) (.bool true) = b := ⟨_, rfl⟩
      rw [hb4]
      have s4 : b4.tmps.size = N := by rw [← hb4, size_put, s3]
      have m1 : b4.eval (.tmp (p + 1)) = .bool true := by rw [← hb4, eval_ne (by omega), m1]
      have x1 : b4.eval (.tmp 1) = .pointer (some ⟨x, 0, none⟩) := by rw [← hb4, eval_ne (by omega), x1]
      have y1 : b4.eval (.tmp 3) = .int .u8 (k : Int) := by rw [← hb4, eval_ne (by omega), y1]
      have r2 : b4.eval (.tmp (p + 2)) = .int .u8 (k : Int) := by rw [← hb4, eval_ne (by omega), r2]
      have r3 : b4.eval (.tmp (p + 3)) = .bool true := by rw [← hb4, eval_ne (by omega), r3]
      have r4 : b4.eval (.tmp (p + 4)) = .bool true := by rw [← hb4, eval_eq (by omega)]
      refine step_off (d := p + 5) rfl (by rw [hv b4 true false rfl s4 r4]; rfl) ?_
      obtain ⟨b5, hb5⟩ : ∃ b, b4.put (some (p + 5)) (undef) = b := ⟨_, rfl⟩
      rw [hb5]
      have s5 : b5.tmps.size = N := by rw [← hb5, size_put, s4]
      have m1 : b5.eval (.tmp (p + 1)) = .bool true := by rw [← hb5, eval_ne (by omega), m1]
      have x1 : b5.eval (.tmp 1) = .pointer (some ⟨x, 0, none⟩) := by rw [← hb5, eval_ne (by omega), x1]
      have y1 : b5.eval (.tmp 3) = .int .u8 (k : Int) := by rw [← hb5, eval_ne (by omega), y1]
      have r2 : b5.eval (.tmp (p + 2)) = .int .u8 (k : Int) := by rw [← hb5, eval_ne (by omega), r2]
      have r3 : b5.eval (.tmp (p + 3)) = .bool true := by rw [← hb5, eval_ne (by omega), r3]
      have r4 : b5.eval (.tmp (p + 4)) = .bool true := by rw [← hb5, eval_ne (by omega), r4]
      have r5 : b5.eval (.tmp (p + 5)) = undef := by rw [← hb5, eval_eq (by omega)]
      refine step_off (d := p + 6) rfl (by rw [hv b5 true false rfl s5 r4]; rfl) ?_
      obtain ⟨b6, hb6⟩ : ∃ b, b5.put (some (p + 6)) (undef) = b := ⟨_, rfl⟩
      rw [hb6]
      have s6 : b6.tmps.size = N := by rw [← hb6, size_put, s5]
      have m1 : b6.eval (.tmp (p + 1)) = .bool true := by rw [← hb6, eval_ne (by omega), m1]
      have x1 : b6.eval (.tmp 1) = .pointer (some ⟨x, 0, none⟩) := by rw [← hb6, eval_ne (by omega), x1]
      have y1 : b6.eval (.tmp 3) = .int .u8 (k : Int) := by rw [← hb6, eval_ne (by omega), y1]
      have r2 : b6.eval (.tmp (p + 2)) = .int .u8 (k : Int) := by rw [← hb6, eval_ne (by omega), r2]
      have r3 : b6.eval (.tmp (p + 3)) = .bool true := by rw [← hb6, eval_ne (by omega), r3]
      have r4 : b6.eval (.tmp (p + 4)) = .bool true := by rw [← hb6, eval_ne (by omega), r4]
      have r5 : b6.eval (.tmp (p + 5)) = undef := by rw [← hb6, eval_ne (by omega), r5]
      have r6 : b6.eval (.tmp (p + 6)) = undef := by rw [← hb6, eval_eq (by omega)]
      refine step_off (d := p + 7) rfl (by rw [hv b6 true false rfl s6 r4]; rfl) ?_
      obtain ⟨b7, hb7⟩ : ∃ b, b6.put (some (p + 7)) (undef) = b := ⟨_, rfl⟩
      rw [hb7]
      have s7 : b7.tmps.size = N := by rw [← hb7, size_put, s6]
      have m1 : b7.eval (.tmp (p + 1)) = .bool true := by rw [← hb7, eval_ne (by omega), m1]
      have x1 : b7.eval (.tmp 1) = .pointer (some ⟨x, 0, none⟩) := by rw [← hb7, eval_ne (by omega), x1]
      have y1 : b7.eval (.tmp 3) = .int .u8 (k : Int) := by rw [← hb7, eval_ne (by omega), y1]
      have r2 : b7.eval (.tmp (p + 2)) = .int .u8 (k : Int) := by rw [← hb7, eval_ne (by omega), r2]
      have r3 : b7.eval (.tmp (p + 3)) = .bool true := by rw [← hb7, eval_ne (by omega), r3]
      have r4 : b7.eval (.tmp (p + 4)) = .bool true := by rw [← hb7, eval_ne (by omega), r4]
      have r5 : b7.eval (.tmp (p + 5)) = undef := by rw [← hb7, eval_ne (by omega), r5]
      have r6 : b7.eval (.tmp (p + 6)) = undef := by rw [← hb7, eval_ne (by omega), r6]
      have r7 : b7.eval (.tmp (p + 7)) = undef := by rw [← hb7, eval_eq (by omega)]
      refine step_off (d := p + 8) rfl (by rw [hv b7 true false rfl s7 r4]; rfl) ?_
      obtain ⟨b8, hb8⟩ : ∃ b, b7.put (some (p + 8)) (undef) = b := ⟨_, rfl⟩
      rw [hb8]
      have s8 : b8.tmps.size = N := by rw [← hb8, size_put, s7]
      have m1 : b8.eval (.tmp (p + 1)) = .bool true := by rw [← hb8, eval_ne (by omega), m1]
      have x1 : b8.eval (.tmp 1) = .pointer (some ⟨x, 0, none⟩) := by rw [← hb8, eval_ne (by omega), x1]
      have y1 : b8.eval (.tmp 3) = .int .u8 (k : Int) := by rw [← hb8, eval_ne (by omega), y1]
      have r2 : b8.eval (.tmp (p + 2)) = .int .u8 (k : Int) := by rw [← hb8, eval_ne (by omega), r2]
      have r3 : b8.eval (.tmp (p + 3)) = .bool true := by rw [← hb8, eval_ne (by omega), r3]
      have r4 : b8.eval (.tmp (p + 4)) = .bool true := by rw [← hb8, eval_ne (by omega), r4]
      have r5 : b8.eval (.tmp (p + 5)) = undef := by rw [← hb8, eval_ne (by omega), r5]
      have r6 : b8.eval (.tmp (p + 6)) = undef := by rw [← hb8, eval_ne (by omega), r6]
      have r7 : b8.eval (.tmp (p + 7)) = undef := by rw [← hb8, eval_ne (by omega), r7]
      have r8 : b8.eval (.tmp (p + 8)) = undef := by rw [← hb8, eval_eq (by omega)]
      refine step_on (d := p + 9) rfl (by rw [hw b8 true true rfl s8 m1]; rfl) (v := .bool true) ?_ ?_
      · show (do pure (Next.value (if ← asBool (b8.eval (.tmp (p + 4))) then .bool true else b8.eval (.tmp (p + 8)))) : Sem Next).run P w = _
        rw [r4]; rfl
      obtain ⟨b9, hb9⟩ : ∃ b, b8.put (some (p + 9)) (.bool true) = b := ⟨_, rfl⟩
      rw [hb9]
      have s9 : b9.tmps.size = N := by rw [← hb9, size_put, s8]
      have m1 : b9.eval (.tmp (p + 1)) = .bool true := by rw [← hb9, eval_ne (by omega), m1]
      have x1 : b9.eval (.tmp 1) = .pointer (some ⟨x, 0, none⟩) := by rw [← hb9, eval_ne (by omega), x1]
      have y1 : b9.eval (.tmp 3) = .int .u8 (k : Int) := by rw [← hb9, eval_ne (by omega), y1]
      have r2 : b9.eval (.tmp (p + 2)) = .int .u8 (k : Int) := by rw [← hb9, eval_ne (by omega), r2]
      have r3 : b9.eval (.tmp (p + 3)) = .bool true := by rw [← hb9, eval_ne (by omega), r3]
      have r4 : b9.eval (.tmp (p + 4)) = .bool true := by rw [← hb9, eval_ne (by omega), r4]
      have r5 : b9.eval (.tmp (p + 5)) = undef := by rw [← hb9, eval_ne (by omega), r5]
      have r6 : b9.eval (.tmp (p + 6)) = undef := by rw [← hb9, eval_ne (by omega), r6]
      have r7 : b9.eval (.tmp (p + 7)) = undef := by rw [← hb9, eval_ne (by omega), r7]
      have r8 : b9.eval (.tmp (p + 8)) = undef := by rw [← hb9, eval_ne (by omega), r8]
      have r9 : b9.eval (.tmp (p + 9)) = .bool true := by rw [← hb9, eval_eq (by omega)]
      refine step_on (d := p + 10) rfl (by simp [Region.wanted]) (v := .bool true) ?_ ?_
      · show (do pure (Next.value (if ← asBool (b9.eval (.tmp (p + 1))) then b9.eval (.tmp (p + 9)) else .bool false)) : Sem Next).run P w = _
        rw [m1, r9]; rfl
      obtain ⟨b10, hb10⟩ : ∃ b, b9.put (some (p + 10)) (.bool true) = b := ⟨_, rfl⟩
      rw [hb10]
      have s10 : b10.tmps.size = N := by rw [← hb10, size_put, s9]
      have m1 : b10.eval (.tmp (p + 1)) = .bool true := by rw [← hb10, eval_ne (by omega), m1]
      have x1 : b10.eval (.tmp 1) = .pointer (some ⟨x, 0, none⟩) := by rw [← hb10, eval_ne (by omega), x1]
      have y1 : b10.eval (.tmp 3) = .int .u8 (k : Int) := by rw [← hb10, eval_ne (by omega), y1]
      have r2 : b10.eval (.tmp (p + 2)) = .int .u8 (k : Int) := by rw [← hb10, eval_ne (by omega), r2]
      have r3 : b10.eval (.tmp (p + 3)) = .bool true := by rw [← hb10, eval_ne (by omega), r3]
      have r4 : b10.eval (.tmp (p + 4)) = .bool true := by rw [← hb10, eval_ne (by omega), r4]
      have r5 : b10.eval (.tmp (p + 5)) = undef := by rw [← hb10, eval_ne (by omega), r5]
      have r6 : b10.eval (.tmp (p + 6)) = undef := by rw [← hb10, eval_ne (by omega), r6]
      have r7 : b10.eval (.tmp (p + 7)) = undef := by rw [← hb10, eval_ne (by omega), r7]
      have r8 : b10.eval (.tmp (p + 8)) = undef := by rw [← hb10, eval_ne (by omega), r8]
      have r9 : b10.eval (.tmp (p + 9)) = .bool true := by rw [← hb10, eval_ne (by omega), r9]
      have r10 : b10.eval (.tmp (p + 10)) = .bool true := by rw [← hb10, eval_eq (by omega)]
      have hz := h0 (.int .u8 (k : Int)) (.bool true) (.bool true) (undef) (undef) (undef) (undef) (.bool true)
      rw [hb1, hb2, hb3, hb4, hb5, hb6, hb7, hb8, hb9] at hz
      rw [← hb10]
      exact hz
end Go.Proofs.YtebdmfmadbikaaaDoor.Chain
