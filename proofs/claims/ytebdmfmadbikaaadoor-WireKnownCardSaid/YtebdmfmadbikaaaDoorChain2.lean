/- A long row of tests, each made only where those ahead of it failed ('a.x != b.x || a.y != b.y || ..'), taken a test at a time. -/
import Derived.Test.YtebdmfmadbikaaaDoorChain
namespace Go.Proofs.YtebdmfmadbikaaaDoor.Chain
open Go.RowKit
set_option linter.unusedVariables false
variable {P : Program} {ops : Array Oper} {Q : Exit → Act → World → Prop} {a : Act} {w : World} {rest : List Oper}

theorem or_f0 (N p g fi T TL x y : Nat) (c d : Bool) (v1 v2 : Value) (hN : p + 7 < N) (hp : 3 < p) (hs : a.tmps.size = N) (e2 : a.eval (.tmp 2) = .pointer (some ⟨x, 0, none⟩)) (e3 : a.eval (.tmp 3) = .pointer (some ⟨y, 0, none⟩)) (ep : a.eval (.tmp (p + 1)) = .bool c) (hg : (ops[g]?).bind (·.dst) = some (p + 1))
    (hx : (Instr.fieldAt T (.pointer (some ⟨x, 0, none⟩)) fi).run P w = .ok (.pointer (some ⟨x, fi, none⟩)) w) (hy : (Instr.fieldAt T (.pointer (some ⟨y, 0, none⟩)) fi).run P w = .ok (.pointer (some ⟨y, fi, none⟩)) w)
    (h1 : (Instr.loadAt TL (.pointer (some ⟨x, fi, none⟩))).run P w = .ok v1 w) (h2 : (Instr.loadAt TL (.pointer (some ⟨y, fi, none⟩))).run P w = .ok v2 w)
    {t2 t3 t4 t5 t6 t7 : TypeId} {p2 p3 p4 p5 p6 p7 : String} {f2 f3 f4 f5 f6 f7 : Array Edge} {TR : TypeId}
    (hq : ∀ o1 o2, (do eqGuard .neq TL o1 o2 v1 v2; binOp .neq TL v1 v2 : Sem Value).run P w = .ok (.bool d) w)
    (h : ∀ j2 j3 j4 j5 j6 : Value, wpList P ops Q rest (((((((a).put (some (p + 2)) j2).put (some (p + 3)) j3).put (some (p + 4)) j4).put (some (p + 5)) j5).put (some (p + 6)) j6).put (some (p + 7)) (.bool (c || d))) w) :
    wpList P ops Q (⟨some (p + 2), .fieldAddr T (.tmp 2) fi, t2, p2, f2, some (g, false)⟩ :: ⟨some (p + 3), .load TL (.tmp (p + 2)), t3, p3, f3, some (g, false)⟩ :: ⟨some (p + 4), .fieldAddr T (.tmp 3) fi, t4, p4, f4, some (g, false)⟩ :: ⟨some (p + 5), .load TL (.tmp (p + 4)), t5, p5, f5, some (g, false)⟩ :: ⟨some (p + 6), .binOp .neq TL (.tmp (p + 3)) (.tmp (p + 5)) TR, t6, p6, f6, some (g, false)⟩ ::
      ⟨some (p + 7), .pick (.tmp (p + 1)) (.const (.bool true)) (.tmp (p + 6)), t7, p7, f7, none⟩ :: rest) a w := by
  have hw : ∀ (b : Act) (u : Bool) {o : Oper}, o.guard = some (g, false) → b.tmps.size = N → b.eval (.tmp (p + 1)) = .bool u → Region.wanted o (yielded ops b.tmps) = !u := by
    intro b u o ho hb hv
    have := yielded_bool (ops := ops) (a := b) hg (by rw [hb]; omega) hv
    simp only [Region.wanted, ho, this]
    cases u <;> rfl
  obtain ⟨b1, hb1⟩ : ∃ b1, a = b1 := ⟨_, rfl⟩
  rw [hb1] at hs e2 e3 ep ⊢
  have s1 := hs
  have m1 := ep
  have x1 := e2
  have y1 := e3
  cases c
  · skip
    refine step_on (d := p + 2) rfl (hw _ false rfl s1 m1) (v := .pointer (some ⟨x, fi, none⟩)) (by simp [execOp, x1, hx]) ?_
    obtain ⟨b2, hb2⟩ : ∃ b, b1.put (some (p + 2)) (.pointer (some ⟨x, fi, none⟩)) = b := ⟨_, rfl⟩
    rw [hb2]
    have s2 : b2.tmps.size = N := by rw [← hb2, size_put, s1]
    have m2 : b2.eval (.tmp (p + 1)) = .bool false := by rw [← hb2, eval_ne (by omega), m1]
    have x2 : b2.eval (.tmp 2) = .pointer (some ⟨x, 0, none⟩) := by rw [← hb2, eval_ne (by omega), x1]
    have y2 : b2.eval (.tmp 3) = .pointer (some ⟨y, 0, none⟩) := by rw [← hb2, eval_ne (by omega), y1]
    have r2 : b2.eval (.tmp (p + 2)) = .pointer (some ⟨x, fi, none⟩) := by rw [← hb2, eval_eq (by omega)]
    refine step_on (d := p + 3) rfl (hw _ false rfl s2 m2) (v := v1) (by simp [execOp, r2, h1]) ?_
    obtain ⟨b3, hb3⟩ : ∃ b, b2.put (some (p + 3)) (v1) = b := ⟨_, rfl⟩
    rw [hb3]
    have s3 : b3.tmps.size = N := by rw [← hb3, size_put, s2]
    have m3 : b3.eval (.tmp (p + 1)) = .bool false := by rw [← hb3, eval_ne (by omega), m2]
    have x3 : b3.eval (.tmp 2) = .pointer (some ⟨x, 0, none⟩) := by rw [← hb3, eval_ne (by omega), x2]
    have y3 : b3.eval (.tmp 3) = .pointer (some ⟨y, 0, none⟩) := by rw [← hb3, eval_ne (by omega), y2]
    have r2 : b3.eval (.tmp (p + 2)) = .pointer (some ⟨x, fi, none⟩) := by rw [← hb3, eval_ne (by omega), r2]
    have r3 : b3.eval (.tmp (p + 3)) = v1 := by rw [← hb3, eval_eq (by omega)]
    refine step_on (d := p + 4) rfl (hw _ false rfl s3 m3) (v := .pointer (some ⟨y, fi, none⟩)) (by simp [execOp, y3, hy]) ?_
    obtain ⟨b4, hb4⟩ : ∃ b, b3.put (some (p + 4)) (.pointer (some ⟨y, fi, none⟩)) = b := ⟨_, rfl⟩
    rw [hb4]
    have s4 : b4.tmps.size = N := by rw [← hb4, size_put, s3]
    have m4 : b4.eval (.tmp (p + 1)) = .bool false := by rw [← hb4, eval_ne (by omega), m3]
    have x4 : b4.eval (.tmp 2) = .pointer (some ⟨x, 0, none⟩) := by rw [← hb4, eval_ne (by omega), x3]
    have y4 : b4.eval (.tmp 3) = .pointer (some ⟨y, 0, none⟩) := by rw [← hb4, eval_ne (by omega), y3]
    have r2 : b4.eval (.tmp (p + 2)) = .pointer (some ⟨x, fi, none⟩) := by rw [← hb4, eval_ne (by omega), r2]
    have r3 : b4.eval (.tmp (p + 3)) = v1 := by rw [← hb4, eval_ne (by omega), r3]
    have r4 : b4.eval (.tmp (p + 4)) = .pointer (some ⟨y, fi, none⟩) := by rw [← hb4, eval_eq (by omega)]
    refine step_on (d := p + 5) rfl (hw _ false rfl s4 m4) (v := v2) (by simp [execOp, r4, h2]) ?_
    obtain ⟨b5, hb5⟩ : ∃ b, b4.put (some (p + 5)) (v2) = b := ⟨_, rfl⟩
    rw [hb5]
    have s5 : b5.tmps.size = N := by rw [← hb5, size_put, s4]
    have m5 : b5.eval (.tmp (p + 1)) = .bool false := by rw [← hb5, eval_ne (by omega), m4]
    have x5 : b5.eval (.tmp 2) = .pointer (some ⟨x, 0, none⟩) := by rw [← hb5, eval_ne (by omega), x4]
    have y5 : b5.eval (.tmp 3) = .pointer (some ⟨y, 0, none⟩) := by rw [← hb5, eval_ne (by omega), y4]
    have r2 : b5.eval (.tmp (p + 2)) = .pointer (some ⟨x, fi, none⟩) := by rw [← hb5, eval_ne (by omega), r2]
    have r3 : b5.eval (.tmp (p + 3)) = v1 := by rw [← hb5, eval_ne (by omega), r3]
    have r4 : b5.eval (.tmp (p + 4)) = .pointer (some ⟨y, fi, none⟩) := by rw [← hb5, eval_ne (by omega), r4]
    have r5 : b5.eval (.tmp (p + 5)) = v2 := by rw [← hb5, eval_eq (by omega)]
    refine step_on (d := p + 6) rfl (hw _ false rfl s5 m5) (v := .bool d) ?_ ?_
    · have q := hq (.tmp (p + 3)) (.tmp (p + 5))
      simp only [execOp, r3, r5]
      rw [Sem.run_bind, q]; rfl
    obtain ⟨b6, hb6⟩ : ∃ b, b5.put (some (p + 6)) (.bool d) = b := ⟨_, rfl⟩
    rw [hb6]
    have s6 : b6.tmps.size = N := by rw [← hb6, size_put, s5]
    have m6 : b6.eval (.tmp (p + 1)) = .bool false := by rw [← hb6, eval_ne (by omega), m5]
    have x6 : b6.eval (.tmp 2) = .pointer (some ⟨x, 0, none⟩) := by rw [← hb6, eval_ne (by omega), x5]
    have y6 : b6.eval (.tmp 3) = .pointer (some ⟨y, 0, none⟩) := by rw [← hb6, eval_ne (by omega), y5]
    have r2 : b6.eval (.tmp (p + 2)) = .pointer (some ⟨x, fi, none⟩) := by rw [← hb6, eval_ne (by omega), r2]
    have r3 : b6.eval (.tmp (p + 3)) = v1 := by rw [← hb6, eval_ne (by omega), r3]
    have r4 : b6.eval (.tmp (p + 4)) = .pointer (some ⟨y, fi, none⟩) := by rw [← hb6, eval_ne (by omega), r4]
    have r5 : b6.eval (.tmp (p + 5)) = v2 := by rw [← hb6, eval_ne (by omega), r5]
    have r6 : b6.eval (.tmp (p + 6)) = .bool d := by rw [← hb6, eval_eq (by omega)]
    refine step_on (d := p + 7) rfl (by simp [Region.wanted]) (v := .bool d) ?_ ?_
    · show (do pure (Next.value (if ← asBool (b6.eval (.tmp (p + 1))) then .bool true else b6.eval (.tmp (p + 6)))) : Sem Next).run P w = _
      rw [m6, r6]; rfl
    · have hh := h (.pointer (some ⟨x, fi, none⟩)) (v1) (.pointer (some ⟨y, fi, none⟩)) (v2) (.bool d)
      rw [hb1, hb2, hb3, hb4, hb5, hb6] at hh
      exact hh
  · skip
    refine step_off (d := p + 2) rfl (hw _ true rfl s1 m1) ?_
    obtain ⟨b2, hb2⟩ : ∃ b, b1.put (some (p + 2)) (undef) = b := ⟨_, rfl⟩
    rw [hb2]
    have s2 : b2.tmps.size = N := by rw [← hb2, size_put, s1]
    have m2 : b2.eval (.tmp (p + 1)) = .bool true := by rw [← hb2, eval_ne (by omega), m1]
    have x2 : b2.eval (.tmp 2) = .pointer (some ⟨x, 0, none⟩) := by rw [← hb2, eval_ne (by omega), x1]
    have y2 : b2.eval (.tmp 3) = .pointer (some ⟨y, 0, none⟩) := by rw [← hb2, eval_ne (by omega), y1]
    refine step_off (d := p + 3) rfl (hw _ true rfl s2 m2) ?_
    obtain ⟨b3, hb3⟩ : ∃ b, b2.put (some (p + 3)) (undef) = b := ⟨_, rfl⟩
    rw [hb3]
    have s3 : b3.tmps.size = N := by rw [← hb3, size_put, s2]
    have m3 : b3.eval (.tmp (p + 1)) = .bool true := by rw [← hb3, eval_ne (by omega), m2]
    have x3 : b3.eval (.tmp 2) = .pointer (some ⟨x, 0, none⟩) := by rw [← hb3, eval_ne (by omega), x2]
    have y3 : b3.eval (.tmp 3) = .pointer (some ⟨y, 0, none⟩) := by rw [← hb3, eval_ne (by omega), y2]
    refine step_off (d := p + 4) rfl (hw _ true rfl s3 m3) ?_
    obtain ⟨b4, hb4⟩ : ∃ b, b3.put (some (p + 4)) (undef) = b := ⟨_, rfl⟩
    rw [hb4]
    have s4 : b4.tmps.size = N := by rw [← hb4, size_put, s3]
    have m4 : b4.eval (.tmp (p + 1)) = .bool true := by rw [← hb4, eval_ne (by omega), m3]
    have x4 : b4.eval (.tmp 2) = .pointer (some ⟨x, 0, none⟩) := by rw [← hb4, eval_ne (by omega), x3]
    have y4 : b4.eval (.tmp 3) = .pointer (some ⟨y, 0, none⟩) := by rw [← hb4, eval_ne (by omega), y3]
    refine step_off (d := p + 5) rfl (hw _ true rfl s4 m4) ?_
    obtain ⟨b5, hb5⟩ : ∃ b, b4.put (some (p + 5)) (undef) = b := ⟨_, rfl⟩
    rw [hb5]
    have s5 : b5.tmps.size = N := by rw [← hb5, size_put, s4]
    have m5 : b5.eval (.tmp (p + 1)) = .bool true := by rw [← hb5, eval_ne (by omega), m4]
    have x5 : b5.eval (.tmp 2) = .pointer (some ⟨x, 0, none⟩) := by rw [← hb5, eval_ne (by omega), x4]
    have y5 : b5.eval (.tmp 3) = .pointer (some ⟨y, 0, none⟩) := by rw [← hb5, eval_ne (by omega), y4]
    refine step_off (d := p + 6) rfl (hw _ true rfl s5 m5) ?_
    obtain ⟨b6, hb6⟩ : ∃ b, b5.put (some (p + 6)) (undef) = b := ⟨_, rfl⟩
    rw [hb6]
    have s6 : b6.tmps.size = N := by rw [← hb6, size_put, s5]
    have m6 : b6.eval (.tmp (p + 1)) = .bool true := by rw [← hb6, eval_ne (by omega), m5]
    have x6 : b6.eval (.tmp 2) = .pointer (some ⟨x, 0, none⟩) := by rw [← hb6, eval_ne (by omega), x5]
    have y6 : b6.eval (.tmp 3) = .pointer (some ⟨y, 0, none⟩) := by rw [← hb6, eval_ne (by omega), y5]
    refine step_on (d := p + 7) rfl (by simp [Region.wanted]) (v := .bool true) ?_ ?_
    · show (do pure (Next.value (if ← asBool (b6.eval (.tmp (p + 1))) then .bool true else b6.eval (.tmp (p + 6)))) : Sem Next).run P w = _
      rw [m6]; rfl
    · have hh := h (undef) (undef) (undef) (undef) (undef)
      rw [hb1, hb2, hb3, hb4, hb5, hb6] at hh
      exact hh
theorem or_f (N p g fi T TL x y : Nat) (c d : Bool) (v1 v2 : Value) (hN : p + 7 < N) (hp : 3 < p) (hs : a.tmps.size = N) (e2 : a.eval (.tmp 2) = .pointer (some ⟨x, 0, none⟩)) (e3 : a.eval (.tmp 3) = .pointer (some ⟨y, 0, none⟩)) (ep : a.eval (.tmp p) = .bool c) (hg : (ops[g]?).bind (·.dst) = some (p + 1))
    (hx : (Instr.fieldAt T (.pointer (some ⟨x, 0, none⟩)) fi).run P w = .ok (.pointer (some ⟨x, fi, none⟩)) w) (hy : (Instr.fieldAt T (.pointer (some ⟨y, 0, none⟩)) fi).run P w = .ok (.pointer (some ⟨y, fi, none⟩)) w)
    (h1 : (Instr.loadAt TL (.pointer (some ⟨x, fi, none⟩))).run P w = .ok v1 w) (h2 : (Instr.loadAt TL (.pointer (some ⟨y, fi, none⟩))).run P w = .ok v2 w)
    {t0 t2 t3 t4 t5 t6 t7 : TypeId} {p0 p2 p3 p4 p5 p6 p7 : String} {f0 f2 f3 f4 f5 f6 f7 : Array Edge} {TR : TypeId}
    (hq : ∀ o1 o2, (do eqGuard .neq TL o1 o2 v1 v2; binOp .neq TL v1 v2 : Sem Value).run P w = .ok (.bool d) w)
    (h : ∀ j2 j3 j4 j5 j6 : Value, wpList P ops Q rest (((((((a.put (some (p + 1)) (.bool c)).put (some (p + 2)) j2).put (some (p + 3)) j3).put (some (p + 4)) j4).put (some (p + 5)) j5).put (some (p + 6)) j6).put (some (p + 7)) (.bool (c || d))) w) :
    wpList P ops Q (⟨some (p + 1), .move (.tmp p), t0, p0, f0, none⟩ :: ⟨some (p + 2), .fieldAddr T (.tmp 2) fi, t2, p2, f2, some (g, false)⟩ :: ⟨some (p + 3), .load TL (.tmp (p + 2)), t3, p3, f3, some (g, false)⟩ :: ⟨some (p + 4), .fieldAddr T (.tmp 3) fi, t4, p4, f4, some (g, false)⟩ :: ⟨some (p + 5), .load TL (.tmp (p + 4)), t5, p5, f5, some (g, false)⟩ :: ⟨some (p + 6), .binOp .neq TL (.tmp (p + 3)) (.tmp (p + 5)) TR, t6, p6, f6, some (g, false)⟩ ::
      ⟨some (p + 7), .pick (.tmp (p + 1)) (.const (.bool true)) (.tmp (p + 6)), t7, p7, f7, none⟩ :: rest) a w := by
  have hw : ∀ (b : Act) (u : Bool) {o : Oper}, o.guard = some (g, false) → b.tmps.size = N → b.eval (.tmp (p + 1)) = .bool u → Region.wanted o (yielded ops b.tmps) = !u := by
    intro b u o ho hb hv
    have := yielded_bool (ops := ops) (a := b) hg (by rw [hb]; omega) hv
    simp only [Region.wanted, ho, this]
    cases u <;> rfl
  refine step_on (d := p + 1) rfl (by simp [Region.wanted]) (v := .bool c) (by rw [← ep]; rfl) ?_
  obtain ⟨b1, hb1⟩ : ∃ b1, a.put (some (p + 1)) (.bool c) = b1 := ⟨_, rfl⟩
  rw [hb1]
  have s1 : b1.tmps.size = N := by rw [← hb1, size_put, hs]
  have m1 : b1.eval (.tmp (p + 1)) = .bool c := by rw [← hb1, eval_eq (by omega)]
  have x1 : b1.eval (.tmp 2) = .pointer (some ⟨x, 0, none⟩) := by rw [← hb1, eval_ne (by omega), e2]
  have y1 : b1.eval (.tmp 3) = .pointer (some ⟨y, 0, none⟩) := by rw [← hb1, eval_ne (by omega), e3]
  cases c
  · skip
    refine step_on (d := p + 2) rfl (hw _ false rfl s1 m1) (v := .pointer (some ⟨x, fi, none⟩)) (by simp [execOp, x1, hx]) ?_
    obtain ⟨b2, hb2⟩ : ∃ b, b1.put (some (p + 2)) (.pointer (some ⟨x, fi, none⟩)) = b := ⟨_, rfl⟩
    rw [hb2]
    have s2 : b2.tmps.size = N := by rw [← hb2, size_put, s1]
    have m2 : b2.eval (.tmp (p + 1)) = .bool false := by rw [← hb2, eval_ne (by omega), m1]
    have x2 : b2.eval (.tmp 2) = .pointer (some ⟨x, 0, none⟩) := by rw [← hb2, eval_ne (by omega), x1]
    have y2 : b2.eval (.tmp 3) = .pointer (some ⟨y, 0, none⟩) := by rw [← hb2, eval_ne (by omega), y1]
    have r2 : b2.eval (.tmp (p + 2)) = .pointer (some ⟨x, fi, none⟩) := by rw [← hb2, eval_eq (by omega)]
    refine step_on (d := p + 3) rfl (hw _ false rfl s2 m2) (v := v1) (by simp [execOp, r2, h1]) ?_
    obtain ⟨b3, hb3⟩ : ∃ b, b2.put (some (p + 3)) (v1) = b := ⟨_, rfl⟩
    rw [hb3]
    have s3 : b3.tmps.size = N := by rw [← hb3, size_put, s2]
    have m3 : b3.eval (.tmp (p + 1)) = .bool false := by rw [← hb3, eval_ne (by omega), m2]
    have x3 : b3.eval (.tmp 2) = .pointer (some ⟨x, 0, none⟩) := by rw [← hb3, eval_ne (by omega), x2]
    have y3 : b3.eval (.tmp 3) = .pointer (some ⟨y, 0, none⟩) := by rw [← hb3, eval_ne (by omega), y2]
    have r2 : b3.eval (.tmp (p + 2)) = .pointer (some ⟨x, fi, none⟩) := by rw [← hb3, eval_ne (by omega), r2]
    have r3 : b3.eval (.tmp (p + 3)) = v1 := by rw [← hb3, eval_eq (by omega)]
    refine step_on (d := p + 4) rfl (hw _ false rfl s3 m3) (v := .pointer (some ⟨y, fi, none⟩)) (by simp [execOp, y3, hy]) ?_
    obtain ⟨b4, hb4⟩ : ∃ b, b3.put (some (p + 4)) (.pointer (some ⟨y, fi, none⟩)) = b := ⟨_, rfl⟩
    rw [hb4]
    have s4 : b4.tmps.size = N := by rw [← hb4, size_put, s3]
    have m4 : b4.eval (.tmp (p + 1)) = .bool false := by rw [← hb4, eval_ne (by omega), m3]
    have x4 : b4.eval (.tmp 2) = .pointer (some ⟨x, 0, none⟩) := by rw [← hb4, eval_ne (by omega), x3]
    have y4 : b4.eval (.tmp 3) = .pointer (some ⟨y, 0, none⟩) := by rw [← hb4, eval_ne (by omega), y3]
    have r2 : b4.eval (.tmp (p + 2)) = .pointer (some ⟨x, fi, none⟩) := by rw [← hb4, eval_ne (by omega), r2]
    have r3 : b4.eval (.tmp (p + 3)) = v1 := by rw [← hb4, eval_ne (by omega), r3]
    have r4 : b4.eval (.tmp (p + 4)) = .pointer (some ⟨y, fi, none⟩) := by rw [← hb4, eval_eq (by omega)]
    refine step_on (d := p + 5) rfl (hw _ false rfl s4 m4) (v := v2) (by simp [execOp, r4, h2]) ?_
    obtain ⟨b5, hb5⟩ : ∃ b, b4.put (some (p + 5)) (v2) = b := ⟨_, rfl⟩
    rw [hb5]
    have s5 : b5.tmps.size = N := by rw [← hb5, size_put, s4]
    have m5 : b5.eval (.tmp (p + 1)) = .bool false := by rw [← hb5, eval_ne (by omega), m4]
    have x5 : b5.eval (.tmp 2) = .pointer (some ⟨x, 0, none⟩) := by rw [← hb5, eval_ne (by omega), x4]
    have y5 : b5.eval (.tmp 3) = .pointer (some ⟨y, 0, none⟩) := by rw [← hb5, eval_ne (by omega), y4]
    have r2 : b5.eval (.tmp (p + 2)) = .pointer (some ⟨x, fi, none⟩) := by rw [← hb5, eval_ne (by omega), r2]
    have r3 : b5.eval (.tmp (p + 3)) = v1 := by rw [← hb5, eval_ne (by omega), r3]
    have r4 : b5.eval (.tmp (p + 4)) = .pointer (some ⟨y, fi, none⟩) := by rw [← hb5, eval_ne (by omega), r4]
    have r5 : b5.eval (.tmp (p + 5)) = v2 := by rw [← hb5, eval_eq (by omega)]
    refine step_on (d := p + 6) rfl (hw _ false rfl s5 m5) (v := .bool d) ?_ ?_
    · have q := hq (.tmp (p + 3)) (.tmp (p + 5))
      simp only [execOp, r3, r5]
      rw [Sem.run_bind, q]; rfl
    obtain ⟨b6, hb6⟩ : ∃ b, b5.put (some (p + 6)) (.bool d) = b := ⟨_, rfl⟩
    rw [hb6]
    have s6 : b6.tmps.size = N := by rw [← hb6, size_put, s5]
    have m6 : b6.eval (.tmp (p + 1)) = .bool false := by rw [← hb6, eval_ne (by omega), m5]
    have x6 : b6.eval (.tmp 2) = .pointer (some ⟨x, 0, none⟩) := by rw [← hb6, eval_ne (by omega), x5]
    have y6 : b6.eval (.tmp 3) = .pointer (some ⟨y, 0, none⟩) := by rw [← hb6, eval_ne (by omega), y5]
    have r2 : b6.eval (.tmp (p + 2)) = .pointer (some ⟨x, fi, none⟩) := by rw [← hb6, eval_ne (by omega), r2]
    have r3 : b6.eval (.tmp (p + 3)) = v1 := by rw [← hb6, eval_ne (by omega), r3]
    have r4 : b6.eval (.tmp (p + 4)) = .pointer (some ⟨y, fi, none⟩) := by rw [← hb6, eval_ne (by omega), r4]
    have r5 : b6.eval (.tmp (p + 5)) = v2 := by rw [← hb6, eval_ne (by omega), r5]
    have r6 : b6.eval (.tmp (p + 6)) = .bool d := by rw [← hb6, eval_eq (by omega)]
    refine step_on (d := p + 7) rfl (by simp [Region.wanted]) (v := .bool d) ?_ ?_
    · show (do pure (Next.value (if ← asBool (b6.eval (.tmp (p + 1))) then .bool true else b6.eval (.tmp (p + 6)))) : Sem Next).run P w = _
      rw [m6, r6]; rfl
    · have hh := h (.pointer (some ⟨x, fi, none⟩)) (v1) (.pointer (some ⟨y, fi, none⟩)) (v2) (.bool d)
      rw [hb1, hb2, hb3, hb4, hb5, hb6] at hh
      exact hh
  · skip
    refine step_off (d := p + 2) rfl (hw _ true rfl s1 m1) ?_
    obtain ⟨b2, hb2⟩ : ∃ b, b1.put (some (p + 2)) (undef) = b := ⟨_, rfl⟩
    rw [hb2]
    have s2 : b2.tmps.size = N := by rw [← hb2, size_put, s1]
    have m2 : b2.eval (.tmp (p + 1)) = .bool true := by rw [← hb2, eval_ne (by omega), m1]
    have x2 : b2.eval (.tmp 2) = .pointer (some ⟨x, 0, none⟩) := by rw [← hb2, eval_ne (by omega), x1]
    have y2 : b2.eval (.tmp 3) = .pointer (some ⟨y, 0, none⟩) := by rw [← hb2, eval_ne (by omega), y1]
    refine step_off (d := p + 3) rfl (hw _ true rfl s2 m2) ?_
    obtain ⟨b3, hb3⟩ : ∃ b, b2.put (some (p + 3)) (undef) = b := ⟨_, rfl⟩
    rw [hb3]
    have s3 : b3.tmps.size = N := by rw [← hb3, size_put, s2]
    have m3 : b3.eval (.tmp (p + 1)) = .bool true := by rw [← hb3, eval_ne (by omega), m2]
    have x3 : b3.eval (.tmp 2) = .pointer (some ⟨x, 0, none⟩) := by rw [← hb3, eval_ne (by omega), x2]
    have y3 : b3.eval (.tmp 3) = .pointer (some ⟨y, 0, none⟩) := by rw [← hb3, eval_ne (by omega), y2]
    refine step_off (d := p + 4) rfl (hw _ true rfl s3 m3) ?_
    obtain ⟨b4, hb4⟩ : ∃ b, b3.put (some (p + 4)) (undef) = b := ⟨_, rfl⟩
    rw [hb4]
    have s4 : b4.tmps.size = N := by rw [← hb4, size_put, s3]
    have m4 : b4.eval (.tmp (p + 1)) = .bool true := by rw [← hb4, eval_ne (by omega), m3]
    have x4 : b4.eval (.tmp 2) = .pointer (some ⟨x, 0, none⟩) := by rw [← hb4, eval_ne (by omega), x3]
    have y4 : b4.eval (.tmp 3) = .pointer (some ⟨y, 0, none⟩) := by rw [← hb4, eval_ne (by omega), y3]
    refine step_off (d := p + 5) rfl (hw _ true rfl s4 m4) ?_
    obtain ⟨b5, hb5⟩ : ∃ b, b4.put (some (p + 5)) (undef) = b := ⟨_, rfl⟩
    rw [hb5]
    have s5 : b5.tmps.size = N := by rw [← hb5, size_put, s4]
    have m5 : b5.eval (.tmp (p + 1)) = .bool true := by rw [← hb5, eval_ne (by omega), m4]
    have x5 : b5.eval (.tmp 2) = .pointer (some ⟨x, 0, none⟩) := by rw [← hb5, eval_ne (by omega), x4]
    have y5 : b5.eval (.tmp 3) = .pointer (some ⟨y, 0, none⟩) := by rw [← hb5, eval_ne (by omega), y4]
    refine step_off (d := p + 6) rfl (hw _ true rfl s5 m5) ?_
    obtain ⟨b6, hb6⟩ : ∃ b, b5.put (some (p + 6)) (undef) = b := ⟨_, rfl⟩
    rw [hb6]
    have s6 : b6.tmps.size = N := by rw [← hb6, size_put, s5]
    have m6 : b6.eval (.tmp (p + 1)) = .bool true := by rw [← hb6, eval_ne (by omega), m5]
    have x6 : b6.eval (.tmp 2) = .pointer (some ⟨x, 0, none⟩) := by rw [← hb6, eval_ne (by omega), x5]
    have y6 : b6.eval (.tmp 3) = .pointer (some ⟨y, 0, none⟩) := by rw [← hb6, eval_ne (by omega), y5]
    refine step_on (d := p + 7) rfl (by simp [Region.wanted]) (v := .bool true) ?_ ?_
    · show (do pure (Next.value (if ← asBool (b6.eval (.tmp (p + 1))) then .bool true else b6.eval (.tmp (p + 6)))) : Sem Next).run P w = _
      rw [m6]; rfl
    · have hh := h (undef) (undef) (undef) (undef) (undef)
      rw [hb1, hb2, hb3, hb4, hb5, hb6] at hh
      exact hh
theorem or_l (N p g fi T TL TE x y : Nat) (c d : Bool) (v1 v2 u1 u2 : Value) (hN : p + 9 < N) (hp : 3 < p) (hs : a.tmps.size = N) (e2 : a.eval (.tmp 2) = .pointer (some ⟨x, 0, none⟩)) (e3 : a.eval (.tmp 3) = .pointer (some ⟨y, 0, none⟩)) (ep : a.eval (.tmp p) = .bool c) (hg : (ops[g]?).bind (·.dst) = some (p + 1))
    (hx : (Instr.fieldAt T (.pointer (some ⟨x, 0, none⟩)) fi).run P w = .ok (.pointer (some ⟨x, fi, none⟩)) w) (hy : (Instr.fieldAt T (.pointer (some ⟨y, 0, none⟩)) fi).run P w = .ok (.pointer (some ⟨y, fi, none⟩)) w)
    (h1 : (Instr.loadAt TL (.pointer (some ⟨x, fi, none⟩))).run P w = .ok v1 w) (h2 : (Instr.loadAt TL (.pointer (some ⟨y, fi, none⟩))).run P w = .ok v2 w)
    {t0 t2 t3 t4 t5 t6 t7 t8 t9 : TypeId} {p0 p2 p3 p4 p5 p6 p7 p8 p9 : String} {f0 f2 f3 f4 f5 f6 f7 f8 f9 : Array Edge} {TR : TypeId}
    (hl1 : ∀ b : Act, b.eval (.tmp (p + 3)) = v1 → (execOp b.eval ⟨some (p + 4), .call { callee := .builtin .len, args := #[.tmp (p + 3)], argTypes := #[TL] }, t4, p4, f4, some (g, false)⟩).run P w = .ok (.value u1) w) (hl2 : ∀ b : Act, b.eval (.tmp (p + 6)) = v2 → (execOp b.eval ⟨some (p + 7), .call { callee := .builtin .len, args := #[.tmp (p + 6)], argTypes := #[TL] }, t7, p7, f7, some (g, false)⟩).run P w = .ok (.value u2) w)
    (hq : ∀ o1 o2, (do eqGuard .neq TE o1 o2 u1 u2; binOp .neq TE u1 u2 : Sem Value).run P w = .ok (.bool d) w)
    (h : ∀ j2 j3 j4 j5 j6 j7 j8 : Value, wpList P ops Q rest (((((((((a.put (some (p + 1)) (.bool c)).put (some (p + 2)) j2).put (some (p + 3)) j3).put (some (p + 4)) j4).put (some (p + 5)) j5).put (some (p + 6)) j6).put (some (p + 7)) j7).put (some (p + 8)) j8).put (some (p + 9)) (.bool (c || d))) w) :
    wpList P ops Q (⟨some (p + 1), .move (.tmp p), t0, p0, f0, none⟩ :: ⟨some (p + 2), .fieldAddr T (.tmp 2) fi, t2, p2, f2, some (g, false)⟩ :: ⟨some (p + 3), .load TL (.tmp (p + 2)), t3, p3, f3, some (g, false)⟩ :: ⟨some (p + 4), .call { callee := .builtin .len, args := #[.tmp (p + 3)], argTypes := #[TL] }, t4, p4, f4, some (g, false)⟩ :: ⟨some (p + 5), .fieldAddr T (.tmp 3) fi, t5, p5, f5, some (g, false)⟩ :: ⟨some (p + 6), .load TL (.tmp (p + 5)), t6, p6, f6, some (g, false)⟩ :: ⟨some (p + 7), .call { callee := .builtin .len, args := #[.tmp (p + 6)], argTypes := #[TL] }, t7, p7, f7, some (g, false)⟩ :: ⟨some (p + 8), .binOp .neq TE (.tmp (p + 4)) (.tmp (p + 7)) TR, t8, p8, f8, some (g, false)⟩ ::
      ⟨some (p + 9), .pick (.tmp (p + 1)) (.const (.bool true)) (.tmp (p + 8)), t9, p9, f9, none⟩ :: rest) a w := by
  have hw : ∀ (b : Act) (u : Bool) {o : Oper}, o.guard = some (g, false) → b.tmps.size = N → b.eval (.tmp (p + 1)) = .bool u → Region.wanted o (yielded ops b.tmps) = !u := by
    intro b u o ho hb hv
    have := yielded_bool (ops := ops) (a := b) hg (by rw [hb]; omega) hv
    simp only [Region.wanted, ho, this]
    cases u <;> rfl
  refine step_on (d := p + 1) rfl (by simp [Region.wanted]) (v := .bool c) (by rw [← ep]; rfl) ?_
  obtain ⟨b1, hb1⟩ : ∃ b1, a.put (some (p + 1)) (.bool c) = b1 := ⟨_, rfl⟩
  rw [hb1]
  have s1 : b1.tmps.size = N := by rw [← hb1, size_put, hs]
  have m1 : b1.eval (.tmp (p + 1)) = .bool c := by rw [← hb1, eval_eq (by omega)]
  have x1 : b1.eval (.tmp 2) = .pointer (some ⟨x, 0, none⟩) := by rw [← hb1, eval_ne (by omega), e2]
  have y1 : b1.eval (.tmp 3) = .pointer (some ⟨y, 0, none⟩) := by rw [← hb1, eval_ne (by omega), e3]
  cases c
  · skip
    refine step_on (d := p + 2) rfl (hw _ false rfl s1 m1) (v := .pointer (some ⟨x, fi, none⟩)) (by simp [execOp, x1, hx]) ?_
    obtain ⟨b2, hb2⟩ : ∃ b, b1.put (some (p + 2)) (.pointer (some ⟨x, fi, none⟩)) = b := ⟨_, rfl⟩
    rw [hb2]
    have s2 : b2.tmps.size = N := by rw [← hb2, size_put, s1]
    have m2 : b2.eval (.tmp (p + 1)) = .bool false := by rw [← hb2, eval_ne (by omega), m1]
    have x2 : b2.eval (.tmp 2) = .pointer (some ⟨x, 0, none⟩) := by rw [← hb2, eval_ne (by omega), x1]
    have y2 : b2.eval (.tmp 3) = .pointer (some ⟨y, 0, none⟩) := by rw [← hb2, eval_ne (by omega), y1]
    have r2 : b2.eval (.tmp (p + 2)) = .pointer (some ⟨x, fi, none⟩) := by rw [← hb2, eval_eq (by omega)]
    refine step_on (d := p + 3) rfl (hw _ false rfl s2 m2) (v := v1) (by simp [execOp, r2, h1]) ?_
    obtain ⟨b3, hb3⟩ : ∃ b, b2.put (some (p + 3)) (v1) = b := ⟨_, rfl⟩
    rw [hb3]
    have s3 : b3.tmps.size = N := by rw [← hb3, size_put, s2]
    have m3 : b3.eval (.tmp (p + 1)) = .bool false := by rw [← hb3, eval_ne (by omega), m2]
    have x3 : b3.eval (.tmp 2) = .pointer (some ⟨x, 0, none⟩) := by rw [← hb3, eval_ne (by omega), x2]
    have y3 : b3.eval (.tmp 3) = .pointer (some ⟨y, 0, none⟩) := by rw [← hb3, eval_ne (by omega), y2]
    have r2 : b3.eval (.tmp (p + 2)) = .pointer (some ⟨x, fi, none⟩) := by rw [← hb3, eval_ne (by omega), r2]
    have r3 : b3.eval (.tmp (p + 3)) = v1 := by rw [← hb3, eval_eq (by omega)]
    refine step_on (d := p + 4) rfl (hw _ false rfl s3 m3) (v := u1) (hl1 b3 r3) ?_
    obtain ⟨b4, hb4⟩ : ∃ b, b3.put (some (p + 4)) (u1) = b := ⟨_, rfl⟩
    rw [hb4]
    have s4 : b4.tmps.size = N := by rw [← hb4, size_put, s3]
    have m4 : b4.eval (.tmp (p + 1)) = .bool false := by rw [← hb4, eval_ne (by omega), m3]
    have x4 : b4.eval (.tmp 2) = .pointer (some ⟨x, 0, none⟩) := by rw [← hb4, eval_ne (by omega), x3]
    have y4 : b4.eval (.tmp 3) = .pointer (some ⟨y, 0, none⟩) := by rw [← hb4, eval_ne (by omega), y3]
    have r2 : b4.eval (.tmp (p + 2)) = .pointer (some ⟨x, fi, none⟩) := by rw [← hb4, eval_ne (by omega), r2]
    have r3 : b4.eval (.tmp (p + 3)) = v1 := by rw [← hb4, eval_ne (by omega), r3]
    have r4 : b4.eval (.tmp (p + 4)) = u1 := by rw [← hb4, eval_eq (by omega)]
    refine step_on (d := p + 5) rfl (hw _ false rfl s4 m4) (v := .pointer (some ⟨y, fi, none⟩)) (by simp [execOp, y4, hy]) ?_
    obtain ⟨b5, hb5⟩ : ∃ b, b4.put (some (p + 5)) (.pointer (some ⟨y, fi, none⟩)) = b := ⟨_, rfl⟩
    rw [hb5]
    have s5 : b5.tmps.size = N := by rw [← hb5, size_put, s4]
    have m5 : b5.eval (.tmp (p + 1)) = .bool false := by rw [← hb5, eval_ne (by omega), m4]
    have x5 : b5.eval (.tmp 2) = .pointer (some ⟨x, 0, none⟩) := by rw [← hb5, eval_ne (by omega), x4]
    have y5 : b5.eval (.tmp 3) = .pointer (some ⟨y, 0, none⟩) := by rw [← hb5, eval_ne (by omega), y4]
    have r2 : b5.eval (.tmp (p + 2)) = .pointer (some ⟨x, fi, none⟩) := by rw [← hb5, eval_ne (by omega), r2]
    have r3 : b5.eval (.tmp (p + 3)) = v1 := by rw [← hb5, eval_ne (by omega), r3]
    have r4 : b5.eval (.tmp (p + 4)) = u1 := by rw [← hb5, eval_ne (by omega), r4]
    have r5 : b5.eval (.tmp (p + 5)) = .pointer (some ⟨y, fi, none⟩) := by rw [← hb5, eval_eq (by omega)]
    refine step_on (d := p + 6) rfl (hw _ false rfl s5 m5) (v := v2) (by simp [execOp, r5, h2]) ?_
    obtain ⟨b6, hb6⟩ : ∃ b, b5.put (some (p + 6)) (v2) = b := ⟨_, rfl⟩
    rw [hb6]
    have s6 : b6.tmps.size = N := by rw [← hb6, size_put, s5]
    have m6 : b6.eval (.tmp (p + 1)) = .bool false := by rw [← hb6, eval_ne (by omega), m5]
    have x6 : b6.eval (.tmp 2) = .pointer (some ⟨x, 0, none⟩) := by rw [← hb6, eval_ne (by omega), x5]
    have y6 : b6.eval (.tmp 3) = .pointer (some ⟨y, 0, none⟩) := by rw [← hb6, eval_ne (by omega), y5]
    have r2 : b6.eval (.tmp (p + 2)) = .pointer (some ⟨x, fi, none⟩) := by rw [← hb6, eval_ne (by omega), r2]
    have r3 : b6.eval (.tmp (p + 3)) = v1 := by rw [← hb6, eval_ne (by omega), r3]
    have r4 : b6.eval (.tmp (p + 4)) = u1 := by rw [← hb6, eval_ne (by omega), r4]
    have r5 : b6.eval (.tmp (p + 5)) = .pointer (some ⟨y, fi, none⟩) := by rw [← hb6, eval_ne (by omega), r5]
    have r6 : b6.eval (.tmp (p + 6)) = v2 := by rw [← hb6, eval_eq (by omega)]
    refine step_on (d := p + 7) rfl (hw _ false rfl s6 m6) (v := u2) (hl2 b6 r6) ?_
    obtain ⟨b7, hb7⟩ : ∃ b, b6.put (some (p + 7)) (u2) = b := ⟨_, rfl⟩
    rw [hb7]
    have s7 : b7.tmps.size = N := by rw [← hb7, size_put, s6]
    have m7 : b7.eval (.tmp (p + 1)) = .bool false := by rw [← hb7, eval_ne (by omega), m6]
    have x7 : b7.eval (.tmp 2) = .pointer (some ⟨x, 0, none⟩) := by rw [← hb7, eval_ne (by omega), x6]
    have y7 : b7.eval (.tmp 3) = .pointer (some ⟨y, 0, none⟩) := by rw [← hb7, eval_ne (by omega), y6]
    have r2 : b7.eval (.tmp (p + 2)) = .pointer (some ⟨x, fi, none⟩) := by rw [← hb7, eval_ne (by omega), r2]
    have r3 : b7.eval (.tmp (p + 3)) = v1 := by rw [← hb7, eval_ne (by omega), r3]
    have r4 : b7.eval (.tmp (p + 4)) = u1 := by rw [← hb7, eval_ne (by omega), r4]
    have r5 : b7.eval (.tmp (p + 5)) = .pointer (some ⟨y, fi, none⟩) := by rw [← hb7, eval_ne (by omega), r5]
    have r6 : b7.eval (.tmp (p + 6)) = v2 := by rw [← hb7, eval_ne (by omega), r6]
    have r7 : b7.eval (.tmp (p + 7)) = u2 := by rw [← hb7, eval_eq (by omega)]
    refine step_on (d := p + 8) rfl (hw _ false rfl s7 m7) (v := .bool d) ?_ ?_
    · have q := hq (.tmp (p + 4)) (.tmp (p + 7))
      simp only [execOp, r4, r7]
      rw [Sem.run_bind, q]; rfl
    obtain ⟨b8, hb8⟩ : ∃ b, b7.put (some (p + 8)) (.bool d) = b := ⟨_, rfl⟩
    rw [hb8]
    have s8 : b8.tmps.size = N := by rw [← hb8, size_put, s7]
    have m8 : b8.eval (.tmp (p + 1)) = .bool false := by rw [← hb8, eval_ne (by omega), m7]
    have x8 : b8.eval (.tmp 2) = .pointer (some ⟨x, 0, none⟩) := by rw [← hb8, eval_ne (by omega), x7]
    have y8 : b8.eval (.tmp 3) = .pointer (some ⟨y, 0, none⟩) := by rw [← hb8, eval_ne (by omega), y7]
    have r2 : b8.eval (.tmp (p + 2)) = .pointer (some ⟨x, fi, none⟩) := by rw [← hb8, eval_ne (by omega), r2]
    have r3 : b8.eval (.tmp (p + 3)) = v1 := by rw [← hb8, eval_ne (by omega), r3]
    have r4 : b8.eval (.tmp (p + 4)) = u1 := by rw [← hb8, eval_ne (by omega), r4]
    have r5 : b8.eval (.tmp (p + 5)) = .pointer (some ⟨y, fi, none⟩) := by rw [← hb8, eval_ne (by omega), r5]
    have r6 : b8.eval (.tmp (p + 6)) = v2 := by rw [← hb8, eval_ne (by omega), r6]
    have r7 : b8.eval (.tmp (p + 7)) = u2 := by rw [← hb8, eval_ne (by omega), r7]
    have r8 : b8.eval (.tmp (p + 8)) = .bool d := by rw [← hb8, eval_eq (by omega)]
    refine step_on (d := p + 9) rfl (by simp [Region.wanted]) (v := .bool d) ?_ ?_
    · show (do pure (Next.value (if ← asBool (b8.eval (.tmp (p + 1))) then .bool true else b8.eval (.tmp (p + 8)))) : Sem Next).run P w = _
      rw [m8, r8]; rfl
    · have hh := h (.pointer (some ⟨x, fi, none⟩)) (v1) (u1) (.pointer (some ⟨y, fi, none⟩)) (v2) (u2) (.bool d)
      rw [hb1, hb2, hb3, hb4, hb5, hb6, hb7, hb8] at hh
      exact hh
  · skip
    refine step_off (d := p + 2) rfl (hw _ true rfl s1 m1) ?_
    obtain ⟨b2, hb2⟩ : ∃ b, b1.put (some (p + 2)) (undef) = b := ⟨_, rfl⟩
    rw [hb2]
    have s2 : b2.tmps.size = N := by rw [← hb2, size_put, s1]
    have m2 : b2.eval (.tmp (p + 1)) = .bool true := by rw [← hb2, eval_ne (by omega), m1]
    have x2 : b2.eval (.tmp 2) = .pointer (some ⟨x, 0, none⟩) := by rw [← hb2, eval_ne (by omega), x1]
    have y2 : b2.eval (.tmp 3) = .pointer (some ⟨y, 0, none⟩) := by rw [← hb2, eval_ne (by omega), y1]
    refine step_off (d := p + 3) rfl (hw _ true rfl s2 m2) ?_
    obtain ⟨b3, hb3⟩ : ∃ b, b2.put (some (p + 3)) (undef) = b := ⟨_, rfl⟩
    rw [hb3]
    have s3 : b3.tmps.size = N := by rw [← hb3, size_put, s2]
    have m3 : b3.eval (.tmp (p + 1)) = .bool true := by rw [← hb3, eval_ne (by omega), m2]
    have x3 : b3.eval (.tmp 2) = .pointer (some ⟨x, 0, none⟩) := by rw [← hb3, eval_ne (by omega), x2]
    have y3 : b3.eval (.tmp 3) = .pointer (some ⟨y, 0, none⟩) := by rw [← hb3, eval_ne (by omega), y2]
    refine step_off (d := p + 4) rfl (hw _ true rfl s3 m3) ?_
    obtain ⟨b4, hb4⟩ : ∃ b, b3.put (some (p + 4)) (undef) = b := ⟨_, rfl⟩
    rw [hb4]
    have s4 : b4.tmps.size = N := by rw [← hb4, size_put, s3]
    have m4 : b4.eval (.tmp (p + 1)) = .bool true := by rw [← hb4, eval_ne (by omega), m3]
    have x4 : b4.eval (.tmp 2) = .pointer (some ⟨x, 0, none⟩) := by rw [← hb4, eval_ne (by omega), x3]
    have y4 : b4.eval (.tmp 3) = .pointer (some ⟨y, 0, none⟩) := by rw [← hb4, eval_ne (by omega), y3]
    refine step_off (d := p + 5) rfl (hw _ true rfl s4 m4) ?_
    obtain ⟨b5, hb5⟩ : ∃ b, b4.put (some (p + 5)) (undef) = b := ⟨_, rfl⟩
    rw [hb5]
    have s5 : b5.tmps.size = N := by rw [← hb5, size_put, s4]
    have m5 : b5.eval (.tmp (p + 1)) = .bool true := by rw [← hb5, eval_ne (by omega), m4]
    have x5 : b5.eval (.tmp 2) = .pointer (some ⟨x, 0, none⟩) := by rw [← hb5, eval_ne (by omega), x4]
    have y5 : b5.eval (.tmp 3) = .pointer (some ⟨y, 0, none⟩) := by rw [← hb5, eval_ne (by omega), y4]
    refine step_off (d := p + 6) rfl (hw _ true rfl s5 m5) ?_
    obtain ⟨b6, hb6⟩ : ∃ b, b5.put (some (p + 6)) (undef) = b := ⟨_, rfl⟩
    rw [hb6]
    have s6 : b6.tmps.size = N := by rw [← hb6, size_put, s5]
    have m6 : b6.eval (.tmp (p + 1)) = .bool true := by rw [← hb6, eval_ne (by omega), m5]
    have x6 : b6.eval (.tmp 2) = .pointer (some ⟨x, 0, none⟩) := by rw [← hb6, eval_ne (by omega), x5]
    have y6 : b6.eval (.tmp 3) = .pointer (some ⟨y, 0, none⟩) := by rw [← hb6, eval_ne (by omega), y5]
    refine step_off (d := p + 7) rfl (hw _ true rfl s6 m6) ?_
    obtain ⟨b7, hb7⟩ : ∃ b, b6.put (some (p + 7)) (undef) = b := ⟨_, rfl⟩
    rw [hb7]
    have s7 : b7.tmps.size = N := by rw [← hb7, size_put, s6]
    have m7 : b7.eval (.tmp (p + 1)) = .bool true := by rw [← hb7, eval_ne (by omega), m6]
    have x7 : b7.eval (.tmp 2) = .pointer (some ⟨x, 0, none⟩) := by rw [← hb7, eval_ne (by omega), x6]
    have y7 : b7.eval (.tmp 3) = .pointer (some ⟨y, 0, none⟩) := by rw [← hb7, eval_ne (by omega), y6]
    refine step_off (d := p + 8) rfl (hw _ true rfl s7 m7) ?_
    obtain ⟨b8, hb8⟩ : ∃ b, b7.put (some (p + 8)) (undef) = b := ⟨_, rfl⟩
    rw [hb8]
    have s8 : b8.tmps.size = N := by rw [← hb8, size_put, s7]
    have m8 : b8.eval (.tmp (p + 1)) = .bool true := by rw [← hb8, eval_ne (by omega), m7]
    have x8 : b8.eval (.tmp 2) = .pointer (some ⟨x, 0, none⟩) := by rw [← hb8, eval_ne (by omega), x7]
    have y8 : b8.eval (.tmp 3) = .pointer (some ⟨y, 0, none⟩) := by rw [← hb8, eval_ne (by omega), y7]
    refine step_on (d := p + 9) rfl (by simp [Region.wanted]) (v := .bool true) ?_ ?_
    · show (do pure (Next.value (if ← asBool (b8.eval (.tmp (p + 1))) then .bool true else b8.eval (.tmp (p + 8)))) : Sem Next).run P w = _
      rw [m8]; rfl
    · have hh := h (undef) (undef) (undef) (undef) (undef) (undef) (undef)
      rw [hb1, hb2, hb3, hb4, hb5, hb6, hb7, hb8] at hh
      exact hh
end Go.Proofs.YtebdmfmadbikaaaDoor.Chain
