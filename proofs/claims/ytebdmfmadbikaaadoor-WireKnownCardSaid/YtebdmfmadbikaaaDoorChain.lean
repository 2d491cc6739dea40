/- A long row of tests, each made only where those ahead of it held ('a.x == b.x && a.y == b.y && ..'), taken a test at a time. -/
import Derived.WalkKit
import Derived.Tactics
import Derived.Tactics2
import Derived.Laws.StructEq
namespace Go.Proofs.YtebdmfmadbikaaaDoor.Chain
open Go.RowKit
variable {P : Program} {ops : Array Oper} {Q : Exit → Act → World → Prop} {a : Act} {w : World} {rest : List Oper}

theorem eval_put (a : Act) (d : Nat) (v : Value) (j : Nat) : (a.put (some d) v).eval (.tmp j) = if d = j ∧ d < a.tmps.size then v else a.eval (.tmp j) := by
  simp only [Act.put, Act.eval, Array.getD_eq_getD_getElem?, Array.getElem?_setIfInBounds]
  by_cases h : d = j
  · subst h
    by_cases h2 : d < a.tmps.size
    · simp [h2]
    · simp [h2]
  · simp [h]
theorem eval_ne {a : Act} {d : Nat} {v : Value} {j : Nat} (h : d ≠ j) : (a.put (some d) v).eval (.tmp j) = a.eval (.tmp j) := by rw [eval_put, if_neg (fun e => h e.1)]
theorem eval_eq {a : Act} {d : Nat} {v : Value} (h : d < a.tmps.size) : (a.put (some d) v).eval (.tmp d) = v := by rw [eval_put, if_pos ⟨rfl, h⟩]
theorem size_put (a : Act) (d : Nat) (v : Value) : (a.put (some d) v).tmps.size = a.tmps.size := by simp [Act.put]
theorem defers_put (a : Act) (d : Nat) (v : Value) : (a.put (some d) v).defers = a.defers := rfl
theorem step_on {o : Oper} {d : Nat} (hd : o.dst = some d) (hg : Region.wanted o (yielded ops a.tmps) = true) {v : Value} (hr : (execOp a.eval o).run P w = .ok (.value v) w) (h : wpList P ops Q rest (a.put (some d) v) w) : wpList P ops Q (o :: rest) a w := by
  rw [wpList, if_pos hg]
  left
  unfold Oper.wp
  rw [hr]
  show wpList P ops Q rest (a.put o.dst v) w
  rw [hd]; exact h
theorem step_off {o : Oper} {d : Nat} (hd : o.dst = some d) (hg : Region.wanted o (yielded ops a.tmps) = false) (h : wpList P ops Q rest (a.put (some d) undef) w) : wpList P ops Q (o :: rest) a w := by
  rw [wpList, if_neg (by rw [hg]; decide), hd]; exact h
theorem yielded_bool {g m : Nat} {b : Bool} (hg : (ops[g]?).bind (·.dst) = some m) (hm : m < a.tmps.size) (h : a.eval (.tmp m) = .bool b) : yielded ops a.tmps g = some b := by
  unfold yielded
  rw [hg]
  simp only [Act.eval, Array.getD_eq_getD_getElem?] at h
  simp only [Option.bind_some]
  rw [Array.getElem?_eq_getElem hm] at h ⊢
  simp only [Option.getD_some] at h
  rw [h]
/-- Two boxes, x and y, in slots 2 and 3; what has been tested so far in slot p. -/
def Ready (a : Act) (N p : Nat) (c : Bool) (x y : Nat) : Prop :=
  a.tmps.size = N ∧ a.defers = [] ∧ a.eval (.tmp 2) = .pointer (some ⟨x, 0, none⟩) ∧ a.eval (.tmp 3) = .pointer (some ⟨y, 0, none⟩) ∧ a.eval (.tmp p) = .bool c
theorem wp_grp0 (N p g fi T TL x y : Nat) (c d : Bool) (v1 v2 : Value) (hN : p + 7 < N) (hp : 3 < p) (ht : Ready a N (p + 1) c x y) (hg : (ops[g]?).bind (·.dst) = some (p + 1))
    (hx : (Instr.fieldAt T (.pointer (some ⟨x, 0, none⟩)) fi).run P w = .ok (.pointer (some ⟨x, fi, none⟩)) w) (hy : (Instr.fieldAt T (.pointer (some ⟨y, 0, none⟩)) fi).run P w = .ok (.pointer (some ⟨y, fi, none⟩)) w)
    (h1 : (Instr.loadAt TL (.pointer (some ⟨x, fi, none⟩))).run P w = .ok v1 w) (h2 : (Instr.loadAt TL (.pointer (some ⟨y, fi, none⟩))).run P w = .ok v2 w)
    (hq : ∀ o1 o2, (do eqGuard .eql TL o1 o2 v1 v2; binOp .eql TL v1 v2 : Sem Value).run P w = .ok (.bool d) w)
    {t1 t2 t3 t4 t5 t6 : TypeId} {p1 p2 p3 p4 p5 p6 : String} {f1 f2 f3 f4 f5 f6 : Array Edge} {TR : TypeId}
    (h : ∀ a', Ready a' N (p + 7) (c && d) x y → wpList P ops Q rest a' w) :
    wpList P ops Q (⟨some (p + 2), .fieldAddr T (.tmp 2) fi, t1, p1, f1, some (g, true)⟩ :: ⟨some (p + 3), .load TL (.tmp (p + 2)), t2, p2, f2, some (g, true)⟩ ::
      ⟨some (p + 4), .fieldAddr T (.tmp 3) fi, t3, p3, f3, some (g, true)⟩ :: ⟨some (p + 5), .load TL (.tmp (p + 4)), t4, p4, f4, some (g, true)⟩ :: ⟨some (p + 6), .binOp .eql TL (.tmp (p + 3)) (.tmp (p + 5)) TR, t5, p5, f5, some (g, true)⟩ ::
      ⟨some (p + 7), .pick (.tmp (p + 1)) (.tmp (p + 6)) (.const (.bool false)), t6, p6, f6, none⟩ :: rest) a w := by
  obtain ⟨s1, z1, x1, y1, m1⟩ := ht
  have hw : ∀ (b : Act) (u : Bool) {o : Oper}, o.guard = some (g, true) → b.tmps.size = N → b.eval (.tmp (p + 1)) = .bool u → Region.wanted o (yielded ops b.tmps) = u := by
    intro b u o ho hb hv
    have := yielded_bool (ops := ops) (a := b) hg (by rw [hb]; omega) hv
    simp only [Region.wanted, ho, this]
    cases u <;> rfl
  cases c
  · obtain ⟨b2, hb2⟩ : ∃ b2, ((((a.put (some (p + 2)) undef).put (some (p + 3)) undef).put (some (p + 4)) undef).put (some (p + 5)) undef).put (some (p + 6)) undef = b2 := ⟨_, rfl⟩
    refine step_off (d := p + 2) rfl (hw _ false rfl s1 m1) ?_
    refine step_off (d := p + 3) rfl (hw _ false rfl (by simp only [size_put, s1]) (by rw [eval_ne (by omega), m1])) ?_
    refine step_off (d := p + 4) rfl (hw _ false rfl (by simp only [size_put, s1]) (by rw [eval_ne (by omega), eval_ne (by omega), m1])) ?_
    refine step_off (d := p + 5) rfl (hw _ false rfl (by simp only [size_put, s1]) (by rw [eval_ne (by omega), eval_ne (by omega), eval_ne (by omega), m1])) ?_
    refine step_off (d := p + 6) rfl (hw _ false rfl (by simp only [size_put, s1]) (by rw [eval_ne (by omega), eval_ne (by omega), eval_ne (by omega), eval_ne (by omega), m1])) ?_
    rw [hb2]
    have s2 : b2.tmps.size = N := by rw [← hb2]; simp only [size_put, s1]
    have z2 : b2.defers = [] := by rw [← hb2]; simp only [defers_put, z1]
    have m2 : b2.eval (.tmp (p + 1)) = .bool false := by rw [← hb2, eval_ne (by omega), eval_ne (by omega), eval_ne (by omega), eval_ne (by omega), eval_ne (by omega), m1]
    have x2 : b2.eval (.tmp 2) = .pointer (some ⟨x, 0, none⟩) := by rw [← hb2, eval_ne (by omega), eval_ne (by omega), eval_ne (by omega), eval_ne (by omega), eval_ne (by omega), x1]
    have y2 : b2.eval (.tmp 3) = .pointer (some ⟨y, 0, none⟩) := by rw [← hb2, eval_ne (by omega), eval_ne (by omega), eval_ne (by omega), eval_ne (by omega), eval_ne (by omega), y1]
    clear hb2
    refine step_on (d := p + 7) rfl (by simp [Region.wanted]) (v := .bool false) ?_ ?_
    · show (do pure (Next.value (if ← asBool (b2.eval (.tmp (p + 1))) then b2.eval (.tmp (p + 6)) else .bool false)) : Sem Next).run P w = _
      rw [m2]; rfl
    · exact h _ ⟨by simp only [size_put, s2], by simp only [defers_put, z2], by rw [eval_ne (by omega), x2], by rw [eval_ne (by omega), y2], by rw [eval_eq (by omega)]; rfl⟩
  · refine step_on (d := p + 2) rfl (hw _ true rfl s1 m1) (v := .pointer (some ⟨x, fi, none⟩)) (by simp [execOp, x1, hx]) ?_
    refine step_on (d := p + 3) rfl (hw _ true rfl (by simp only [size_put, s1]) (by rw [eval_ne (by omega), m1])) (v := v1) (by have q := eval_eq (a := a) (d := p + 2) (v := .pointer (some ⟨x, fi, none⟩)) (by omega); simp [execOp, q, h1]) ?_
    have q3 : ((a.put (some (p + 2)) (.pointer (some ⟨x, fi, none⟩))).put (some (p + 3)) v1).eval (.tmp 3) = .pointer (some ⟨y, 0, none⟩) := by rw [eval_ne (by omega), eval_ne (by omega), y1]
    refine step_on (d := p + 4) rfl (hw _ true rfl (by simp only [size_put, s1]) (by rw [eval_ne (by omega), eval_ne (by omega), m1])) (v := .pointer (some ⟨y, fi, none⟩)) (by simp [execOp, q3, hy]) ?_
    refine step_on (d := p + 5) rfl (hw _ true rfl (by simp only [size_put, s1]) (by rw [eval_ne (by omega), eval_ne (by omega), eval_ne (by omega), m1])) (v := v2) (by have q := eval_eq (a := (a.put (some (p + 2)) (.pointer (some ⟨x, fi, none⟩))).put (some (p + 3)) v1) (d := p + 4) (v := .pointer (some ⟨y, fi, none⟩)) (by simp only [size_put]; omega); simp [execOp, q, h2]) ?_
    obtain ⟨b2, hb2⟩ : ∃ b2, (((a.put (some (p + 2)) (.pointer (some ⟨x, fi, none⟩))).put (some (p + 3)) v1).put (some (p + 4)) (.pointer (some ⟨y, fi, none⟩))).put (some (p + 5)) v2 = b2 := ⟨_, rfl⟩
    rw [hb2]
    have s2 : b2.tmps.size = N := by rw [← hb2]; simp only [size_put, s1]
    have z2 : b2.defers = [] := by rw [← hb2]; simp only [defers_put, z1]
    have m2 : b2.eval (.tmp (p + 1)) = .bool true := by rw [← hb2, eval_ne (by omega), eval_ne (by omega), eval_ne (by omega), eval_ne (by omega), m1]
    have x2 : b2.eval (.tmp 2) = .pointer (some ⟨x, 0, none⟩) := by rw [← hb2, eval_ne (by omega), eval_ne (by omega), eval_ne (by omega), eval_ne (by omega), x1]
    have y2 : b2.eval (.tmp 3) = .pointer (some ⟨y, 0, none⟩) := by rw [← hb2, eval_ne (by omega), eval_ne (by omega), eval_ne (by omega), eval_ne (by omega), y1]
    have l2 : b2.eval (.tmp (p + 3)) = v1 := by rw [← hb2, eval_ne (by omega), eval_ne (by omega), eval_eq (by simp only [size_put]; omega)]
    have r2 : b2.eval (.tmp (p + 5)) = v2 := by rw [← hb2, eval_eq (by simp only [size_put]; omega)]
    clear hb2
    refine step_on (d := p + 6) rfl (hw _ true rfl s2 m2) (v := .bool d) ?_ ?_
    · have q := hq (.tmp (p + 3)) (.tmp (p + 5))
      simp only [execOp, l2, r2]
      rw [Sem.run_bind, q]; rfl
    refine step_on (d := p + 7) rfl (by simp [Region.wanted]) (v := .bool d) ?_ ?_
    · show (do pure (Next.value (if ← asBool ((b2.put (some (p + 6)) (.bool d)).eval (.tmp (p + 1))) then (b2.put (some (p + 6)) (.bool d)).eval (.tmp (p + 6)) else .bool false)) : Sem Next).run P w = _
      rw [eval_ne (by omega), m2, eval_eq (by omega)]; rfl
    · exact h _ ⟨by simp only [size_put, s2], by simp only [defers_put, z2], by rw [eval_ne (by omega), eval_ne (by omega), x2], by rw [eval_ne (by omega), eval_ne (by omega), y2], by rw [eval_eq (by simp only [size_put]; omega)]; cases d <;> rfl⟩
theorem wp_grp (N p g fi T TL x y : Nat) (c d : Bool) (v1 v2 : Value) (hN : p + 7 < N) (hp : 3 < p) (ht : Ready a N p c x y) (hg : (ops[g]?).bind (·.dst) = some (p + 1))
    (hx : (Instr.fieldAt T (.pointer (some ⟨x, 0, none⟩)) fi).run P w = .ok (.pointer (some ⟨x, fi, none⟩)) w) (hy : (Instr.fieldAt T (.pointer (some ⟨y, 0, none⟩)) fi).run P w = .ok (.pointer (some ⟨y, fi, none⟩)) w)
    (h1 : (Instr.loadAt TL (.pointer (some ⟨x, fi, none⟩))).run P w = .ok v1 w) (h2 : (Instr.loadAt TL (.pointer (some ⟨y, fi, none⟩))).run P w = .ok v2 w)
    (hq : ∀ o1 o2, (do eqGuard .eql TL o1 o2 v1 v2; binOp .eql TL v1 v2 : Sem Value).run P w = .ok (.bool d) w)
    {t0 t1 t2 t3 t4 t5 t6 : TypeId} {p0 p1 p2 p3 p4 p5 p6 : String} {f0 f1 f2 f3 f4 f5 f6 : Array Edge} {TR : TypeId}
    (h : ∀ a', Ready a' N (p + 7) (c && d) x y → wpList P ops Q rest a' w) :
    wpList P ops Q (⟨some (p + 1), .move (.tmp p), t0, p0, f0, none⟩ :: ⟨some (p + 2), .fieldAddr T (.tmp 2) fi, t1, p1, f1, some (g, true)⟩ :: ⟨some (p + 3), .load TL (.tmp (p + 2)), t2, p2, f2, some (g, true)⟩ ::
      ⟨some (p + 4), .fieldAddr T (.tmp 3) fi, t3, p3, f3, some (g, true)⟩ :: ⟨some (p + 5), .load TL (.tmp (p + 4)), t4, p4, f4, some (g, true)⟩ :: ⟨some (p + 6), .binOp .eql TL (.tmp (p + 3)) (.tmp (p + 5)) TR, t5, p5, f5, some (g, true)⟩ ::
      ⟨some (p + 7), .pick (.tmp (p + 1)) (.tmp (p + 6)) (.const (.bool false)), t6, p6, f6, none⟩ :: rest) a w := by
  obtain ⟨hs, hd, e2, e3, ep⟩ := ht
  refine step_on (d := p + 1) rfl (by simp [Region.wanted]) (v := .bool c) (by rw [← ep]; rfl) ?_
  exact wp_grp0 N p g fi T TL x y c d v1 v2 hN hp ⟨by rw [size_put, hs], by rw [defers_put, hd], by rw [eval_ne (by omega), e2], by rw [eval_ne (by omega), e3], by rw [eval_eq (by omega)]⟩ hg hx hy h1 h2 hq h
end Go.Proofs.YtebdmfmadbikaaaDoor.Chain
