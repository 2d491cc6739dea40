/- Drawn regions in which several may come up: new variables in any order, then stores into them. -/
import Derived.Test.YthdapoipfnnaeaaHeldG
import Derived.Test.YthdapoipfnnaeaaRng
namespace Go.Proofs.Ythdapoipfnnaeaa.Rng
open Go.RowKit Go.Shelf Mem
set_option linter.unusedVariables false

section
variable {P : Program} {ops : Array Oper} {Q : Exit → Act → World → Prop} {md : Region.Mode} {T : World → Prop} {st : List Nat}
/-- Whichever comes up. -/
theorem wpAnyG_each {fuel : Nat} {listed : Array Bool} {a : Act} {w : World} (hne : Region.ready md ops listed ≠ [])
    (h : ∀ i ∈ Region.ready md ops listed, ∃ o, ops[i]? = some o ∧ ∀ K' : Act → World → Prop, Shut (∀ a w, (stOk st (listed.setIfInBounds i true) = true → T w) → ((stOk st (listed.setIfInBounds i true) = true → T w) → wpAnyG P md ops Q T st fuel (listed.setIfInBounds i true) a w) → K' a w) → if Region.wanted o (yielded ops a.tmps) = true then Oper.wp P o a w K' Q else K' (a.put o.dst undef) w) :
    wpAnyG P md ops Q T st (fuel + 1) listed a w := by
  refine ⟨fun h0 => absurd h0 hne, fun k hk => ?_⟩
  obtain ⟨o, ho, h⟩ := h k hk
  exact wpOp_step ho (fun K' hK => h K' (fun a w hS hW => hK a w ⟨hS, hW hS⟩))
theorem setIf_comm (l : Array Bool) {i j : Nat} (h : i ≠ j) : (l.setIfInBounds i true).setIfInBounds j true = (l.setIfInBounds j true).setIfInBounds i true := Array.setIfInBounds_comm _ _ h
theorem put_comm (a : Act) {i j : Nat} (h : i ≠ j) (x y : Value) : (a.put (some i) x).put (some j) y = (a.put (some j) y).put (some i) x := by
  unfold Act.put
  dsimp only
  rw [Array.setIfInBounds_comm _ _ h]
/-- A new variable of type ty. -/
structure NewOp (P : Program) (ty : TypeId) (zc : Array Value) (o : Oper) (d : Nat) : Prop where
  guard : o.guard = none
  op : o.op = .alloc ty
  dst : o.dst = some d
def NewRun (P : Program) (ty : TypeId) (zc : Array Value) : Prop := ∀ w : World, (Instr.alloc ty true (.tuple #[])).run P w = .ok (.pointer (some ⟨w.heap.size, 0, none⟩)) (w.alloc (.cells zc ty))
variable {ty : TypeId} {zc : Array Value}
theorem step_new {o : Oper} {d : Nat} {a : Act} {R : Act → World → Prop} {E : Prop} (w : World) (ho : NewOp P ty zc o d) (hr : NewRun P ty zc)
    (h : R (a.put (some d) (.pointer (some ⟨w.heap.size, 0, none⟩))) (w.alloc (.cells zc ty))) : if Region.wanted o (yielded ops a.tmps) = true then Oper.wp P o a w R Q else E := by
  rw [if_pos (by simp [Region.wanted, ho.guard])]
  unfold Oper.wp execOp
  simp only [ho.op, Sem.run_bind, hr w, Result.andThen_ok, Sem.run_pure]
  show R (a.put o.dst _) _
  rw [ho.dst]
  exact h
theorem wpAnyG_new {i d : Nat} {o : Oper} {fuel : Nat} {listed : Array Bool} {a : Act} {w : World} (hr : NewRun P ty zc) (ho : ops[i]? = some o) (hn : NewOp P ty zc o d) (hT : ∀ w', Below w.heap.size w w' → T w')
    (r : Region.ready md ops listed = [i])
    (h : ∀ g w', w.heap.size = g → Blk w' g ty zc → Below w.heap.size w w' → wpAnyG P md ops Q T st fuel (listed.setIfInBounds i true) (a.put (some d) (.pointer (some ⟨g, 0, none⟩))) w') :
    wpAnyG P md ops Q T st (fuel + 1) listed a w := by
  refine wpAnyG_one r ho (fun K hK => step_new w hn hr ?_)
  have hb := nextA (Mem.start w) (.cells zc ty)
  exact hK.out _ _ (fun _ => hT _ hb) fun _ => h _ _ rfl (Blk.new w _ _) hb
/-- Two new variables, in either order. -/
theorem wpAnyG_new2 {i j d e : Nat} {o u : Oper} {fuel : Nat} {listed : Array Bool} {a : Act} {w : World} (hr : NewRun P ty zc) (ho : ops[i]? = some o) (hu : ops[j]? = some u) (hn : NewOp P ty zc o d) (hm : NewOp P ty zc u e) (hij : i ≠ j) (hde : d ≠ e) (hT : ∀ w', Below w.heap.size w w' → T w')
    (r : Region.ready md ops listed = [i, j]) (ri : Region.ready md ops (listed.setIfInBounds i true) = [j]) (rj : Region.ready md ops (listed.setIfInBounds j true) = [i])
    (h : ∀ g k w', w.heap.size ≤ g → w.heap.size ≤ k → g ≠ k → Blk w' g ty zc → Blk w' k ty zc → Below w.heap.size w w' → wpAnyG P md ops Q T st fuel ((listed.setIfInBounds i true).setIfInBounds j true) ((a.put (some d) (.pointer (some ⟨g, 0, none⟩))).put (some e) (.pointer (some ⟨k, 0, none⟩))) w') :
    wpAnyG P md ops Q T st (fuel + 2) listed a w := by
  have hb := nextA (Mem.start w) (.cells zc ty)
  have hs : (w.alloc (.cells zc ty)).heap.size = w.heap.size + 1 := World.size_alloc _ _
  refine wpAnyG_each (by rw [r]; simp) fun q hq => ?_
  rw [r] at hq
  rcases List.mem_cons.1 hq with rfl | hq
  · refine ⟨o, ho, fun K hK => step_new w hn hr (hK.out _ _ (fun _ => hT _ hb) fun _ => ?_)⟩
    refine wpAnyG_new hr hu hm (fun w' hb' => hT w' (next hb hb')) ri fun k w' hk B hb' => ?_
    exact h _ _ w' (Nat.le_refl _) (by omega) (by omega) ((Blk.new w _ _).keep hb') B (next hb hb')
  · obtain rfl := List.mem_singleton.1 hq
    refine ⟨u, hu, fun K hK => step_new w hm hr (hK.out _ _ (fun _ => hT _ hb) fun _ => ?_)⟩
    refine wpAnyG_new hr ho hn (fun w' hb' => hT w' (next hb hb')) rj fun k w' hk B hb' => ?_
    rw [← setIf_comm _ hij, ← put_comm _ hde]
    exact h _ _ w' (by omega) (Nat.le_refl _) (by omega) B ((Blk.new w _ _).keep hb') (next hb hb')
/-- Three new variables, in any order. -/
theorem wpAnyG_new3 {i j k d e f : Nat} {o u v : Oper} {fuel : Nat} {listed : Array Bool} {a : Act} {w : World} (hr : NewRun P ty zc) (ho : ops[i]? = some o) (hu : ops[j]? = some u) (hv : ops[k]? = some v) (hn : NewOp P ty zc o d) (hm : NewOp P ty zc u e) (hl : NewOp P ty zc v f)
    (hij : i ≠ j) (hik : i ≠ k) (hjk : j ≠ k) (hde : d ≠ e) (hdf : d ≠ f) (hef : e ≠ f) (hT : ∀ w', Below w.heap.size w w' → T w')
    (r : Region.ready md ops listed = [i, j, k])
    (r1 : Region.ready md ops (listed.setIfInBounds i true) = [j, k]) (r12 : Region.ready md ops ((listed.setIfInBounds i true).setIfInBounds j true) = [k]) (r13 : Region.ready md ops ((listed.setIfInBounds i true).setIfInBounds k true) = [j])
    (r2 : Region.ready md ops (listed.setIfInBounds j true) = [i, k]) (r23 : Region.ready md ops ((listed.setIfInBounds j true).setIfInBounds k true) = [i])
    (r3 : Region.ready md ops (listed.setIfInBounds k true) = [i, j])
    (h : ∀ g p q w', w.heap.size ≤ g → w.heap.size ≤ p → w.heap.size ≤ q → g ≠ p → g ≠ q → p ≠ q → Blk w' g ty zc → Blk w' p ty zc → Blk w' q ty zc → Below w.heap.size w w' → wpAnyG P md ops Q T st fuel (((listed.setIfInBounds i true).setIfInBounds j true).setIfInBounds k true) (((a.put (some d) (.pointer (some ⟨g, 0, none⟩))).put (some e) (.pointer (some ⟨p, 0, none⟩))).put (some f) (.pointer (some ⟨q, 0, none⟩))) w') :
    wpAnyG P md ops Q T st (fuel + 3) listed a w := by
  have hb := nextA (Mem.start w) (.cells zc ty)
  have hs : (w.alloc (.cells zc ty)).heap.size = w.heap.size + 1 := World.size_alloc _ _
  refine wpAnyG_each (by rw [r]; simp) fun x hx => ?_
  rw [r] at hx
  rcases List.mem_cons.1 hx with rfl | hx
  · refine ⟨o, ho, fun K hK => step_new w hn hr (hK.out _ _ (fun _ => hT _ hb) fun _ => ?_)⟩
    refine wpAnyG_new2 hr hu hv hm hl hjk hef (fun w' hb' => hT w' (next hb hb')) r1 r12 r13 fun p q w' h1 h2 h3 B C hb' => ?_
    exact h _ _ _ w' (Nat.le_refl _) (by omega) (by omega) (by omega) (by omega) h3 ((Blk.new w _ _).keep hb') B C (next hb hb')
  · rcases List.mem_cons.1 hx with rfl | hx
    · refine ⟨u, hu, fun K hK => step_new w hm hr (hK.out _ _ (fun _ => hT _ hb) fun _ => ?_)⟩
      refine wpAnyG_new2 hr ho hv hn hl hik hdf (fun w' hb' => hT w' (next hb hb')) r2 (by rw [← setIf_comm _ hij]; exact r12) r23 fun p q w' h1 h2 h3 B C hb' => ?_
      rw [← setIf_comm _ hij, ← put_comm _ hde]
      exact h _ _ _ w' (by omega) (Nat.le_refl _) (by omega) (by omega) h3 (by omega) B ((Blk.new w _ _).keep hb') C (next hb hb')
    · obtain rfl := List.mem_singleton.1 hx
      refine ⟨v, hv, fun K hK => step_new w hl hr (hK.out _ _ (fun _ => hT _ hb) fun _ => ?_)⟩
      refine wpAnyG_new2 hr ho hu hn hm hij hde (fun w' hb' => hT w' (next hb hb')) r3 (by rw [← setIf_comm _ hik]; exact r13) (by rw [← setIf_comm _ hjk]; exact r23) fun p q w' h1 h2 h3 B C hb' => ?_
      rw [← setIf_comm _ hik, setIf_comm (listed.setIfInBounds i true) (Ne.symm hjk), ← put_comm _ hdf, put_comm (a.put _ _) (Ne.symm hef)]
      exact h _ _ _ w' (by omega) (by omega) (Nat.le_refl _) h3 (by omega) (by omega) B C ((Blk.new w _ _).keep hb') (next hb hb')
end
end Go.Proofs.Ythdapoipfnnaeaa.Rng
