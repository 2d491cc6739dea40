/- The document's bare. Printed by genwdoc2.py (raw numbers of the seat). -/
import Derived.Test.YtebdmfmadbikaaaDoorWrDoc1
import Derived.Test.YtebdmfmadbikaaaDoorWrRSame
import Derived.Test.YtebdmfmadbikaaaDoorChain3
namespace Go.Proofs.YtebdmfmadbikaaaDoor.WiW
open Go.RowKit Go.Shelf Mem Fds FdW Wi Rng
set_option linter.unusedVariables false
set_option linter.unusedSimpArgs false

theorem in_wp {Q : Exit → Act → World → Prop} (w : World) (k : Nat) (hk : k < 256) (f : Nat) (hf : f < 11) (c : Nat) (hc : (letter f).toNat = c) (b : Act) (K : Act → World → Prop) (x d : Nat) (ty : TypeId) (ps : String) (af : Array Edge) (gd : Option (Nat × Bool)) (hx : b.eval (.tmp x) = .int .u8 (k : Int))
    (hK : K (b.put (some d) (.bool (decide (f ∈ flds k)))) w) : Oper.wp Tryd.prog ⟨some d, .call { callee := .value (.func 26), args := #[.tmp x, .const (.int .u8 (c : Int))], argTypes := #[5, 5] }, ty, ps, af, gd⟩ b w K Q := by
  have h2 := hx
  simp [Act.eval] at h2
  unfold Oper.wp
  simp [execOp, h2, go_sem]
  refine (in_any w k hk f hf c hc).mono ?_
  rintro e w1 ⟨rfl, rfl⟩
  exact hK
theorem eql_wp {Q : Exit → Act → World → Prop} (w : World) (T TR : TypeId) (b : Act) (K : Act → World → Prop) (x d : Nat) (z v : Value) (r : Bool) (ty : TypeId) (ps : String) (af : Array Edge) (gd : Option (Nat × Bool)) (hx : b.eval (.tmp x) = v)
    (hq : ∀ o1 o2, (do eqGuard .eql T o1 o2 v z; binOp .eql T v z : Sem Value).run Tryd.prog w = .ok (.bool r) w) (hK : K (b.put (some d) (.bool r)) w) : Oper.wp Tryd.prog ⟨some d, .binOp .eql T (.tmp x) (.const z) TR, ty, ps, af, gd⟩ b w K Q := by
  refine Chain.op_wp (v := .bool r) ?_ hK
  have q := hq (.tmp x) (.const z)
  have hz : b.eval (.const z) = z := rfl
  simp only [execOp, hx, hz]
  rw [Sem.run_bind, q]; rfl
theorem not_wp {Q : Exit → Act → World → Prop} (w : World) (b : Act) (K : Act → World → Prop) (x d : Nat) (r : Bool) (ty : TypeId) (ps : String) (af : Array Edge) (gd : Option (Nat × Bool)) (hx : b.eval (.tmp x) = .bool r)
    (hK : K (b.put (some d) (.bool (!r))) w) : Oper.wp Tryd.prog ⟨some d, .unOp .not 4 (.tmp x), ty, ps, af, gd⟩ b w K Q := by
  refine Chain.op_wp (v := .bool (!r)) ?_ hK
  have h2 := hx
  simp [Act.eval] at h2
  simp [execOp, h2, go_sem]
/-- Has a message only what its kind has? -/
def bareB (m : Msg) : Bool := same m (keep m (flds m.kind))
theorem bare_eq (m : Msg) : (((((((((((decide (0 ∈ flds m.kind) || (m.req == 0)) && (decide (1 ∈ flds m.kind) || ((str m.key).toList == (str []).toList))) && (decide (2 ∈ flds m.kind) || (m.ver == 0))) && (decide (3 ∈ flds m.kind) || (m.inc == 0))) && (decide (4 ∈ flds m.kind) || (m.size == 0))) && (decide (5 ∈ flds m.kind) || (m.code == 0))) && (decide (6 ∈ flds m.kind) || (m.node == 0))) && (decide (7 ∈ flds m.kind) || (!m.back))) && (decide (8 ∈ flds m.kind) || (((m.ids.length : Nat) : Int) == 0))) && (decide (9 ∈ flds m.kind) || (((m.nodes.length : Nat) : Int) == 0))) && (decide (10 ∈ flds m.kind) || ((str m.data).toList == (str []).toList))) = bareB m := by
  unfold bareB
  rw [Bool.eq_iff_iff, same_iff]
  simp only [Bool.and_eq_true, Bool.or_eq_true, decide_eq_true_eq, beq_iff_eq, Bool.not_eq_true', str_toList]
  obtain ⟨k, f, t, r, ky, v, i, sz, cd, nd, bk, ids, ns, dt⟩ := m
  simp only [keep, Msg.mk.injEq, true_and]
  have e : ∀ {α : Type} (c : Prop) [Decidable c] (x y : α), x = (if c then x else y) ↔ (c ∨ x = y) := fun c _ x y => by
    by_cases h : c <;> simp [h]
  simp only [e, and_assoc]
  have l1 : ((ids.length : Int) = 0) ↔ ids = [] := by rw [Int.natCast_eq_zero, List.length_eq_zero_iff]
  have l2 : ((ns.length : Int) = 0) ↔ ns = [] := by rw [Int.natCast_eq_zero, List.length_eq_zero_iff]
  rw [l1, l2]
set_option maxRecDepth 100000 in
set_option maxHeartbeats 16000000 in
theorem rbare_any (w : World) (m : Msg) (A : Option Addr) (c : Nat) (na : Option Addr) (nc : Nat) (hk : m.kind < 256) :
    Calls Tryd.prog 23 #[.agg (pv m A c na nc)] w fun e w' => e = .returned (.bool (bareB m)) ∧ Below w.heap.size w w' := by
  obtain ⟨bx, hbx⟩ : ∃ bx, w.heap.size = bx := ⟨_, rfl⟩
  obtain ⟨w1, hw1⟩ : ∃ x : World, w.alloc (.cells (pv m A c na nc) 33) = x := ⟨_, rfl⟩
  have hb1 : Below w.heap.size w w1 := by rw [← hw1]; exact nextA (Mem.start w) _
  have HB1 := Lib.hid hb1
  have HX := Lib.hid (show Blk w1 bx 33 (pv m A c na nc) by rw [← hw1, ← hbx]; exact Blk.new w _ _)
  have ca0 := HX.out.cell 0
  simp [pv, pvk] at ca0
  have HK := Lib.hid hk
  have HR := Lib.hid (bare_eq m)
  clear hb1 hk
  go_enter Tryd.func23, Tryd.ntmps23
  refine cut1 fun C' hC => ?_
  have HC := Lib.hid hC
  clear hC
  go_wp2_with fail
  refine HC.out _ _ ?_
  clear HC
  refine cut1 fun C' hC => ?_
  have HC := Lib.hid hC
  clear hC
  go_wp2_with fail
  refine HC.out _ _ ?_
  clear HC
  refine wp_seq ?_
  refine wp_region_lit ?_
  refine Chain.step_on (d := 6) rfl (by simp [Region.wanted]) (v := .int .u8 ((m.kind : Nat) : Int)) (by simp [execOp, Act.eval]) ?_; simp only [Act.put, List.setIfInBounds_toArray, List.set_cons_zero, List.set_cons_succ]
  refine Chain.step_wp (by simp [Region.wanted]) (in_wp _ m.kind HK.out 0 (by decide) 82 rfl _ _ 6 7 _ _ _ _ rfl ?_); simp only [Act.put, List.setIfInBounds_toArray, List.set_cons_zero, List.set_cons_succ]
  refine Chain.or1 105 7 2 3 bx 33 2 (decide (0 ∈ flds m.kind)) (m.req == 0) (.int .i64 m.req) (by decide) (by decide) (by rfl) (by rfl) (by rfl) (by rfl) (dfld3 _ _) (ld _ _ Tryd.isAgg2 (by have := HX.out.cell 3; simpa [pv, pvk] using this)) (fun b K hb hK => eql_wp _ _ _ b K _ _ (.int .i64 0) _ (m.req == 0) _ _ _ _ hb (fun o1 o2 => meq2 o1 o2 _ _ _ rfl _) hK) ?_; intro j2 j3 j4; simp only [Act.put, List.setIfInBounds_toArray, List.set_cons_zero, List.set_cons_succ]
  refine Chain.and1 105 12 7 10 4 bx m.kind 33 9 (decide (0 ∈ flds m.kind) || (m.req == 0)) (decide (1 ∈ flds m.kind)) ((str m.key).toList == (str []).toList) (.string (str m.key)) (by decide) (by decide) (by rfl) (by rfl) (by rfl) (by rfl) (by rfl) (by rfl) (dfld4 _ _) (ld _ _ Tryd.isAgg9 (by have := HX.out.cell 4; simpa [pv, pvk] using this)) (fun b K hb hK => in_wp _ m.kind HK.out 1 (by decide) 75 rfl b K _ _ _ _ _ _ hb hK) (fun b K hb hK => eql_wp _ _ _ b K _ _ (.string (str [])) _ ((str m.key).toList == (str []).toList) _ _ _ _ hb (fun o1 o2 => meq9 o1 o2 _ _ _ rfl _) hK) ?_; intro j2 j3 j4 j5 j6 j7 j8; simp only [Act.put, List.setIfInBounds_toArray, List.set_cons_zero, List.set_cons_succ]
  refine Chain.and1 105 21 16 19 5 bx m.kind 33 2 ((decide (0 ∈ flds m.kind) || (m.req == 0)) && (decide (1 ∈ flds m.kind) || ((str m.key).toList == (str []).toList))) (decide (2 ∈ flds m.kind)) (m.ver == 0) (.int .i64 m.ver) (by decide) (by decide) (by rfl) (by rfl) (by rfl) (by rfl) (by rfl) (by rfl) (dfld5 _ _) (ld _ _ Tryd.isAgg2 (by have := HX.out.cell 5; simpa [pv, pvk] using this)) (fun b K hb hK => in_wp _ m.kind HK.out 2 (by decide) 86 rfl b K _ _ _ _ _ _ hb hK) (fun b K hb hK => eql_wp _ _ _ b K _ _ (.int .i64 0) _ (m.ver == 0) _ _ _ _ hb (fun o1 o2 => meq2 o1 o2 _ _ _ rfl _) hK) ?_; intro j2 j3 j4 j5 j6 j7 j8; simp only [Act.put, List.setIfInBounds_toArray, List.set_cons_zero, List.set_cons_succ]
  refine Chain.and1 105 30 25 28 6 bx m.kind 33 2 (((decide (0 ∈ flds m.kind) || (m.req == 0)) && (decide (1 ∈ flds m.kind) || ((str m.key).toList == (str []).toList))) && (decide (2 ∈ flds m.kind) || (m.ver == 0))) (decide (3 ∈ flds m.kind)) (m.inc == 0) (.int .i64 m.inc) (by decide) (by decide) (by rfl) (by rfl) (by rfl) (by rfl) (by rfl) (by rfl) (dfld6 _ _) (ld _ _ Tryd.isAgg2 (by have := HX.out.cell 6; simpa [pv, pvk] using this)) (fun b K hb hK => in_wp _ m.kind HK.out 3 (by decide) 73 rfl b K _ _ _ _ _ _ hb hK) (fun b K hb hK => eql_wp _ _ _ b K _ _ (.int .i64 0) _ (m.inc == 0) _ _ _ _ hb (fun o1 o2 => meq2 o1 o2 _ _ _ rfl _) hK) ?_; intro j2 j3 j4 j5 j6 j7 j8; simp only [Act.put, List.setIfInBounds_toArray, List.set_cons_zero, List.set_cons_succ]
  refine Chain.and1 105 39 34 37 7 bx m.kind 33 3 ((((decide (0 ∈ flds m.kind) || (m.req == 0)) && (decide (1 ∈ flds m.kind) || ((str m.key).toList == (str []).toList))) && (decide (2 ∈ flds m.kind) || (m.ver == 0))) && (decide (3 ∈ flds m.kind) || (m.inc == 0))) (decide (4 ∈ flds m.kind)) (m.size == 0) (.int .i64 m.size) (by decide) (by decide) (by rfl) (by rfl) (by rfl) (by rfl) (by rfl) (by rfl) (dfld7 _ _) (ld _ _ Tryd.isAgg3 (by have := HX.out.cell 7; simpa [pv, pvk] using this)) (fun b K hb hK => in_wp _ m.kind HK.out 4 (by decide) 83 rfl b K _ _ _ _ _ _ hb hK) (fun b K hb hK => eql_wp _ _ _ b K _ _ (.int .i64 0) _ (m.size == 0) _ _ _ _ hb (fun o1 o2 => meq3 o1 o2 _ _ _ rfl _) hK) ?_; intro j2 j3 j4 j5 j6 j7 j8; simp only [Act.put, List.setIfInBounds_toArray, List.set_cons_zero, List.set_cons_succ]
  refine Chain.and1 105 48 43 46 8 bx m.kind 33 3 (((((decide (0 ∈ flds m.kind) || (m.req == 0)) && (decide (1 ∈ flds m.kind) || ((str m.key).toList == (str []).toList))) && (decide (2 ∈ flds m.kind) || (m.ver == 0))) && (decide (3 ∈ flds m.kind) || (m.inc == 0))) && (decide (4 ∈ flds m.kind) || (m.size == 0))) (decide (5 ∈ flds m.kind)) (m.code == 0) (.int .i64 m.code) (by decide) (by decide) (by rfl) (by rfl) (by rfl) (by rfl) (by rfl) (by rfl) (dfld8 _ _) (ld _ _ Tryd.isAgg3 (by have := HX.out.cell 8; simpa [pv, pvk] using this)) (fun b K hb hK => in_wp _ m.kind HK.out 5 (by decide) 67 rfl b K _ _ _ _ _ _ hb hK) (fun b K hb hK => eql_wp _ _ _ b K _ _ (.int .i64 0) _ (m.code == 0) _ _ _ _ hb (fun o1 o2 => meq3 o1 o2 _ _ _ rfl _) hK) ?_; intro j2 j3 j4 j5 j6 j7 j8; simp only [Act.put, List.setIfInBounds_toArray, List.set_cons_zero, List.set_cons_succ]
  refine Chain.and1 105 57 52 55 9 bx m.kind 33 3 ((((((decide (0 ∈ flds m.kind) || (m.req == 0)) && (decide (1 ∈ flds m.kind) || ((str m.key).toList == (str []).toList))) && (decide (2 ∈ flds m.kind) || (m.ver == 0))) && (decide (3 ∈ flds m.kind) || (m.inc == 0))) && (decide (4 ∈ flds m.kind) || (m.size == 0))) && (decide (5 ∈ flds m.kind) || (m.code == 0))) (decide (6 ∈ flds m.kind)) (m.node == 0) (.int .i64 m.node) (by decide) (by decide) (by rfl) (by rfl) (by rfl) (by rfl) (by rfl) (by rfl) (dfld9 _ _) (ld _ _ Tryd.isAgg3 (by have := HX.out.cell 9; simpa [pv, pvk] using this)) (fun b K hb hK => in_wp _ m.kind HK.out 6 (by decide) 78 rfl b K _ _ _ _ _ _ hb hK) (fun b K hb hK => eql_wp _ _ _ b K _ _ (.int .i64 0) _ (m.node == 0) _ _ _ _ hb (fun o1 o2 => meq3 o1 o2 _ _ _ rfl _) hK) ?_; intro j2 j3 j4 j5 j6 j7 j8; simp only [Act.put, List.setIfInBounds_toArray, List.set_cons_zero, List.set_cons_succ]
  refine Chain.and1 105 66 61 64 10 bx m.kind 33 4 (((((((decide (0 ∈ flds m.kind) || (m.req == 0)) && (decide (1 ∈ flds m.kind) || ((str m.key).toList == (str []).toList))) && (decide (2 ∈ flds m.kind) || (m.ver == 0))) && (decide (3 ∈ flds m.kind) || (m.inc == 0))) && (decide (4 ∈ flds m.kind) || (m.size == 0))) && (decide (5 ∈ flds m.kind) || (m.code == 0))) && (decide (6 ∈ flds m.kind) || (m.node == 0))) (decide (7 ∈ flds m.kind)) (!m.back) (.bool m.back) (by decide) (by decide) (by rfl) (by rfl) (by rfl) (by rfl) (by rfl) (by rfl) (dfld10 _ _) (ld _ _ Tryd.isAgg4 (by have := HX.out.cell 10; simpa [pv, pvk] using this)) (fun b K hb hK => in_wp _ m.kind HK.out 7 (by decide) 66 rfl b K _ _ _ _ _ _ hb hK) (fun b K hb hK => not_wp _ b K _ _ _ _ _ _ _ hb hK) ?_; intro j2 j3 j4 j5 j6 j7 j8; simp only [Act.put, List.setIfInBounds_toArray, List.set_cons_zero, List.set_cons_succ]
  refine Chain.and2 105 75 70 73 11 bx m.kind 33 31 ((((((((decide (0 ∈ flds m.kind) || (m.req == 0)) && (decide (1 ∈ flds m.kind) || ((str m.key).toList == (str []).toList))) && (decide (2 ∈ flds m.kind) || (m.ver == 0))) && (decide (3 ∈ flds m.kind) || (m.inc == 0))) && (decide (4 ∈ flds m.kind) || (m.size == 0))) && (decide (5 ∈ flds m.kind) || (m.code == 0))) && (decide (6 ∈ flds m.kind) || (m.node == 0))) && (decide (7 ∈ flds m.kind) || (!m.back))) (decide (8 ∈ flds m.kind)) (((m.ids.length : Nat) : Int) == 0) (.slice A m.ids.length c) (.int .i64 ((m.ids.length : Nat) : Int)) (by decide) (by decide) (by rfl) (by rfl) (by rfl) (by rfl) (by rfl) (by rfl) (dfld11 _ _) (ld _ _ Tryd.isAgg31 (by have := HX.out.cell 11; simpa [pv, pvk] using this)) (fun b K hb hK => in_wp _ m.kind HK.out 8 (by decide) 68 rfl b K _ _ _ _ _ _ hb hK) (fun b K hb hK => Chain.op_wp (dlen_ids (x := 0) _ _ _ _ _ _ _ hb) hK) (fun b K hb hK => eql_wp _ _ _ b K _ _ (.int .i64 0) _ (((m.ids.length : Nat) : Int) == 0) _ _ _ _ hb (fun o1 o2 => meq3 o1 o2 _ _ _ rfl _) hK) ?_; intro j2 j3 j4 j5 j6 j7 j8 j9; simp only [Act.put, List.setIfInBounds_toArray, List.set_cons_zero, List.set_cons_succ]
  refine Chain.and2 105 85 80 83 12 bx m.kind 33 24 (((((((((decide (0 ∈ flds m.kind) || (m.req == 0)) && (decide (1 ∈ flds m.kind) || ((str m.key).toList == (str []).toList))) && (decide (2 ∈ flds m.kind) || (m.ver == 0))) && (decide (3 ∈ flds m.kind) || (m.inc == 0))) && (decide (4 ∈ flds m.kind) || (m.size == 0))) && (decide (5 ∈ flds m.kind) || (m.code == 0))) && (decide (6 ∈ flds m.kind) || (m.node == 0))) && (decide (7 ∈ flds m.kind) || (!m.back))) && (decide (8 ∈ flds m.kind) || (((m.ids.length : Nat) : Int) == 0))) (decide (9 ∈ flds m.kind)) (((m.nodes.length : Nat) : Int) == 0) (.slice na m.nodes.length nc) (.int .i64 ((m.nodes.length : Nat) : Int)) (by decide) (by decide) (by rfl) (by rfl) (by rfl) (by rfl) (by rfl) (by rfl) (dfld12 _ _) (ld _ _ Tryd.isAgg24 (by have := HX.out.cell 12; simpa [pv, pvk] using this)) (fun b K hb hK => in_wp _ m.kind HK.out 9 (by decide) 76 rfl b K _ _ _ _ _ _ hb hK) (fun b K hb hK => Chain.op_wp (dlen_ints (x := 0) _ _ _ _ _ _ _ hb) hK) (fun b K hb hK => eql_wp _ _ _ b K _ _ (.int .i64 0) _ (((m.nodes.length : Nat) : Int) == 0) _ _ _ _ hb (fun o1 o2 => meq3 o1 o2 _ _ _ rfl _) hK) ?_; intro j2 j3 j4 j5 j6 j7 j8 j9; simp only [Act.put, List.setIfInBounds_toArray, List.set_cons_zero, List.set_cons_succ]
  refine Chain.and1 105 95 90 93 13 bx m.kind 33 9 ((((((((((decide (0 ∈ flds m.kind) || (m.req == 0)) && (decide (1 ∈ flds m.kind) || ((str m.key).toList == (str []).toList))) && (decide (2 ∈ flds m.kind) || (m.ver == 0))) && (decide (3 ∈ flds m.kind) || (m.inc == 0))) && (decide (4 ∈ flds m.kind) || (m.size == 0))) && (decide (5 ∈ flds m.kind) || (m.code == 0))) && (decide (6 ∈ flds m.kind) || (m.node == 0))) && (decide (7 ∈ flds m.kind) || (!m.back))) && (decide (8 ∈ flds m.kind) || (((m.ids.length : Nat) : Int) == 0))) && (decide (9 ∈ flds m.kind) || (((m.nodes.length : Nat) : Int) == 0))) (decide (10 ∈ flds m.kind)) ((str m.data).toList == (str []).toList) (.string (str m.data)) (by decide) (by decide) (by rfl) (by rfl) (by rfl) (by rfl) (by rfl) (by rfl) (dfld13 _ _) (ld _ _ Tryd.isAgg9 (by have := HX.out.cell 13; simpa [pv, pvk] using this)) (fun b K hb hK => in_wp _ m.kind HK.out 10 (by decide) 80 rfl b K _ _ _ _ _ _ hb hK) (fun b K hb hK => eql_wp _ _ _ b K _ _ (.string (str [])) _ ((str m.data).toList == (str []).toList) _ _ _ _ hb (fun o1 o2 => meq9 o1 o2 _ _ _ rfl _) hK) ?_; intro j2 j3 j4 j5 j6 j7 j8; simp only [Act.put, List.setIfInBounds_toArray, List.set_cons_zero, List.set_cons_succ]
  rw [HR.out]
  refine Chain.step_on (d := 2) rfl (by simp [Region.wanted]) (v := .bool (bareB m)) (by simp [execOp, Act.eval]) ?_; simp only [Act.put, List.setIfInBounds_toArray, List.set_cons_zero, List.set_cons_succ]
  refine wpList_nil ?_
  simp only [Exit.then]
  go_wp2_with fail
  go_ret
  exact ⟨rfl, HB1.out⟩
end Go.Proofs.YtebdmfmadbikaaaDoor.WiW
