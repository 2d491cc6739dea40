/- The document's May. Printed by genwdoc3.py (raw numbers of the seat). -/
import Derived.Test.YtebdmfmadbikaaaDoorWrDoc2
namespace Go.Proofs.YtebdmfmadbikaaaDoor.WiW
open Go.RowKit Go.Shelf Mem Fds FdW Wi Rng
set_option linter.unusedVariables false
set_option linter.unusedSimpArgs false

theorem bin_wp {Q : Exit → Act → World → Prop} (bo : BinOp) (w : World) (T TR : TypeId) (b : Act) (K : Act → World → Prop) (x d : Nat) (z v : Value) (r : Bool) (ty : TypeId) (ps : String) (af : Array Edge) (gd : Option (Nat × Bool)) (hx : b.eval (.tmp x) = v)
    (hq : ∀ o1 o2, (do eqGuard bo T o1 o2 v z; binOp bo T v z : Sem Value).run Tryd.prog w = .ok (.bool r) w) (hK : K (b.put (some d) (.bool r)) w) : Oper.wp Tryd.prog ⟨some d, .binOp bo T (.tmp x) (.const z) TR, ty, ps, af, gd⟩ b w K Q := by
  refine Chain.op_wp (v := .bool r) ?_ hK
  have q := hq (.tmp x) (.const z)
  have hz : b.eval (.const z) = z := rfl
  simp only [execOp, hx, hz]
  rw [Sem.run_bind, q]; rfl
theorem long_wp {Q : Exit → Act → World → Prop} (w : World) (n : Int) (b : Act) (K : Act → World → Prop) (x d : Nat) (ty : TypeId) (ps : String) (af : Array Edge) (gd : Option (Nat × Bool)) (hx : b.eval (.tmp x) = .int .i64 n)
    (hK : K (b.put (some d) (.bool (wi long n))) w) : Oper.wp Tryd.prog ⟨some d, .call { callee := .value (.func 24), args := #[.tmp x], argTypes := #[2] }, ty, ps, af, gd⟩ b w K Q := by
  have h2 := hx
  simp [Act.eval] at h2
  unfold Oper.wp
  simp [execOp, h2, go_sem]
  refine (rlong_any w n).mono ?_
  rintro e w1 ⟨rfl, rfl⟩
  exact hK
theorem has_wp {Q : Exit → Act → World → Prop} (w : World) (k : Nat) (hk : k < 256) (b : Act) (K : Act → World → Prop) (x d : Nat) (ty : TypeId) (ps : String) (af : Array Edge) (gd : Option (Nat × Bool)) (hx : b.eval (.tmp x) = .int .u8 (k : Int))
    (hK : K (b.put (some d) (.string (str (hasS k)))) w) : Oper.wp Tryd.prog ⟨some d, .call { callee := .value (.func 22), args := #[.tmp x], argTypes := #[5] }, ty, ps, af, gd⟩ b w K Q := by
  have h2 := hx
  simp [Act.eval] at h2
  unfold Oper.wp
  simp [execOp, h2, go_sem]
  refine (has_any w k hk).mono ?_
  rintro e w1 ⟨rfl, rfl⟩
  exact hK
theorem bare_wp {Q : Exit → Act → World → Prop} (w : World) (m : Msg) (A : Option Addr) (c : Nat) (na : Option Addr) (nc : Nat) (hk : m.kind < 256) (b : Act) (K : Act → World → Prop) (x d : Nat) (ty : TypeId) (ps : String) (af : Array Edge) (gd : Option (Nat × Bool)) (hx : b.eval (.tmp x) = .agg (pv m A c na nc))
    (hK : ∀ w2, Below w.heap.size w w2 → K (b.put (some d) (.bool (bareB m))) w2) : Oper.wp Tryd.prog ⟨some d, .call { callee := .value (.func 23), args := #[.tmp x], argTypes := #[33] }, ty, ps, af, gd⟩ b w K Q := by
  have h2 := hx
  simp [Act.eval] at h2
  unfold Oper.wp
  simp [execOp, h2, go_sem]
  refine (rbare_any w m A c na nc hk).mono ?_
  rintro e w1 ⟨rfl, hb⟩
  exact hK w1 hb
theorem load_pv {w : World} {b : Nat} {m : Msg} {A : Option Addr} {c : Nat} {na : Option Addr} {nc : Nat} (h : Blk w b 33 (pv m A c na nc)) : (Instr.loadAt 33 (.pointer (some ⟨b, 0, none⟩))).run Tryd.prog w = .ok (.agg (pv m A c na nc)) w := by
  have := run_loadAt_mid (P := Tryd.prog) w b 0 33 (pv m A c na nc).toList _ (range_of h) Tryd.underlying33 rfl pinfo
  exact this
theorem dlen_str {b : Act} {s : ByteArray} (k j : Nat) (t : TypeId) (ps : String) (f : Array Edge) (g : Option (Nat × Bool)) (w : World) (h : b.eval (.tmp j) = .string s) : (execOp b.eval ⟨some k, .call { callee := .builtin .len, args := #[.tmp j], argTypes := #[9] }, t, ps, f, g⟩).run Tryd.prog w = .ok (.value (.int .i64 ((s.size : Nat) : Int))) w := by
  have h2 := h
  simp [Act.eval] at h2
  simp [execOp, h2, go_sem]
theorem mlss3 (o1 o2 : Operand) (a z : Int) (w : World) : (do eqGuard .lss 3 o1 o2 (.int .i64 a) (.int .i64 z); binOp .lss 3 (.int .i64 a) (.int .i64 z) : Sem Value).run Tryd.prog w = .ok (.bool (decide (a < z))) w := by
  simp [go_sem, eqGuard]
theorem mgtr3 (o1 o2 : Operand) (a z : Int) (w : World) : (do eqGuard .gtr 3 o1 o2 (.int .i64 a) (.int .i64 z); binOp .gtr 3 (.int .i64 a) (.int .i64 z) : Sem Value).run Tryd.prog w = .ok (.bool (decide (z < a))) w := by
  simp [go_sem, eqGuard]
theorem mgeq3 (o1 o2 : Operand) (a z : Int) (w : World) : (do eqGuard .geq 3 o1 o2 (.int .i64 a) (.int .i64 z); binOp .geq 3 (.int .i64 a) (.int .i64 z) : Sem Value).run Tryd.prog w = .ok (.bool (decide (z ≤ a))) w := by
  simp [go_sem, eqGuard]
theorem want_of {ops : Array Oper} {a : Act} {o : Oper} {g m : Nat} {b : Bool} (ho : o.guard = some (g, b)) (hg : (ops[g]?).bind (·.dst) = some m) (hm : m < a.tmps.size) (h : a.eval (.tmp m) = .bool b) : Region.wanted o (yielded ops a.tmps) = true := by
  have := Chain.yielded_bool (ops := ops) (a := a) hg hm h
  simp only [Region.wanted, ho, this]
  cases b <;> rfl
theorem unwant_of {ops : Array Oper} {a : Act} {o : Oper} {g m : Nat} {b : Bool} (ho : o.guard = some (g, b)) (hg : (ops[g]?).bind (·.dst) = some m) (hm : m < a.tmps.size) (h : a.eval (.tmp m) = .bool (!b)) : Region.wanted o (yielded ops a.tmps) = false := by
  have := Chain.yielded_bool (ops := ops) (a := a) hg hm h
  simp only [Region.wanted, ho, this]
  cases b <;> rfl
theorem hasS_nil (k : Nat) : ((str (hasS k)).toList == (str []).toList) = !(isK k) := by
  rw [str_toList, str_toList]
  unfold hasS
  cases isK k <;> rfl
theorem may_eq (m : Msg) : may m = (isK m.kind && !(((((((((!(bareB m)) || decide (m.frm < 0)) || decide ((65535 : Int) < m.frm)) || decide (m.to_ < 0)) || decide ((65535 : Int) < m.to_)) || (!(wi long m.req))) || (!(wi long m.ver))) || (!(wi long m.inc)))) && !(((((((((((decide ((64 : Int) < (((str m.key).size : Nat) : Int))) || decide (m.size < 0)) || decide ((2147483647 : Int) < m.size)) || decide (m.code < 0)) || decide ((65535 : Int) < m.code)) || decide (m.node < 0)) || decide ((255 : Int) ≤ m.node)) || decide ((64 : Int) < ((m.ids.length : Nat) : Int))) || decide ((255 : Int) < ((m.nodes.length : Nat) : Int))) || decide ((65536 : Int) < (((str m.data).size : Nat) : Int)))) && m.ids.all idOk && m.nodes.all (wi 254)) := by
  unfold may bareB
  rw [Bool.eq_iff_iff]
  simp only [Bool.and_eq_true, Bool.not_eq_true', Bool.or_eq_false_iff, Bool.not_eq_false', decide_eq_false_iff_not, decide_eq_true_eq, wi]
  have hsk : (str m.key).size = m.key.length := rfl
  have hsd : (str m.data).size = m.data.length := rfl
  constructor
  · rintro ⟨⟨⟨⟨⟨⟨⟨⟨⟨⟨⟨h1, h2⟩, ⟨h3, h4⟩, h5⟩, ⟨h6, h7⟩, h8⟩, h9⟩, h10⟩, h11⟩, h12⟩, h13⟩, h14⟩, h15⟩, h16⟩
    refine ⟨⟨⟨⟨h1, ⟨⟨⟨⟨⟨⟨⟨h2, by omega⟩, by omega⟩, by omega⟩, by omega⟩, h6⟩, h7⟩, h8⟩⟩, ⟨⟨⟨⟨⟨⟨⟨⟨⟨by omega, by omega⟩, by omega⟩, by omega⟩, by omega⟩, by omega⟩, by omega⟩, by omega⟩, by omega⟩, by omega⟩⟩, h15⟩, h16⟩
  · rintro ⟨⟨⟨⟨h1, ⟨⟨⟨⟨⟨⟨⟨h2, a1⟩, a2⟩, a3⟩, a4⟩, h6⟩, h7⟩, h8⟩⟩, ⟨⟨⟨⟨⟨⟨⟨⟨⟨b0, b1⟩, b2⟩, b3⟩, b4⟩, b5⟩, b6⟩, b7⟩, b8⟩, b9⟩⟩, h15⟩, h16⟩
    exact ⟨⟨⟨⟨⟨⟨⟨⟨⟨⟨⟨h1, h2⟩, ⟨⟨by omega, by omega⟩, by omega, by omega⟩, by omega, by omega⟩, ⟨h6, h7⟩, h8⟩, by omega, by omega⟩, by omega, by omega⟩, by omega⟩, by omega⟩, by omega⟩, by omega⟩, h15⟩, h16⟩
set_option maxRecDepth 100000 in
set_option maxHeartbeats 16000000 in
theorem rmay_no (w : World) (m : Msg) (A : Option Addr) (c : Nat) (na : Option Addr) (nc : Nat) (hI : PIn w w.heap.size m A na) (hK : isK m.kind = false) :
    Calls Tryd.prog 11 #[.agg (pv m A c na nc)] w fun e w' => e = .returned (.bool false) ∧ Below w.heap.size w w' := by
  obtain ⟨bx, hbx⟩ : ∃ bx, w.heap.size = bx := ⟨_, rfl⟩
  obtain ⟨w1, hw1⟩ : ∃ x : World, w.alloc (.cells (pv m A c na nc) 33) = x := ⟨_, rfl⟩
  have hb1 : Below w.heap.size w w1 := by rw [← hw1]; exact nextA (Mem.start w) _
  have HB1 := Lib.hid hb1
  have HX1 := Lib.hid (show Blk w1 bx 33 (pv m A c na nc) by rw [← hw1, ← hbx]; exact Blk.new w _ _)
  have HK := Lib.hid hI.kind
  have HKN := Lib.hid hK
  clear hb1 hI hK
  go_enter Tryd.func11, Tryd.ntmps11
  refine cut1 fun C' hC => ?_
  have HC := Lib.hid hC
  clear hC
  go_wp2_with fail
  refine HC.out _ _ ?_
  clear HC
  refine wp_seq ?_
  refine wp_seq ?_
  refine wp_region_lit ?_
  refine Chain.step_on (d := 5) rfl (by simp [Region.wanted]) (v := .pointer (some ⟨bx, 0, none⟩)) (by simp [execOp, Act.eval, dfld0]) ?_; simp only [Act.put, List.setIfInBounds_toArray, List.set_cons_zero, List.set_cons_succ]
  refine Chain.step_on (d := 6) rfl (by simp [Region.wanted]) (v := .int .u8 ((m.kind : Nat) : Int)) (exec_load 5 (.tmp 5) rfl _ rfl _ (ld _ _ Tryd.isAgg5 (by have := HX1.out.cell 0; simpa [pv, pvk] using this))) ?_; simp only [Act.put, List.setIfInBounds_toArray, List.set_cons_zero, List.set_cons_succ]
  refine Chain.step_wp (by simp [Region.wanted]) (has_wp _ m.kind HK.out _ _ 6 7 _ _ _ _ rfl ?_); simp only [Act.put, List.setIfInBounds_toArray, List.set_cons_zero, List.set_cons_succ]
  refine Chain.step_wp (by simp [Region.wanted]) (bin_wp .eql _ 9 _ _ _ 7 8 (.string (str [])) (.string (str (hasS m.kind))) _ _ _ _ _ rfl (fun o1 o2 => meq9 o1 o2 _ _ _ (hasS_nil _) _) ?_); simp only [Act.put, List.setIfInBounds_toArray, List.set_cons_zero, List.set_cons_succ]
  rw [HKN.out, Bool.not_false]
  refine Chain.step_on (d := 9) rfl (by simp [Region.wanted]) (v := .bool true) (by simp [execOp, Act.eval]) ?_; simp only [Act.put, List.setIfInBounds_toArray, List.set_cons_zero, List.set_cons_succ]
  refine Chain.step_off (d := 10) rfl (unwant_of (g := 4) (m := 9) rfl (by rfl) (show 9 < 150 by decide) (by rfl)) ?_; simp only [Act.put, List.setIfInBounds_toArray, List.set_cons_zero, List.set_cons_succ]
  refine Chain.step_off (d := 11) rfl (unwant_of (g := 4) (m := 9) rfl (by rfl) (show 9 < 150 by decide) (by rfl)) ?_; simp only [Act.put, List.setIfInBounds_toArray, List.set_cons_zero, List.set_cons_succ]
  refine Chain.step_off (d := 12) rfl (unwant_of (g := 4) (m := 9) rfl (by rfl) (show 9 < 150 by decide) (by rfl)) ?_; simp only [Act.put, List.setIfInBounds_toArray, List.set_cons_zero, List.set_cons_succ]
  refine Chain.step_on (d := 13) rfl (by simp [Region.wanted]) (v := .bool true) (by simp [execOp, Act.eval]; rfl) ?_; simp only [Act.put, List.setIfInBounds_toArray, List.set_cons_zero, List.set_cons_succ]
  refine Chain.or1 150 13 9 1 bx 33 3 true (decide (m.frm < 0)) (.int .i64 m.frm) (by decide) (by decide) (by rfl) (by rfl) (by rfl) (by rfl) (dfld1 _ _) (ld _ _ Tryd.isAgg3 (by have := HX1.out.cell 1; simpa [pv, pvk] using this)) (fun b K hb hK => bin_wp .lss _ _ _ b K _ _ (.int .i64 0) _ _ _ _ _ _ hb (fun o1 o2 => mlss3 o1 o2 _ _ _) hK) ?_; intro j2 j3 j4; simp only [Act.put, List.setIfInBounds_toArray, List.set_cons_zero, List.set_cons_succ]
  refine Chain.or1 150 18 14 1 bx 33 3 (true || decide (m.frm < 0)) (decide ((65535 : Int) < m.frm)) (.int .i64 m.frm) (by decide) (by decide) (by rfl) (by rfl) (by rfl) (by rfl) (dfld1 _ _) (ld _ _ Tryd.isAgg3 (by have := HX1.out.cell 1; simpa [pv, pvk] using this)) (fun b K hb hK => bin_wp .gtr _ _ _ b K _ _ (.int .i64 65535) _ _ _ _ _ _ hb (fun o1 o2 => mgtr3 o1 o2 _ _ _) hK) ?_; intro j2 j3 j4; simp only [Act.put, List.setIfInBounds_toArray, List.set_cons_zero, List.set_cons_succ]
  refine Chain.or1 150 23 19 2 bx 33 3 ((true || decide (m.frm < 0)) || decide ((65535 : Int) < m.frm)) (decide (m.to_ < 0)) (.int .i64 m.to_) (by decide) (by decide) (by rfl) (by rfl) (by rfl) (by rfl) (dfld2 _ _) (ld _ _ Tryd.isAgg3 (by have := HX1.out.cell 2; simpa [pv, pvk] using this)) (fun b K hb hK => bin_wp .lss _ _ _ b K _ _ (.int .i64 0) _ _ _ _ _ _ hb (fun o1 o2 => mlss3 o1 o2 _ _ _) hK) ?_; intro j2 j3 j4; simp only [Act.put, List.setIfInBounds_toArray, List.set_cons_zero, List.set_cons_succ]
  refine Chain.or1 150 28 24 2 bx 33 3 (((true || decide (m.frm < 0)) || decide ((65535 : Int) < m.frm)) || decide (m.to_ < 0)) (decide ((65535 : Int) < m.to_)) (.int .i64 m.to_) (by decide) (by decide) (by rfl) (by rfl) (by rfl) (by rfl) (dfld2 _ _) (ld _ _ Tryd.isAgg3 (by have := HX1.out.cell 2; simpa [pv, pvk] using this)) (fun b K hb hK => bin_wp .gtr _ _ _ b K _ _ (.int .i64 65535) _ _ _ _ _ _ hb (fun o1 o2 => mgtr3 o1 o2 _ _ _) hK) ?_; intro j2 j3 j4; simp only [Act.put, List.setIfInBounds_toArray, List.set_cons_zero, List.set_cons_succ]
  refine Chain.or2 150 33 29 3 bx 33 2 ((((true || decide (m.frm < 0)) || decide ((65535 : Int) < m.frm)) || decide (m.to_ < 0)) || decide ((65535 : Int) < m.to_)) ((!(wi long m.req))) (.int .i64 m.req) (.bool (wi long m.req)) (by decide) (by decide) (by rfl) (by rfl) (by rfl) (by rfl) (dfld3 _ _) (ld _ _ Tryd.isAgg2 (by have := HX1.out.cell 3; simpa [pv, pvk] using this)) (fun b K hb hK => long_wp _ _ b K _ _ _ _ _ _ hb hK) (fun b K hb hK => not_wp _ b K _ _ _ _ _ _ _ hb hK) ?_; intro j2 j3 j4 j5; simp only [Act.put, List.setIfInBounds_toArray, List.set_cons_zero, List.set_cons_succ]
  refine Chain.or2 150 39 35 5 bx 33 2 (((((true || decide (m.frm < 0)) || decide ((65535 : Int) < m.frm)) || decide (m.to_ < 0)) || decide ((65535 : Int) < m.to_)) || (!(wi long m.req))) ((!(wi long m.ver))) (.int .i64 m.ver) (.bool (wi long m.ver)) (by decide) (by decide) (by rfl) (by rfl) (by rfl) (by rfl) (dfld5 _ _) (ld _ _ Tryd.isAgg2 (by have := HX1.out.cell 5; simpa [pv, pvk] using this)) (fun b K hb hK => long_wp _ _ b K _ _ _ _ _ _ hb hK) (fun b K hb hK => not_wp _ b K _ _ _ _ _ _ _ hb hK) ?_; intro j2 j3 j4 j5; simp only [Act.put, List.setIfInBounds_toArray, List.set_cons_zero, List.set_cons_succ]
  refine Chain.or2 150 45 41 6 bx 33 2 ((((((true || decide (m.frm < 0)) || decide ((65535 : Int) < m.frm)) || decide (m.to_ < 0)) || decide ((65535 : Int) < m.to_)) || (!(wi long m.req))) || (!(wi long m.ver))) ((!(wi long m.inc))) (.int .i64 m.inc) (.bool (wi long m.inc)) (by decide) (by decide) (by rfl) (by rfl) (by rfl) (by rfl) (dfld6 _ _) (ld _ _ Tryd.isAgg2 (by have := HX1.out.cell 6; simpa [pv, pvk] using this)) (fun b K hb hK => long_wp _ _ b K _ _ _ _ _ _ hb hK) (fun b K hb hK => not_wp _ b K _ _ _ _ _ _ _ hb hK) ?_; intro j2 j3 j4 j5; simp only [Act.put, List.setIfInBounds_toArray, List.set_cons_zero, List.set_cons_succ]
  simp only [Bool.true_or]
  refine wpList_nil ?_
  simp only [Exit.then]
  go_wp2_with fail
  go_ret
  exact ⟨rfl, HB1.out⟩
set_option maxRecDepth 100000 in
set_option maxHeartbeats 16000000 in
theorem rmay_yes (w : World) (m : Msg) (A : Option Addr) (c : Nat) (na : Option Addr) (nc : Nat) (hI : PIn w w.heap.size m A na) (hK : isK m.kind = true) :
    Calls Tryd.prog 11 #[.agg (pv m A c na nc)] w fun e w' => e = .returned (.bool (may m)) ∧ Below w.heap.size w w' := by
  obtain ⟨bx, hbx⟩ : ∃ bx, w.heap.size = bx := ⟨_, rfl⟩
  obtain ⟨w1, hw1⟩ : ∃ x : World, w.alloc (.cells (pv m A c na nc) 33) = x := ⟨_, rfl⟩
  have hb1 : Below w.heap.size w w1 := by rw [← hw1]; exact nextA (Mem.start w) _
  have HB1 := Lib.hid hb1
  have HX1 := Lib.hid (show Blk w1 bx 33 (pv m A c na nc) by rw [← hw1, ← hbx]; exact Blk.new w _ _)
  have HI := Lib.hid hI
  have HK := Lib.hid hI.kind
  have HKN := Lib.hid hK
  obtain ⟨r1, hr1⟩ : ∃ r, ((((((((!(bareB m)) || decide (m.frm < 0)) || decide ((65535 : Int) < m.frm)) || decide (m.to_ < 0)) || decide ((65535 : Int) < m.to_)) || (!(wi long m.req))) || (!(wi long m.ver))) || (!(wi long m.inc))) = r := ⟨_, rfl⟩
  obtain ⟨r3, hr3⟩ : ∃ r, ((((((((((decide ((64 : Int) < (((str m.key).size : Nat) : Int))) || decide (m.size < 0)) || decide ((2147483647 : Int) < m.size)) || decide (m.code < 0)) || decide ((65535 : Int) < m.code)) || decide (m.node < 0)) || decide ((255 : Int) ≤ m.node)) || decide ((64 : Int) < ((m.ids.length : Nat) : Int))) || decide ((255 : Int) < ((m.nodes.length : Nat) : Int))) || decide ((65536 : Int) < (((str m.data).size : Nat) : Int))) = r := ⟨_, rfl⟩
  have HM := Lib.hid (show may m = (!r1 && !r3 && m.ids.all idOk && m.nodes.all (wi 254)) by rw [may_eq, hr1, hr3, hK]; rfl)
  have HR := Lib.hid (And.intro hr1 hr3)
  clear hb1 hI hK hr1 hr3
  go_enter Tryd.func11, Tryd.ntmps11
  refine cut1 fun C' hC => ?_
  have HC := Lib.hid hC
  clear hC
  go_wp2_with fail
  refine HC.out _ _ ?_
  clear HC
  refine wp_seq ?_
  refine wp_seq ?_
  refine wp_region_lit ?_
  refine Chain.step_on (d := 5) rfl (by simp [Region.wanted]) (v := .pointer (some ⟨bx, 0, none⟩)) (by simp [execOp, Act.eval, dfld0]) ?_; simp only [Act.put, List.setIfInBounds_toArray, List.set_cons_zero, List.set_cons_succ]
  refine Chain.step_on (d := 6) rfl (by simp [Region.wanted]) (v := .int .u8 ((m.kind : Nat) : Int)) (exec_load 5 (.tmp 5) rfl _ rfl _ (ld _ _ Tryd.isAgg5 (by have := HX1.out.cell 0; simpa [pv, pvk] using this))) ?_; simp only [Act.put, List.setIfInBounds_toArray, List.set_cons_zero, List.set_cons_succ]
  refine Chain.step_wp (by simp [Region.wanted]) (has_wp _ m.kind HK.out _ _ 6 7 _ _ _ _ rfl ?_); simp only [Act.put, List.setIfInBounds_toArray, List.set_cons_zero, List.set_cons_succ]
  refine Chain.step_wp (by simp [Region.wanted]) (bin_wp .eql _ 9 _ _ _ 7 8 (.string (str [])) (.string (str (hasS m.kind))) _ _ _ _ _ rfl (fun o1 o2 => meq9 o1 o2 _ _ _ (hasS_nil _) _) ?_); simp only [Act.put, List.setIfInBounds_toArray, List.set_cons_zero, List.set_cons_succ]
  rw [HKN.out, Bool.not_true]
  refine Chain.step_on (d := 9) rfl (by simp [Region.wanted]) (v := .bool false) (by simp [execOp, Act.eval]) ?_; simp only [Act.put, List.setIfInBounds_toArray, List.set_cons_zero, List.set_cons_succ]
  refine Chain.step_on (d := 10) rfl (want_of (g := 4) (m := 9) rfl (by rfl) (show 9 < 150 by decide) (by rfl)) (v := .agg (pv m A c na nc)) (exec_load 33 (.tmp 1) rfl _ rfl _ (load_pv HX1.out)) ?_; simp only [Act.put, List.setIfInBounds_toArray, List.set_cons_zero, List.set_cons_succ]
  refine Chain.step_wp (want_of (g := 4) (m := 9) rfl (by rfl) (show 9 < 150 by decide) (by rfl)) (bare_wp _ m A c na nc HK.out _ _ 10 11 _ _ _ _ rfl ?_)
  intro w2 hb2
  have HX2 := Lib.hid (HX1.out.keep hb2)
  have HB2 := Lib.hid (next HB1.out hb2)
  clear hb2
  simp only [Act.put, List.setIfInBounds_toArray, List.set_cons_zero, List.set_cons_succ]
  refine Chain.step_wp (want_of (g := 4) (m := 9) rfl (by rfl) (show 9 < 150 by decide) (by rfl)) (not_wp _ _ _ 11 12 _ _ _ _ _ rfl ?_); simp only [Act.put, List.setIfInBounds_toArray, List.set_cons_zero, List.set_cons_succ]
  refine Chain.step_on (d := 13) rfl (by simp [Region.wanted]) (v := .bool (!(bareB m))) (by simp [execOp, Act.eval]; rfl) ?_; simp only [Act.put, List.setIfInBounds_toArray, List.set_cons_zero, List.set_cons_succ]
  refine Chain.or1 150 13 9 1 bx 33 3 (!(bareB m)) (decide (m.frm < 0)) (.int .i64 m.frm) (by decide) (by decide) (by rfl) (by rfl) (by rfl) (by rfl) (dfld1 _ _) (ld _ _ Tryd.isAgg3 (by have := HX2.out.cell 1; simpa [pv, pvk] using this)) (fun b K hb hK => bin_wp .lss _ _ _ b K _ _ (.int .i64 0) _ _ _ _ _ _ hb (fun o1 o2 => mlss3 o1 o2 _ _ _) hK) ?_; intro j2 j3 j4; simp only [Act.put, List.setIfInBounds_toArray, List.set_cons_zero, List.set_cons_succ]
  refine Chain.or1 150 18 14 1 bx 33 3 ((!(bareB m)) || decide (m.frm < 0)) (decide ((65535 : Int) < m.frm)) (.int .i64 m.frm) (by decide) (by decide) (by rfl) (by rfl) (by rfl) (by rfl) (dfld1 _ _) (ld _ _ Tryd.isAgg3 (by have := HX2.out.cell 1; simpa [pv, pvk] using this)) (fun b K hb hK => bin_wp .gtr _ _ _ b K _ _ (.int .i64 65535) _ _ _ _ _ _ hb (fun o1 o2 => mgtr3 o1 o2 _ _ _) hK) ?_; intro j2 j3 j4; simp only [Act.put, List.setIfInBounds_toArray, List.set_cons_zero, List.set_cons_succ]
  refine Chain.or1 150 23 19 2 bx 33 3 (((!(bareB m)) || decide (m.frm < 0)) || decide ((65535 : Int) < m.frm)) (decide (m.to_ < 0)) (.int .i64 m.to_) (by decide) (by decide) (by rfl) (by rfl) (by rfl) (by rfl) (dfld2 _ _) (ld _ _ Tryd.isAgg3 (by have := HX2.out.cell 2; simpa [pv, pvk] using this)) (fun b K hb hK => bin_wp .lss _ _ _ b K _ _ (.int .i64 0) _ _ _ _ _ _ hb (fun o1 o2 => mlss3 o1 o2 _ _ _) hK) ?_; intro j2 j3 j4; simp only [Act.put, List.setIfInBounds_toArray, List.set_cons_zero, List.set_cons_succ]
  refine Chain.or1 150 28 24 2 bx 33 3 ((((!(bareB m)) || decide (m.frm < 0)) || decide ((65535 : Int) < m.frm)) || decide (m.to_ < 0)) (decide ((65535 : Int) < m.to_)) (.int .i64 m.to_) (by decide) (by decide) (by rfl) (by rfl) (by rfl) (by rfl) (dfld2 _ _) (ld _ _ Tryd.isAgg3 (by have := HX2.out.cell 2; simpa [pv, pvk] using this)) (fun b K hb hK => bin_wp .gtr _ _ _ b K _ _ (.int .i64 65535) _ _ _ _ _ _ hb (fun o1 o2 => mgtr3 o1 o2 _ _ _) hK) ?_; intro j2 j3 j4; simp only [Act.put, List.setIfInBounds_toArray, List.set_cons_zero, List.set_cons_succ]
  refine Chain.or2 150 33 29 3 bx 33 2 (((((!(bareB m)) || decide (m.frm < 0)) || decide ((65535 : Int) < m.frm)) || decide (m.to_ < 0)) || decide ((65535 : Int) < m.to_)) ((!(wi long m.req))) (.int .i64 m.req) (.bool (wi long m.req)) (by decide) (by decide) (by rfl) (by rfl) (by rfl) (by rfl) (dfld3 _ _) (ld _ _ Tryd.isAgg2 (by have := HX2.out.cell 3; simpa [pv, pvk] using this)) (fun b K hb hK => long_wp _ _ b K _ _ _ _ _ _ hb hK) (fun b K hb hK => not_wp _ b K _ _ _ _ _ _ _ hb hK) ?_; intro j2 j3 j4 j5; simp only [Act.put, List.setIfInBounds_toArray, List.set_cons_zero, List.set_cons_succ]
  refine Chain.or2 150 39 35 5 bx 33 2 ((((((!(bareB m)) || decide (m.frm < 0)) || decide ((65535 : Int) < m.frm)) || decide (m.to_ < 0)) || decide ((65535 : Int) < m.to_)) || (!(wi long m.req))) ((!(wi long m.ver))) (.int .i64 m.ver) (.bool (wi long m.ver)) (by decide) (by decide) (by rfl) (by rfl) (by rfl) (by rfl) (dfld5 _ _) (ld _ _ Tryd.isAgg2 (by have := HX2.out.cell 5; simpa [pv, pvk] using this)) (fun b K hb hK => long_wp _ _ b K _ _ _ _ _ _ hb hK) (fun b K hb hK => not_wp _ b K _ _ _ _ _ _ _ hb hK) ?_; intro j2 j3 j4 j5; simp only [Act.put, List.setIfInBounds_toArray, List.set_cons_zero, List.set_cons_succ]
  refine Chain.or2 150 45 41 6 bx 33 2 (((((((!(bareB m)) || decide (m.frm < 0)) || decide ((65535 : Int) < m.frm)) || decide (m.to_ < 0)) || decide ((65535 : Int) < m.to_)) || (!(wi long m.req))) || (!(wi long m.ver))) ((!(wi long m.inc))) (.int .i64 m.inc) (.bool (wi long m.inc)) (by decide) (by decide) (by rfl) (by rfl) (by rfl) (by rfl) (dfld6 _ _) (ld _ _ Tryd.isAgg2 (by have := HX2.out.cell 6; simpa [pv, pvk] using this)) (fun b K hb hK => long_wp _ _ b K _ _ _ _ _ _ hb hK) (fun b K hb hK => not_wp _ b K _ _ _ _ _ _ _ hb hK) ?_; intro j2 j3 j4 j5; simp only [Act.put, List.setIfInBounds_toArray, List.set_cons_zero, List.set_cons_succ]
  rw [HR.out.1]
  generalize (((((((!(bareB m)) || decide (m.frm < 0)) || decide ((65535 : Int) < m.frm)) || decide (m.to_ < 0)) || decide ((65535 : Int) < m.to_)) || (!(wi long m.req))) || (!(wi long m.ver))) = q6
  generalize ((((((!(bareB m)) || decide (m.frm < 0)) || decide ((65535 : Int) < m.frm)) || decide (m.to_ < 0)) || decide ((65535 : Int) < m.to_)) || (!(wi long m.req))) = q5
  generalize (((((!(bareB m)) || decide (m.frm < 0)) || decide ((65535 : Int) < m.frm)) || decide (m.to_ < 0)) || decide ((65535 : Int) < m.to_)) = q4
  generalize ((((!(bareB m)) || decide (m.frm < 0)) || decide ((65535 : Int) < m.frm)) || decide (m.to_ < 0)) = q3
  generalize (((!(bareB m)) || decide (m.frm < 0)) || decide ((65535 : Int) < m.frm)) = q2
  generalize ((!(bareB m)) || decide (m.frm < 0)) = q1
  generalize (!(bareB m)) = q0
  generalize bareB m = qb
  refine wpList_nil ?_
  simp only [Exit.then]
  cases r1
  case true =>
    go_wp2_with fail
    go_ret
    exact ⟨congrArg (fun b => Ending.returned (.bool b)) (by rw [HM.out]; rfl), HB2.out⟩
  case false =>
    refine wp_cond_false rfl ?_
    refine wp_skip ?_
    simp only [Exit.then]
    refine wp_seq ?_
    refine wp_seq ?_
    refine wp_region_lit ?_
    refine Chain.step_on (d := 52) rfl (by simp [Region.wanted]) (v := .pointer (some ⟨bx, 4, none⟩)) (by simp [execOp, Act.eval, dfld4]) ?_; simp only [Act.put, List.setIfInBounds_toArray, List.set_cons_zero, List.set_cons_succ]
    refine Chain.step_on (d := 53) rfl (by simp [Region.wanted]) (v := .string (str m.key)) (exec_load 9 (.tmp 52) rfl _ rfl _ (ld _ _ Tryd.isAgg9 (by have := HX2.out.cell 4; simpa [pv, pvk] using this))) ?_; simp only [Act.put, List.setIfInBounds_toArray, List.set_cons_zero, List.set_cons_succ]
    refine Chain.step_on (d := 54) rfl (by simp [Region.wanted]) (v := .int .i64 (((str m.key).size : Nat) : Int)) (dlen_str _ _ _ _ _ _ _ rfl) ?_; simp only [Act.put, List.setIfInBounds_toArray, List.set_cons_zero, List.set_cons_succ]
    refine Chain.step_wp (by simp [Region.wanted]) (bin_wp .gtr _ _ _ _ _ 54 55 (.int .i64 64) _ _ _ _ _ _ rfl (fun o1 o2 => mgtr3 o1 o2 _ _ _) ?_); simp only [Act.put, List.setIfInBounds_toArray, List.set_cons_zero, List.set_cons_succ]
    refine Chain.or1 150 55 4 7 bx 33 3 (decide ((64 : Int) < (((str m.key).size : Nat) : Int))) (decide (m.size < 0)) (.int .i64 m.size) (by decide) (by decide) (by rfl) (by rfl) (by rfl) (by rfl) (dfld7 _ _) (ld _ _ Tryd.isAgg3 (by have := HX2.out.cell 7; simpa [pv, pvk] using this)) (fun b K hb hK => bin_wp .lss _ _ _ b K _ _ (.int .i64 0) _ _ _ _ _ _ hb (fun o1 o2 => mlss3 o1 o2 _ _ _) hK) ?_; intro j2 j3 j4; simp only [Act.put, List.setIfInBounds_toArray, List.set_cons_zero, List.set_cons_succ]
    refine Chain.or1 150 60 9 7 bx 33 3 ((decide ((64 : Int) < (((str m.key).size : Nat) : Int))) || decide (m.size < 0)) (decide ((2147483647 : Int) < m.size)) (.int .i64 m.size) (by decide) (by decide) (by rfl) (by rfl) (by rfl) (by rfl) (dfld7 _ _) (ld _ _ Tryd.isAgg3 (by have := HX2.out.cell 7; simpa [pv, pvk] using this)) (fun b K hb hK => bin_wp .gtr _ _ _ b K _ _ (.int .i64 2147483647) _ _ _ _ _ _ hb (fun o1 o2 => mgtr3 o1 o2 _ _ _) hK) ?_; intro j2 j3 j4; simp only [Act.put, List.setIfInBounds_toArray, List.set_cons_zero, List.set_cons_succ]
    refine Chain.or1 150 65 14 8 bx 33 3 (((decide ((64 : Int) < (((str m.key).size : Nat) : Int))) || decide (m.size < 0)) || decide ((2147483647 : Int) < m.size)) (decide (m.code < 0)) (.int .i64 m.code) (by decide) (by decide) (by rfl) (by rfl) (by rfl) (by rfl) (dfld8 _ _) (ld _ _ Tryd.isAgg3 (by have := HX2.out.cell 8; simpa [pv, pvk] using this)) (fun b K hb hK => bin_wp .lss _ _ _ b K _ _ (.int .i64 0) _ _ _ _ _ _ hb (fun o1 o2 => mlss3 o1 o2 _ _ _) hK) ?_; intro j2 j3 j4; simp only [Act.put, List.setIfInBounds_toArray, List.set_cons_zero, List.set_cons_succ]
    refine Chain.or1 150 70 19 8 bx 33 3 ((((decide ((64 : Int) < (((str m.key).size : Nat) : Int))) || decide (m.size < 0)) || decide ((2147483647 : Int) < m.size)) || decide (m.code < 0)) (decide ((65535 : Int) < m.code)) (.int .i64 m.code) (by decide) (by decide) (by rfl) (by rfl) (by rfl) (by rfl) (dfld8 _ _) (ld _ _ Tryd.isAgg3 (by have := HX2.out.cell 8; simpa [pv, pvk] using this)) (fun b K hb hK => bin_wp .gtr _ _ _ b K _ _ (.int .i64 65535) _ _ _ _ _ _ hb (fun o1 o2 => mgtr3 o1 o2 _ _ _) hK) ?_; intro j2 j3 j4; simp only [Act.put, List.setIfInBounds_toArray, List.set_cons_zero, List.set_cons_succ]
    refine Chain.or1 150 75 24 9 bx 33 3 (((((decide ((64 : Int) < (((str m.key).size : Nat) : Int))) || decide (m.size < 0)) || decide ((2147483647 : Int) < m.size)) || decide (m.code < 0)) || decide ((65535 : Int) < m.code)) (decide (m.node < 0)) (.int .i64 m.node) (by decide) (by decide) (by rfl) (by rfl) (by rfl) (by rfl) (dfld9 _ _) (ld _ _ Tryd.isAgg3 (by have := HX2.out.cell 9; simpa [pv, pvk] using this)) (fun b K hb hK => bin_wp .lss _ _ _ b K _ _ (.int .i64 0) _ _ _ _ _ _ hb (fun o1 o2 => mlss3 o1 o2 _ _ _) hK) ?_; intro j2 j3 j4; simp only [Act.put, List.setIfInBounds_toArray, List.set_cons_zero, List.set_cons_succ]
    refine Chain.or1 150 80 29 9 bx 33 3 ((((((decide ((64 : Int) < (((str m.key).size : Nat) : Int))) || decide (m.size < 0)) || decide ((2147483647 : Int) < m.size)) || decide (m.code < 0)) || decide ((65535 : Int) < m.code)) || decide (m.node < 0)) (decide ((255 : Int) ≤ m.node)) (.int .i64 m.node) (by decide) (by decide) (by rfl) (by rfl) (by rfl) (by rfl) (dfld9 _ _) (ld _ _ Tryd.isAgg3 (by have := HX2.out.cell 9; simpa [pv, pvk] using this)) (fun b K hb hK => bin_wp .geq _ _ _ b K _ _ (.int .i64 255) _ _ _ _ _ _ hb (fun o1 o2 => mgeq3 o1 o2 _ _ _) hK) ?_; intro j2 j3 j4; simp only [Act.put, List.setIfInBounds_toArray, List.set_cons_zero, List.set_cons_succ]
    refine Chain.or2 150 85 34 11 bx 33 31 (((((((decide ((64 : Int) < (((str m.key).size : Nat) : Int))) || decide (m.size < 0)) || decide ((2147483647 : Int) < m.size)) || decide (m.code < 0)) || decide ((65535 : Int) < m.code)) || decide (m.node < 0)) || decide ((255 : Int) ≤ m.node)) (decide ((64 : Int) < ((m.ids.length : Nat) : Int))) (.slice A m.ids.length c) (.int .i64 ((m.ids.length : Nat) : Int)) (by decide) (by decide) (by rfl) (by rfl) (by rfl) (by rfl) (dfld11 _ _) (ld _ _ Tryd.isAgg31 (by have := HX2.out.cell 11; simpa [pv, pvk] using this)) (fun b K hb hK => Chain.op_wp (dlen_ids (x := 0) _ _ _ _ _ _ _ hb) hK) (fun b K hb hK => bin_wp .gtr _ _ _ b K _ _ (.int .i64 64) _ _ _ _ _ _ hb (fun o1 o2 => mgtr3 o1 o2 _ _ _) hK) ?_; intro j2 j3 j4 j5; simp only [Act.put, List.setIfInBounds_toArray, List.set_cons_zero, List.set_cons_succ]
    refine Chain.or2 150 91 40 12 bx 33 24 ((((((((decide ((64 : Int) < (((str m.key).size : Nat) : Int))) || decide (m.size < 0)) || decide ((2147483647 : Int) < m.size)) || decide (m.code < 0)) || decide ((65535 : Int) < m.code)) || decide (m.node < 0)) || decide ((255 : Int) ≤ m.node)) || decide ((64 : Int) < ((m.ids.length : Nat) : Int))) (decide ((255 : Int) < ((m.nodes.length : Nat) : Int))) (.slice na m.nodes.length nc) (.int .i64 ((m.nodes.length : Nat) : Int)) (by decide) (by decide) (by rfl) (by rfl) (by rfl) (by rfl) (dfld12 _ _) (ld _ _ Tryd.isAgg24 (by have := HX2.out.cell 12; simpa [pv, pvk] using this)) (fun b K hb hK => Chain.op_wp (dlen_ints (x := 0) _ _ _ _ _ _ _ hb) hK) (fun b K hb hK => bin_wp .gtr _ _ _ b K _ _ (.int .i64 255) _ _ _ _ _ _ hb (fun o1 o2 => mgtr3 o1 o2 _ _ _) hK) ?_; intro j2 j3 j4 j5; simp only [Act.put, List.setIfInBounds_toArray, List.set_cons_zero, List.set_cons_succ]
    refine Chain.or2 150 97 46 13 bx 33 9 (((((((((decide ((64 : Int) < (((str m.key).size : Nat) : Int))) || decide (m.size < 0)) || decide ((2147483647 : Int) < m.size)) || decide (m.code < 0)) || decide ((65535 : Int) < m.code)) || decide (m.node < 0)) || decide ((255 : Int) ≤ m.node)) || decide ((64 : Int) < ((m.ids.length : Nat) : Int))) || decide ((255 : Int) < ((m.nodes.length : Nat) : Int))) (decide ((65536 : Int) < (((str m.data).size : Nat) : Int))) (.string (str m.data)) (.int .i64 (((str m.data).size : Nat) : Int)) (by decide) (by decide) (by rfl) (by rfl) (by rfl) (by rfl) (dfld13 _ _) (ld _ _ Tryd.isAgg9 (by have := HX2.out.cell 13; simpa [pv, pvk] using this)) (fun b K hb hK => Chain.op_wp (dlen_str _ _ _ _ _ _ _ hb) hK) (fun b K hb hK => bin_wp .gtr _ _ _ b K _ _ (.int .i64 65536) _ _ _ _ _ _ hb (fun o1 o2 => mgtr3 o1 o2 _ _ _) hK) ?_; intro j2 j3 j4 j5; simp only [Act.put, List.setIfInBounds_toArray, List.set_cons_zero, List.set_cons_succ]
    rw [HR.out.2]
    generalize (((((((((decide ((64 : Int) < (((str m.key).size : Nat) : Int))) || decide (m.size < 0)) || decide ((2147483647 : Int) < m.size)) || decide (m.code < 0)) || decide ((65535 : Int) < m.code)) || decide (m.node < 0)) || decide ((255 : Int) ≤ m.node)) || decide ((64 : Int) < ((m.ids.length : Nat) : Int))) || decide ((255 : Int) < ((m.nodes.length : Nat) : Int))) = p8
    generalize ((((((((decide ((64 : Int) < (((str m.key).size : Nat) : Int))) || decide (m.size < 0)) || decide ((2147483647 : Int) < m.size)) || decide (m.code < 0)) || decide ((65535 : Int) < m.code)) || decide (m.node < 0)) || decide ((255 : Int) ≤ m.node)) || decide ((64 : Int) < ((m.ids.length : Nat) : Int))) = p7
    generalize (((((((decide ((64 : Int) < (((str m.key).size : Nat) : Int))) || decide (m.size < 0)) || decide ((2147483647 : Int) < m.size)) || decide (m.code < 0)) || decide ((65535 : Int) < m.code)) || decide (m.node < 0)) || decide ((255 : Int) ≤ m.node)) = p6
    generalize ((((((decide ((64 : Int) < (((str m.key).size : Nat) : Int))) || decide (m.size < 0)) || decide ((2147483647 : Int) < m.size)) || decide (m.code < 0)) || decide ((65535 : Int) < m.code)) || decide (m.node < 0)) = p5
    generalize (((((decide ((64 : Int) < (((str m.key).size : Nat) : Int))) || decide (m.size < 0)) || decide ((2147483647 : Int) < m.size)) || decide (m.code < 0)) || decide ((65535 : Int) < m.code)) = p4
    generalize ((((decide ((64 : Int) < (((str m.key).size : Nat) : Int))) || decide (m.size < 0)) || decide ((2147483647 : Int) < m.size)) || decide (m.code < 0)) = p3
    generalize (((decide ((64 : Int) < (((str m.key).size : Nat) : Int))) || decide (m.size < 0)) || decide ((2147483647 : Int) < m.size)) = p2
    generalize ((decide ((64 : Int) < (((str m.key).size : Nat) : Int))) || decide (m.size < 0)) = p1
    generalize (decide ((64 : Int) < (((str m.key).size : Nat) : Int))) = p0
    refine wpList_nil ?_
    simp only [Exit.then]
    cases r3
    case true =>
      go_wp2_with fail
      go_ret
      exact ⟨congrArg (fun b => Ending.returned (.bool b)) (by rw [HM.out]; rfl), HB2.out⟩
    case false =>
      have c11 := HX2.out.cell 11
      have c12 := HX2.out.cell 12
      simp [pv, pvk] at c11 c12
      have HI2 := Lib.hid (HI.out.below HB2.out)
      have hli : ((m.ids.length : Nat) : Int) ≤ 100000000 := by have := HI.out.li; omega
      have hln : ((m.nodes.length : Nat) : Int) ≤ 100000000 := by have := HI.out.ln; omega
      clear hbx hw1
      go_wp2_with fail
      go_loop [3] (fun i => ∃ j : Nat, i = .int .i64 (j : Int) ∧ j ≤ m.ids.length ∧ (m.ids.take j).all idOk = true) (fun i => m.ids.length - (intOf i).toNat)
      case atStart => exact ⟨0, rfl, Nat.zero_le _, rfl⟩
      case round =>
        obtain ⟨j, rfl, hj, ha⟩ := hrel
        have HA := Lib.hid ha
        clear ha
        by_cases hjl : j < m.ids.length
        · obtain ⟨b1, o1, e1, hb1, k1, k2⟩ := ids_at HI2.out.ids hjl
          rw [e1] at c11
          obtain ⟨⟨ky, vr⟩, hx⟩ : ∃ x, m.ids[j] = x := ⟨_, rfl⟩
          rw [hx] at k1 k2
          dsimp only at k1 k2
          have h1 : (j : Int) < ((m.ids.length : Nat) : Int) := by omega
          have h0 : (0 : Int) ≤ (j : Int) := by omega
          have hks : (str ky).size = ky.length := rfl
          have HS := Lib.hid (show (m.ids.take (j + 1)).all idOk = idOk (ky, vr) by rw [List.take_succ_eq_append_getElem hjl, List.all_append, HA.out, hx]; simp)
          have HJ := Lib.hid hjl
          have HNO := Lib.hid (show idOk (ky, vr) = false → may m = false by
            intro h
            have : m.ids.all idOk = false := by
              rw [List.all_eq_false]
              have hm : m.ids[j]'hjl ∈ m.ids := List.getElem_mem _
              rw [hx] at hm
              exact ⟨_, hm, by rw [h]; simp⟩
            rw [HM.out, this]; simp)
          clear e1 hb1 hx hj
          obtain ⟨kl, hkl⟩ : ∃ kl, ky.length = kl := ⟨_, rfl⟩
          have hid : idOk (ky, vr) = (decide (kl ≤ 64) && wi long vr) := by unfold idOk; rw [← hkl]
          rw [hkl] at hks
          rw [hid] at HS HNO
          clear hid
          by_cases h64 : kl ≤ 64
          · have dk : decide ((64 : Int) < (kl : Int)) = false := decide_eq_false (by omega)
            have hd64 : decide (kl ≤ 64) = true := decide_eq_true h64
            rw [hd64] at HS HNO
            clear h64 hkl hd64
            go_wp2_with fail
            refine (rlong_any _ vr).mono ?_
            rintro e w3 ⟨rfl, rfl⟩
            obtain ⟨lo, hlo⟩ : ∃ lo, wi long vr = lo := ⟨_, rfl⟩
            rw [hlo] at HS HNO ⊢
            clear hlo
            cases lo
            · have HNO2 := Lib.hid (HNO.out rfl)
              clear HNO
              go_wp2_with fail
              go_ret
              exact ⟨congrArg (fun b => Ending.returned (.bool b)) HNO2.out.symm, HB2.out⟩
            · clear HNO
              go_wp2_with fail
              go_round
              case rel => exact ⟨j + 1, by go_num, HJ.out, by rw [HS.out]; rfl⟩
              case measure => simp [intOf]; have := HJ.out; omega
          · have dk : decide ((64 : Int) < (kl : Int)) = true := decide_eq_true (by omega)
            have hd64 : decide (kl ≤ 64) = false := decide_eq_false h64
            rw [hd64] at HNO
            have HNO2 := Lib.hid (HNO.out rfl)
            clear h64 hkl hd64 HNO HS
            go_wp2_with fail
            go_ret
            exact ⟨congrArg (fun b => Ending.returned (.bool b)) HNO2.out.symm, HB2.out⟩
        · obtain rfl : j = m.ids.length := by omega
          have h1 : ¬ ((m.ids.length : Nat) : Int) < ((m.ids.length : Nat) : Int) := by omega
          rw [List.take_length] at HA
          clear hj hjl
          go_wp2_with fail
          go_loop [4] (fun i => ∃ j : Nat, i = .int .i64 (j : Int) ∧ j ≤ m.nodes.length ∧ (m.nodes.take j).all (wi 254) = true) (fun i => m.nodes.length - (intOf i).toNat)
          case atStart => exact ⟨0, rfl, Nat.zero_le _, rfl⟩
          case round =>
            obtain ⟨j, rfl, hj, ha⟩ := hrel
            have HA2 := Lib.hid ha
            clear ha h1
            by_cases hjl : j < m.nodes.length
            · obtain ⟨b1, o1, e1, hb1, k1⟩ := HI2.out.nodes.at_ (k := j) (by rw [List.length_map]; exact hjl)
              rw [List.getElem_map] at k1
              rw [e1] at c12
              obtain ⟨nd, hx⟩ : ∃ x, m.nodes[j] = x := ⟨_, rfl⟩
              rw [hx] at k1
              simp only [iv] at k1
              have h1 : (j : Int) < ((m.nodes.length : Nat) : Int) := by omega
              have h0 : (0 : Int) ≤ (j : Int) := by omega
              have HS := Lib.hid (show (m.nodes.take (j + 1)).all (wi 254) = wi 254 nd by rw [List.take_succ_eq_append_getElem hjl, List.all_append, HA2.out, hx]; simp)
              have HJ := Lib.hid hjl
              have HNO := Lib.hid (show wi 254 nd = false → may m = false by
                intro h
                have : m.nodes.all (wi 254) = false := by
                  rw [List.all_eq_false]
                  have hm : m.nodes[j]'hjl ∈ m.nodes := List.getElem_mem _
                  rw [hx] at hm
                  exact ⟨_, hm, by rw [h]; simp⟩
                rw [HM.out, this]; simp)
              clear e1 hb1 hx hj
              by_cases hn0 : 0 ≤ nd
              · have d0 : decide (nd < 0) = false := decide_eq_false (by omega)
                by_cases hn2 : nd ≤ 254
                · have d1 : decide ((255 : Int) ≤ nd) = false := decide_eq_false (by omega)
                  have hw : wi 254 nd = true := by unfold wi; rw [decide_eq_true hn0, decide_eq_true hn2]; rfl
                  rw [hw] at HS
                  clear hw HNO hn0 hn2
                  go_wp2_with fail
                  go_round
                  case rel => exact ⟨j + 1, by go_num, HJ.out, HS.out⟩
                  case measure => simp [intOf]; have := HJ.out; omega
                · have d1 : decide ((255 : Int) ≤ nd) = true := decide_eq_true (by omega)
                  have HNO2 := Lib.hid (HNO.out (by unfold wi; rw [decide_eq_false hn2, Bool.and_false]))
                  clear HNO HS hn0 hn2
                  go_wp2_with fail
                  go_ret
                  exact ⟨congrArg (fun b => Ending.returned (.bool b)) HNO2.out.symm, HB2.out⟩
              · have d0 : decide (nd < 0) = true := decide_eq_true (by omega)
                have HNO2 := Lib.hid (HNO.out (by unfold wi; rw [decide_eq_false hn0, Bool.false_and]))
                clear HNO HS hn0
                go_wp2_with fail
                go_ret
                exact ⟨congrArg (fun b => Ending.returned (.bool b)) HNO2.out.symm, HB2.out⟩
            · obtain rfl : j = m.nodes.length := by omega
              have h1 : ¬ ((m.nodes.length : Nat) : Int) < ((m.nodes.length : Nat) : Int) := by omega
              rw [List.take_length] at HA2
              have HY := Lib.hid (show may m = true by rw [HM.out, HA.out, HA2.out]; rfl)
              clear hj hjl
              go_wp2_with fail
              go_ret
              exact ⟨congrArg (fun b => Ending.returned (.bool b)) HY.out.symm, HB2.out⟩
theorem rmay_any (w : World) (m : Msg) (A : Option Addr) (c : Nat) (na : Option Addr) (nc : Nat) (hI : PIn w w.heap.size m A na) :
    Calls Tryd.prog 11 #[.agg (pv m A c na nc)] w fun e w' => e = .returned (.bool (may m)) ∧ Below w.heap.size w w' := by
  cases hK : isK m.kind with
  | true => exact rmay_yes w m A c na nc hI hK
  | false =>
    have h : may m = false := by rw [may_eq, hK]; rfl
    rw [h]; exact rmay_no w m A c na nc hI hK
end Go.Proofs.YtebdmfmadbikaaaDoor.WiW
