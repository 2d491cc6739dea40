/- Package wire's may. Printed by genwmay.py (raw numbers of the seat). -/
import Derived.Test.YtebdmfmadbikaaaDoorWrBare
import Derived.Test.YtebdmfmadbikaaaDoorHeldG
namespace Go.Proofs.YtebdmfmadbikaaaDoor.WiW
open Go.RowKit Go.Shelf Mem Fds FdW Wi Rng
set_option linter.unusedVariables false
set_option linter.unusedSimpArgs false

theorem exec_load {P : Program} {o : Oper} {a : Act} {w : World} (ty : TypeId) (x : Operand) (ho : o.op = .load ty x) (q : Value) (hx : a.eval x = q) (v : Value) (h : (Instr.loadAt ty q).run P w = .ok v w) : (execOp a.eval o).run P w = .ok (.value v) w := by
  unfold execOp; simp only [ho, hx, Sem.run_bind, h, Result.andThen_ok, Sem.run_pure]
theorem load_msg {w : World} {b : Nat} {m : Msg} {s : Sl} (h : Blk w b 27 (mv m s)) : (Instr.loadAt 27 (.pointer (some ⟨b, 0, none⟩))).run Tryd.prog w = .ok (.agg (mv m s)) w := by
  have := run_loadAt_mid (P := Tryd.prog) w b 0 27 (mv m s).toList _ (range_of h) Tryd.underlying27 rfl minfo
  exact this
set_option maxRecDepth 100000 in
set_option maxHeartbeats 8000000 in
theorem may_any (w : World) (m : Msg) (s : Sl) (hT : HasT w) (hI : MIn w w.heap.size m s) :
    Calls Tryd.prog 28 #[.agg (mv m s)] w fun e w' => e = .returned (.bool (may m)) ∧ Below w.heap.size w w' := by
  obtain ⟨w1, hw1⟩ : ∃ w1 : World, (w.alloc (.cells (mv m s) 27)).drew = w1 := ⟨_, rfl⟩
  obtain ⟨bx, hbx⟩ : ∃ bx, w.heap.size = bx := ⟨_, rfl⟩
  have HW := Lib.hid (show Blk w1 bx 27 (mv m s) ∧ Below w.heap.size w w1 by
    rw [← hw1, ← hbx]; exact ⟨(Blk.new w _ _).keep (nextN (Mem.start _) 1), nextN (nextA (Mem.start w) _) 1⟩)
  have HK := Lib.hid hI.kind
  have HT := Lib.hid hT
  have HI := Lib.hid hI
  have HBX := Lib.hid hbx
  have HW1 := Lib.hid hw1
  clear hT hI hbx hw1
  rcases Bool.eq_false_or_eq_true (isK m.kind) with hK | hK
  · have h0 : (((mask m.kind : Nat) : Int) == 0) = false := by
      have : ¬ mask m.kind = 0 := fun e => by rw [(mask_zero _).1 e] at hK; cases hK
      simp; omega
    obtain ⟨q, hq⟩ : ∃ q, same m (keep m (flds m.kind)) = q := ⟨_, rfl⟩
    have HQ := Lib.hid hq
    have HKK := Lib.hid hK
    clear hq hK
    go_enter Tryd.func28, Tryd.ntmps28
    go_wp2_with fail
    rw [HBX.out]
    refine wp_region_noPanic ?_
    refine wp_heldG (fun W => Blk W bx 27 (mv m s) ∧ Below w.heap.size w W) [] (by kernel_rfl) ?hs0 ?rg0
    case hs0 =>
      rw [HW1.out]; exact HW.out
    case rg0 =>
    intro hHeld
    rw [HW1.out] at hHeld ⊢
    refine wpAnyG_pure (i := 0) (oi := { dst := some 5, op := Op.fieldAddr 27 (Operand.tmp 1) 0, type := 0, pos := _, after := #[], guard := none }) (v := ?_) rfl (by kernel_rfl) (by kernel_rfl) (by kernel_rfl) (by kernel_rfl) (fun _ _ _ h => h) (Or.inl ⟨by rfl, ?_⟩) (fun _ => by assumption) ?_
    rotate_left
    · intro w hSw
      try dsimp only at hSw
      go_simp
      try with_reducible rfl
    try simp only [Act.put, List.setIfInBounds_toArray, List.set_cons_zero, List.set_cons_succ]
    refine wpAnyG_take (i := 1) (oi := { dst := some 6, op := Op.load 5 (Operand.tmp 5), type := 5, pos := _, after := #[{ on := 0, ground := Ground.data }], guard := none }) (v := ?_) rfl (by kernel_rfl) (by kernel_rfl) (by kernel_rfl) (by kernel_rfl) (fun _ _ _ h => h) (Or.inl ⟨by rfl, ?_⟩) (by assumption) ?_
    rotate_left
    · intro w hSw
      try dsimp only at hSw
      have hk := hSw.1.cell 0
      simp [mv] at hk
      go_simp
      try with_reducible rfl
    try simp only [Act.put, List.setIfInBounds_toArray, List.set_cons_zero, List.set_cons_succ]
    refine wpAnyG_one (i := 2) (o := { dst := some 7, op := Op.call { callee := Callee.value (Operand.func 47), args := #[Operand.tmp 6], argTypes := #[5] }, type := 64, pos := _, after := #[{ on := 1, ground := Ground.data }], guard := none }) (by kernel_rfl) rfl (fun K hK => ?_)
    go_simp
    refine (hasOf_any _ m.kind HK.out (HT.out.keep hHeld.2)).mono ?_
    rintro e w' ⟨rfl, rfl⟩
    try dsimp only
    refine hK.out _ _ ?_ (fun hHeld => ?_)
    · intro _
      try dsimp only
      exact hHeld
    clear hK K
    try simp only [Act.put, List.setIfInBounds_toArray, List.set_cons_zero, List.set_cons_succ]
    have hHeld := hHeld (by kernel_rfl)
    refine wpAnyG_pure (i := 3) (oi := { dst := some 8, op := Op.binOp BinOp.eql 64 (Operand.tmp 7) (Operand.const (Value.int IntKind.u16 0)) 64, type := 4, pos := _, after := #[{ on := 2, ground := Ground.data }], guard := none }) (v := ?_) rfl (by kernel_rfl) (by kernel_rfl) (by kernel_rfl) (by kernel_rfl) (fun _ _ _ h => h) (Or.inl ⟨by rfl, ?_⟩) (fun _ => by assumption) ?_
    rotate_left
    · intro w hSw
      try dsimp only at hSw
      go_simp
      try with_reducible rfl
    try simp only [Act.put, List.setIfInBounds_toArray, List.set_cons_zero, List.set_cons_succ]
    refine wpAnyG_pure (i := 4) (oi := { dst := some 9, op := Op.move (Operand.tmp 8), type := 4, pos := _, after := #[{ on := 3, ground := Ground.data }, { on := 2, ground := Ground.chain }], guard := none }) (v := ?_) rfl (by kernel_rfl) (by kernel_rfl) (by kernel_rfl) (by kernel_rfl) (fun _ _ _ h => h) (Or.inl ⟨by rfl, ?_⟩) (fun _ => by assumption) ?_
    rotate_left
    · intro w hSw
      try dsimp only at hSw
      go_simp
      try with_reducible rfl
    try simp only [Act.put, List.setIfInBounds_toArray, List.set_cons_zero, List.set_cons_succ]
    refine wpAnyG_take (i := 5) (oi := { dst := some 10, op := Op.load 27 (Operand.tmp 1), type := 27, pos := _, after := #[{ on := 4, ground := Ground.guard }], guard := some (4, false) }) (v := ?_) rfl (by kernel_rfl) (by kernel_rfl) (by kernel_rfl) (by kernel_rfl) (fun _ _ _ h => h) (Or.inl ⟨by rfl, ?_⟩) (by assumption) ?_
    rotate_left
    · intro w hSw
      try dsimp only at hSw
      refine exec_load 27 (.tmp 1) ?_ _ ?_ (.agg (mv m s)) (load_msg hSw.1)
      · rfl
      · rfl
    try simp only [Act.put, List.setIfInBounds_toArray, List.set_cons_zero, List.set_cons_succ]
    refine wpAnyG_take (i := 6) (oi := { dst := some 11, op := Op.load 27 (Operand.tmp 1), type := 27, pos := _, after := #[{ on := 4, ground := Ground.guard }], guard := some (4, false) }) (v := ?_) rfl (by kernel_rfl) (by kernel_rfl) (by kernel_rfl) (by kernel_rfl) (fun _ _ _ h => h) (Or.inl ⟨by rfl, ?_⟩) (by assumption) ?_
    rotate_left
    · intro w hSw
      try dsimp only at hSw
      refine exec_load 27 (.tmp 1) ?_ _ ?_ (.agg (mv m s)) (load_msg hSw.1)
      · rfl
      · rfl
    try simp only [Act.put, List.setIfInBounds_toArray, List.set_cons_zero, List.set_cons_succ]
    refine wpAnyG_one (i := 7) (o := { dst := some 12, op := Op.call { callee := Callee.value (Operand.func 48), args := #[Operand.tmp 11], argTypes := #[27] }, type := 27, pos := _, after := #[{ on := 6, ground := Ground.data }, { on := 4, ground := Ground.chain }, { on := 4, ground := Ground.guard }], guard := some (4, false) }) (by kernel_rfl) rfl (fun K hK => ?_)
    go_simp
    refine (bare_any _ m s (HT.out.keep hHeld.2) HK.out).mono ?_
    rintro e w' ⟨rfl, hb⟩
    try dsimp only
    refine hK.out _ _ ?_ (fun hHeld => ?_)
    · intro _
      try dsimp only
      exact ⟨hHeld.1.keep hb, next hHeld.2 hb⟩
    clear hK K
    try simp only [Act.put, List.setIfInBounds_toArray, List.set_cons_zero, List.set_cons_succ]
    have hHeld := hHeld (by kernel_rfl)
    refine wpAnyG_one (i := 8) (o := { dst := some 13, op := Op.call { callee := Callee.value (Operand.func 18), args := #[Operand.tmp 10, Operand.tmp 12], argTypes := #[27, 27] }, type := 4, pos := _, after := #[{ on := 5, ground := Ground.data }, { on := 7, ground := Ground.data }, { on := 7, ground := Ground.chain }, { on := 4, ground := Ground.guard }], guard := some (4, false) }) (by kernel_rfl) rfl (fun K hK => ?_)
    go_simp
    refine (same_any _ _ _ _ _ (HI.out.keep hHeld.2) ((HI.out.keep hHeld.2).kept _)).mono ?_
    rintro e w' ⟨rfl, hb⟩
    rw [HQ.out]
    try dsimp only
    refine hK.out _ _ ?_ (fun hHeld => ?_)
    · intro _
      try dsimp only
      exact ⟨hHeld.1.keep hb, next hHeld.2 hb⟩
    clear hK K
    try simp only [Act.put, List.setIfInBounds_toArray, List.set_cons_zero, List.set_cons_succ]
    have hHeld := hHeld (by kernel_rfl)
    refine wpAnyG_pure (i := 9) (oi := { dst := some 14, op := Op.unOp UnOp.not 4 (Operand.tmp 13), type := 4, pos := _, after := #[{ on := 8, ground := Ground.data }, { on := 4, ground := Ground.guard }], guard := some (4, false) }) (v := ?_) rfl (by kernel_rfl) (by kernel_rfl) (by kernel_rfl) (by kernel_rfl) (fun _ _ _ h => h) (Or.inl ⟨by rfl, ?_⟩) (fun _ => by assumption) ?_
    rotate_left
    · intro w hSw
      try dsimp only at hSw
      go_simp
      try with_reducible rfl
    try simp only [Act.put, List.setIfInBounds_toArray, List.set_cons_zero, List.set_cons_succ]
    refine wpAnyG_pure (i := 10) (oi := { dst := some 15, op := Op.pick (Operand.tmp 9) (Operand.const (Value.bool true)) (Operand.tmp 14), type := 4, pos := _, after := #[{ on := 4, ground := Ground.data }, { on := 9, ground := Ground.data }], guard := none }) (v := ?_) rfl (by kernel_rfl) (by kernel_rfl) (by kernel_rfl) (by kernel_rfl) (fun _ _ _ h => h) (Or.inl ⟨by rfl, ?_⟩) (fun _ => by assumption) ?_
    rotate_left
    · intro w hSw
      try dsimp only at hSw
      go_simp
      try with_reducible rfl
    try simp only [Act.put, List.setIfInBounds_toArray, List.set_cons_zero, List.set_cons_succ]
    refine wpAnyG_pure (i := 11) (oi := { dst := some 4, op := Op.assign (Operand.tmp 15), type := 4, pos := _, after := #[{ on := 10, ground := Ground.data }, { on := 8, ground := Ground.chain }], guard := none }) (v := ?_) rfl (by kernel_rfl) (by kernel_rfl) (by kernel_rfl) (by kernel_rfl) (fun _ _ _ h => h) (Or.inl ⟨by rfl, ?_⟩) (fun _ => by assumption) ?_
    rotate_left
    · intro w hSw
      try dsimp only at hSw
      go_simp
      try with_reducible rfl
    try simp only [Act.put, List.setIfInBounds_toArray, List.set_cons_zero, List.set_cons_succ]
    refine wpAnyG_done (by kernel_rfl) ?_ _
    refine NoPanic.normal ?_
    have HH0 := Lib.hid hHeld
    clear hHeld h0
    cases q
    · go_wp2_with fail
      go_ret
      exact ⟨by rw [show may m = false by simp only [may, HKK.out, HQ.out, Bool.and_true, Bool.true_and, Bool.and_false, Bool.false_and]]; rfl, HH0.out.2⟩
    · have c1 := HH0.out.1.cell 1
      have c2 := HH0.out.1.cell 2
      have c8 := HH0.out.1.cell 8
      simp [mv] at c1 c2 c8
      have hbd := fun W => build3_3 W m.frm m.to_ m.code
      go_wp2_with fail
      refine (w3_3 _ _ rfl 65535 m.frm m.to_ m.code).mono ?_
      rintro e x1 ⟨rfl, hx⟩
      have HH1 := Lib.hid (show Blk x1 bx 27 (mv m s) ∧ Below w.heap.size w x1 by rw [← hx]; exact ⟨HH0.out.1.keep (nextA (Mem.start _) _), nextA HH0.out.2 _⟩)
      clear hx hbd c1 c2 c8
      obtain ⟨b0, hb⟩ : ∃ b, (wi 65535 m.frm && wi 65535 m.to_ && wi 65535 m.code) = b := ⟨_, rfl⟩
      rw [hb]
      have HB0 := Lib.hid hb
      clear hb
      cases b0
      · go_wp2_with fail
        go_ret
        exact ⟨by rw [show may m = false by simp only [may, HKK.out, HQ.out, HB0.out, Bool.and_true, Bool.true_and, Bool.and_false, Bool.false_and]]; rfl, HH1.out.2⟩
      · have c3 := HH1.out.1.cell 3
        have c5 := HH1.out.1.cell 5
        have c6 := HH1.out.1.cell 6
        simp [mv] at c3 c5 c6
        have hbd := fun W => build6_3 W m.req m.ver m.inc
        go_wp2_with fail
        refine (w6_3 _ _ rfl 4611686018427387904 m.req m.ver m.inc).mono ?_
        rintro e x2 ⟨rfl, hx⟩
        have HH2 := Lib.hid (show Blk x2 bx 27 (mv m s) ∧ Below w.heap.size w x2 by rw [← hx]; exact ⟨HH1.out.1.keep (nextA (Mem.start _) _), nextA HH1.out.2 _⟩)
        clear hx hbd c3 c5 c6
        obtain ⟨b1, hb⟩ : ∃ b, (wi long m.req && wi long m.ver && wi long m.inc) = b := ⟨_, rfl⟩
        simp only [long] at hb
        rw [hb]
        have HB1 := Lib.hid (show (wi long m.req && wi long m.ver && wi long m.inc) = b1 by simp only [long]; exact hb)
        clear hb
        cases b1
        · go_wp2_with fail
          go_ret
          exact ⟨by rw [show may m = false by simp only [may, HKK.out, HQ.out, HB0.out, HB1.out, Bool.and_true, Bool.true_and, Bool.and_false, Bool.false_and]]; rfl, HH2.out.2⟩
        · have c7 := HH2.out.1.cell 7
          simp [mv] at c7
          have hbd := fun W => build3_1 W m.size
          go_wp2_with fail
          refine (w3_1 _ _ rfl 2147483647 m.size).mono ?_
          rintro e x3 ⟨rfl, hx⟩
          have HH3 := Lib.hid (show Blk x3 bx 27 (mv m s) ∧ Below w.heap.size w x3 by rw [← hx]; exact ⟨HH2.out.1.keep (nextA (Mem.start _) _), nextA HH2.out.2 _⟩)
          clear hx hbd c7
          obtain ⟨b2, hb⟩ : ∃ b, (wi 2147483647 m.size) = b := ⟨_, rfl⟩
          rw [hb]
          have HB2 := Lib.hid hb
          clear hb
          cases b2
          · go_wp2_with fail
            go_ret
            exact ⟨by rw [show may m = false by simp only [may, HKK.out, HQ.out, HB0.out, HB1.out, HB2.out, Bool.and_true, Bool.true_and, Bool.and_false, Bool.false_and]]; rfl, HH3.out.2⟩
          · have c9 := HH3.out.1.cell 9
            simp [mv] at c9
            have hbd := fun W => build3_1 W m.node
            go_wp2_with fail
            refine (w3_1 _ _ rfl 254 m.node).mono ?_
            rintro e x4 ⟨rfl, hx⟩
            have HH4 := Lib.hid (show Blk x4 bx 27 (mv m s) ∧ Below w.heap.size w x4 by rw [← hx]; exact ⟨HH3.out.1.keep (nextA (Mem.start _) _), nextA HH3.out.2 _⟩)
            clear hx hbd c9
            obtain ⟨b3, hb⟩ : ∃ b, (wi 254 m.node) = b := ⟨_, rfl⟩
            rw [hb]
            have HB3 := Lib.hid hb
            clear hb
            cases b3
            · go_wp2_with fail
              go_ret
              exact ⟨by rw [show may m = false by simp only [may, HKK.out, HQ.out, HB0.out, HB1.out, HB2.out, HB3.out, Bool.and_true, Bool.true_and, Bool.and_false, Bool.false_and]]; rfl, HH4.out.2⟩
            · have c4 := HH4.out.1.cell 4
              have c11 := HH4.out.1.cell 11
              have c12 := HH4.out.1.cell 12
              have c13 := HH4.out.1.cell 13
              simp [mv] at c4 c11 c12 c13
              have hsz : (str m.key).size = m.key.length := rfl
              by_cases h0 : m.key.length ≤ 64
              rotate_left
              · have d0 : decide ((64 : Int) < ((m.key.length : Nat) : Int)) = true := decide_eq_true (by omega)
                have HL0 := Lib.hid (show decide (m.key.length ≤ 64) = false from decide_eq_false h0)
                clear h0
                go_wp2_with fail
                go_ret
                exact ⟨by rw [show may m = false by simp only [may, HKK.out, HQ.out, HB0.out, HB1.out, HB2.out, HB3.out, HL0.out, Bool.and_true, Bool.true_and, Bool.and_false, Bool.false_and]]; rfl, HH4.out.2⟩
              have d0 : decide ((64 : Int) < ((m.key.length : Nat) : Int)) = false := decide_eq_false (by omega)
              have HL0 := Lib.hid (show decide (m.key.length ≤ 64) = true from decide_eq_true h0)
              by_cases h1 : m.ids.length ≤ 64
              rotate_left
              · have d1 : decide ((64 : Int) < ((m.ids.length : Nat) : Int)) = true := decide_eq_true (by omega)
                have HL1 := Lib.hid (show decide (m.ids.length ≤ 64) = false from decide_eq_false h1)
                clear h0 h1
                go_wp2_with fail
                go_ret
                exact ⟨by rw [show may m = false by simp only [may, HKK.out, HQ.out, HB0.out, HB1.out, HB2.out, HB3.out, HL0.out, HL1.out, Bool.and_true, Bool.true_and, Bool.and_false, Bool.false_and]]; rfl, HH4.out.2⟩
              have d1 : decide ((64 : Int) < ((m.ids.length : Nat) : Int)) = false := decide_eq_false (by omega)
              have HL1 := Lib.hid (show decide (m.ids.length ≤ 64) = true from decide_eq_true h1)
              by_cases h2 : m.nodes.length ≤ 255
              rotate_left
              · have d2 : decide ((255 : Int) < ((m.nodes.length : Nat) : Int)) = true := decide_eq_true (by omega)
                have HL2 := Lib.hid (show decide (m.nodes.length ≤ 255) = false from decide_eq_false h2)
                clear h0 h1 h2
                go_wp2_with fail
                go_ret
                exact ⟨by rw [show may m = false by simp only [may, HKK.out, HQ.out, HB0.out, HB1.out, HB2.out, HB3.out, HL0.out, HL1.out, HL2.out, Bool.and_true, Bool.true_and, Bool.and_false, Bool.false_and]]; rfl, HH4.out.2⟩
              have d2 : decide ((255 : Int) < ((m.nodes.length : Nat) : Int)) = false := decide_eq_false (by omega)
              have HL2 := Lib.hid (show decide (m.nodes.length ≤ 255) = true from decide_eq_true h2)
              by_cases h3 : m.data.length ≤ 65536
              rotate_left
              · have d3 : decide ((65536 : Int) < ((m.data.length : Nat) : Int)) = true := decide_eq_true (by omega)
                have HL3 := Lib.hid (show decide (m.data.length ≤ 65536) = false from decide_eq_false h3)
                clear h0 h1 h2 h3
                go_wp2_with fail
                go_ret
                exact ⟨by rw [show may m = false by simp only [may, HKK.out, HQ.out, HB0.out, HB1.out, HB2.out, HB3.out, HL0.out, HL1.out, HL2.out, HL3.out, Bool.and_true, Bool.true_and, Bool.and_false, Bool.false_and]]; rfl, HH4.out.2⟩
              have d3 : decide ((65536 : Int) < ((m.data.length : Nat) : Int)) = false := decide_eq_false (by omega)
              have HL3 := Lib.hid (show decide (m.data.length ≤ 65536) = true from decide_eq_true h3)
              clear h0 h1 h2 h3
              go_wp2_with fail
              refine (contains5_any _ _ _ _ _ rfl (maxLen_ge HI.out.li) HI.out.lik (HI.out.keep HH4.out.2).ids).mono ?_
              rintro e x5 ⟨rfl, hb⟩
              have HH5 := Lib.hid (show Blk x5 bx 27 (mv m s) ∧ Below w.heap.size w x5 from ⟨HH4.out.1.keep hb, next HH4.out.2 hb⟩)
              clear hb c4 c11 c12 c13 d0 d1 d2 d3 hsz
              obtain ⟨b5, hb⟩ : ∃ b, m.ids.all idOk = b := ⟨_, rfl⟩
              rw [hb]
              have HB5 := Lib.hid hb
              clear hb
              cases b5
              · go_wp2_with fail
                go_ret
                exact ⟨by rw [show may m = false by simp only [may, HKK.out, HQ.out, HB0.out, HB1.out, HB2.out, HB3.out, HL0.out, HL1.out, HL2.out, HL3.out, HB5.out, Bool.and_true, Bool.true_and, Bool.and_false, Bool.false_and]]; rfl, HH5.out.2⟩
              · have c12 := HH5.out.1.cell 12
                simp [mv] at c12
                go_wp2_with fail
                refine (contains3_any _ _ _ _ _ rfl (maxLen_ge HI.out.ln) (HI.out.keep HH5.out.2).nodes).mono ?_
                rintro e x6 ⟨rfl, hb⟩
                have HH6 := Lib.hid (show Blk x6 bx 27 (mv m s) ∧ Below w.heap.size w x6 from ⟨HH5.out.1.keep hb, next HH5.out.2 hb⟩)
                clear hb c12
                obtain ⟨b6, hb⟩ : ∃ b, m.nodes.all (wi 254) = b := ⟨_, rfl⟩
                rw [hb]
                have HB6 := Lib.hid hb
                clear hb
                have HR := Lib.hid (show may m = b6 by simp only [may, HKK.out, HQ.out, HB0.out, HB1.out, HB2.out, HB3.out, HL0.out, HL1.out, HL2.out, HL3.out, HB5.out, HB6.out, Bool.and_true, Bool.true_and])
                go_wp2_with fail
                go_ret
                exact ⟨by rw [HR.out]; cases b6 <;> rfl, HH6.out.2⟩
  · have HM := Lib.hid ((mask_zero m.kind).2 hK)
    have HR := Lib.hid (show may m = false by simp [may, hK])
    rw [HR.out]
    clear hK
    go_enter Tryd.func28, Tryd.ntmps28
    go_wp2_with fail
    rw [HBX.out]
    refine wp_region_noPanic ?_
    refine wp_heldG (fun W => Blk W bx 27 (mv m s) ∧ Below w.heap.size w W) [] (by kernel_rfl) ?hs0 ?rg0
    case hs0 =>
      rw [HW1.out]; exact HW.out
    case rg0 =>
    intro hHeld
    rw [HW1.out] at hHeld ⊢
    refine wpAnyG_pure (i := 0) (oi := { dst := some 5, op := Op.fieldAddr 27 (Operand.tmp 1) 0, type := 0, pos := _, after := #[], guard := none }) (v := ?_) rfl (by kernel_rfl) (by kernel_rfl) (by kernel_rfl) (by kernel_rfl) (fun _ _ _ h => h) (Or.inl ⟨by rfl, ?_⟩) (fun _ => by assumption) ?_
    rotate_left
    · intro w hSw
      try dsimp only at hSw
      go_simp
      try with_reducible rfl
    try simp only [Act.put, List.setIfInBounds_toArray, List.set_cons_zero, List.set_cons_succ]
    refine wpAnyG_take (i := 1) (oi := { dst := some 6, op := Op.load 5 (Operand.tmp 5), type := 5, pos := _, after := #[{ on := 0, ground := Ground.data }], guard := none }) (v := ?_) rfl (by kernel_rfl) (by kernel_rfl) (by kernel_rfl) (by kernel_rfl) (fun _ _ _ h => h) (Or.inl ⟨by rfl, ?_⟩) (by assumption) ?_
    rotate_left
    · intro w hSw
      try dsimp only at hSw
      have hk := hSw.1.cell 0
      simp [mv] at hk
      go_simp
      try with_reducible rfl
    try simp only [Act.put, List.setIfInBounds_toArray, List.set_cons_zero, List.set_cons_succ]
    refine wpAnyG_one (i := 2) (o := { dst := some 7, op := Op.call { callee := Callee.value (Operand.func 47), args := #[Operand.tmp 6], argTypes := #[5] }, type := 64, pos := _, after := #[{ on := 1, ground := Ground.data }], guard := none }) (by kernel_rfl) rfl (fun K hK => ?_)
    go_simp
    refine (hasOf_any _ m.kind HK.out (HT.out.keep hHeld.2)).mono ?_
    rintro e w' ⟨rfl, rfl⟩
    try dsimp only
    rw [HM.out]
    refine hK.out _ _ ?_ (fun hHeld => ?_)
    · intro _
      try dsimp only
      exact hHeld
    clear hK K
    try simp only [Act.put, List.setIfInBounds_toArray, List.set_cons_zero, List.set_cons_succ]
    have hHeld := hHeld (by kernel_rfl)
    refine wpAnyG_pure (i := 3) (oi := { dst := some 8, op := Op.binOp BinOp.eql 64 (Operand.tmp 7) (Operand.const (Value.int IntKind.u16 0)) 64, type := 4, pos := _, after := #[{ on := 2, ground := Ground.data }], guard := none }) (v := ?_) rfl (by kernel_rfl) (by kernel_rfl) (by kernel_rfl) (by kernel_rfl) (fun _ _ _ h => h) (Or.inl ⟨by rfl, ?_⟩) (fun _ => by assumption) ?_
    rotate_left
    · intro w hSw
      try dsimp only at hSw
      go_simp
      try with_reducible rfl
    try simp only [Act.put, List.setIfInBounds_toArray, List.set_cons_zero, List.set_cons_succ]
    refine wpAnyG_pure (i := 4) (oi := { dst := some 9, op := Op.move (Operand.tmp 8), type := 4, pos := _, after := #[{ on := 3, ground := Ground.data }, { on := 2, ground := Ground.chain }], guard := none }) (v := ?_) rfl (by kernel_rfl) (by kernel_rfl) (by kernel_rfl) (by kernel_rfl) (fun _ _ _ h => h) (Or.inl ⟨by rfl, ?_⟩) (fun _ => by assumption) ?_
    rotate_left
    · intro w hSw
      try dsimp only at hSw
      go_simp
      try with_reducible rfl
    try simp only [Act.put, List.setIfInBounds_toArray, List.set_cons_zero, List.set_cons_succ]
    refine wpAnyG_pure (i := 5) (oi := { dst := some 10, op := Op.load 27 (Operand.tmp 1), type := 27, pos := _, after := #[{ on := 4, ground := Ground.guard }], guard := some (4, false) }) (v := undef) rfl (by kernel_rfl) (by kernel_rfl) (by kernel_rfl) (by kernel_rfl) (fun _ _ _ h => h) (Or.inr ⟨by rfl, rfl⟩) (fun _ => by assumption) ?_
    try simp only [Act.put, List.setIfInBounds_toArray, List.set_cons_zero, List.set_cons_succ]
    refine wpAnyG_pure (i := 6) (oi := { dst := some 11, op := Op.load 27 (Operand.tmp 1), type := 27, pos := _, after := #[{ on := 4, ground := Ground.guard }], guard := some (4, false) }) (v := undef) rfl (by kernel_rfl) (by kernel_rfl) (by kernel_rfl) (by kernel_rfl) (fun _ _ _ h => h) (Or.inr ⟨by rfl, rfl⟩) (fun _ => by assumption) ?_
    try simp only [Act.put, List.setIfInBounds_toArray, List.set_cons_zero, List.set_cons_succ]
    refine wpAnyG_pure (i := 7) (oi := { dst := some 12, op := Op.call { callee := Callee.value (Operand.func 48), args := #[Operand.tmp 11], argTypes := #[27] }, type := 27, pos := _, after := #[{ on := 6, ground := Ground.data }, { on := 4, ground := Ground.chain }, { on := 4, ground := Ground.guard }], guard := some (4, false) }) (v := undef) rfl (by kernel_rfl) (by kernel_rfl) (by kernel_rfl) (by kernel_rfl) (fun _ _ _ h => h) (Or.inr ⟨by rfl, rfl⟩) (fun _ => by assumption) ?_
    try simp only [Act.put, List.setIfInBounds_toArray, List.set_cons_zero, List.set_cons_succ]
    refine wpAnyG_pure (i := 8) (oi := { dst := some 13, op := Op.call { callee := Callee.value (Operand.func 18), args := #[Operand.tmp 10, Operand.tmp 12], argTypes := #[27, 27] }, type := 4, pos := _, after := #[{ on := 5, ground := Ground.data }, { on := 7, ground := Ground.data }, { on := 7, ground := Ground.chain }, { on := 4, ground := Ground.guard }], guard := some (4, false) }) (v := undef) rfl (by kernel_rfl) (by kernel_rfl) (by kernel_rfl) (by kernel_rfl) (fun _ _ _ h => h) (Or.inr ⟨by rfl, rfl⟩) (fun _ => by assumption) ?_
    try simp only [Act.put, List.setIfInBounds_toArray, List.set_cons_zero, List.set_cons_succ]
    refine wpAnyG_pure (i := 9) (oi := { dst := some 14, op := Op.unOp UnOp.not 4 (Operand.tmp 13), type := 4, pos := _, after := #[{ on := 8, ground := Ground.data }, { on := 4, ground := Ground.guard }], guard := some (4, false) }) (v := undef) rfl (by kernel_rfl) (by kernel_rfl) (by kernel_rfl) (by kernel_rfl) (fun _ _ _ h => h) (Or.inr ⟨by rfl, rfl⟩) (fun _ => by assumption) ?_
    try simp only [Act.put, List.setIfInBounds_toArray, List.set_cons_zero, List.set_cons_succ]
    refine wpAnyG_pure (i := 10) (oi := { dst := some 15, op := Op.pick (Operand.tmp 9) (Operand.const (Value.bool true)) (Operand.tmp 14), type := 4, pos := _, after := #[{ on := 4, ground := Ground.data }, { on := 9, ground := Ground.data }], guard := none }) (v := ?_) rfl (by kernel_rfl) (by kernel_rfl) (by kernel_rfl) (by kernel_rfl) (fun _ _ _ h => h) (Or.inl ⟨by rfl, ?_⟩) (fun _ => by assumption) ?_
    rotate_left
    · intro w hSw
      try dsimp only at hSw
      go_simp
      try with_reducible rfl
    try simp only [Act.put, List.setIfInBounds_toArray, List.set_cons_zero, List.set_cons_succ]
    refine wpAnyG_pure (i := 11) (oi := { dst := some 4, op := Op.assign (Operand.tmp 15), type := 4, pos := _, after := #[{ on := 10, ground := Ground.data }, { on := 8, ground := Ground.chain }], guard := none }) (v := ?_) rfl (by kernel_rfl) (by kernel_rfl) (by kernel_rfl) (by kernel_rfl) (fun _ _ _ h => h) (Or.inl ⟨by rfl, ?_⟩) (fun _ => by assumption) ?_
    rotate_left
    · intro w hSw
      try dsimp only at hSw
      go_simp
      try with_reducible rfl
    try simp only [Act.put, List.setIfInBounds_toArray, List.set_cons_zero, List.set_cons_succ]
    refine wpAnyG_done (by kernel_rfl) ?_ _
    refine NoPanic.normal ?_
    have HH := Lib.hid hHeld
    clear hHeld
    go_wp2_with fail
    go_ret
    exact ⟨rfl, HH.out.2⟩
end Go.Proofs.YtebdmfmadbikaaaDoor.WiW
