/- The examples of chapter 16 hold. -/
import Derived.Test.YtlmcmcafbepjmaaShOrd
import Derived.Test.YtlmcmcafbepjmaaRng2
import Derived.Lib.SlBytesConst
import Derived.Deep.MidRow
namespace Go.Proofs.Ytlmcmcafbepjmaa.ShW
open Go.RowKit Go.Shelf Mem Fds Bv Rng
set_option linter.unusedVariables false

theorem shinfo : (Try.prog.info? 24).map (·.size) = some 4 := by kernel_rfl
theorem set4 {w : World} {g : Nat} {T : TypeId} {c0 c1 c2 c3 : Value} (h : Blk w g T #[c0, c1, c2, c3]) (v0 v1 v2 v3 : Value) : Blk (w.setCells g 0 [v0, v1, v2, v3]) g T #[v0, v1, v2, v3] := by
  have h4 := (((h.set_ 0 v0).set_ 1 v1).set_ 2 v2).set_ 3 v3
  exact h4
/-- A whole share stored in its own variable. -/
theorem step_store4 {ops : Array Oper} {o : Oper} {a : Act} {R : Act → World → Prop} {Q : Exit → Act → World → Prop} {E : Prop} (w : World) (hgd : o.guard = none) (x y : Operand) (ho : o.op = .store 24 x y) (g : Nat) (c0 c1 c2 c3 v0 v1 v2 v3 : Value)
    (hx : a.eval x = .pointer (some ⟨g, 0, none⟩)) (hy : a.eval y = .agg #[v0, v1, v2, v3]) (hB : Blk w g 24 #[c0, c1, c2, c3]) (h1 : (#[v0, v1, v2, v3] : Array Value).all (·.oneCell') = true)
    (h : ∀ w', Blk w' g 24 #[v0, v1, v2, v3] → Fr (fun k => k = g) w w' → R (a.put o.dst undef) w') : if Region.wanted o (yielded ops a.tmps) = true then Oper.wp Try.prog o a w R Q else E := by
  rw [if_pos (by simp [Region.wanted, hgd])]
  refine wp_store_mid _ x y ho g 0 #[v0, v1, v2, v3] hx hy (fun j hj => ?_) shinfo h1 (h _ (set4 hB v0 v1 v2 v3) ?_)
  · have hj : j < 4 := hj
    refine ⟨?_, ?_⟩
    · rw [Nat.zero_add, hB.cell j]
      rcases j with _ | _ | _ | _ | j
      · rfl
      · rfl
      · rfl
      · rfl
      · omega
    · rw [Nat.zero_add]; exact hB.frozen j
  · exact Fr.setCell (p := ⟨g, 3, none⟩) (Fr.setCell (p := ⟨g, 2, none⟩) (Fr.setCell (p := ⟨g, 1, none⟩) (Fr.setCell (p := ⟨g, 0, none⟩) (Fr.refl (fun k => k = g) w) (fun _ => rfl) v0) (fun _ => rfl) v1) (fun _ => rfl) v2) (fun _ => rfl) v3
theorem sh_one (A B : Option Addr) (n c m d : Nat) (v nd : Int) : (#[.slice A n c, .int .i64 v, .int .i64 nd, .slice B m d] : Array Value).all (·.oneCell') = true := all_oneCell_toArray (by intro v hv; simp at hv; rcases hv with rfl | rfl | rfl | rfl <;> rfl)
def scells (ga : Nat) : Array Value := #[.slice (some ⟨ga, 0, none⟩) 1 1, .int .i64 1, .int .i64 2, .slice (some ⟨ga + 1, 0, none⟩) 2 2]
theorem shnew : NewRun Try.prog 24 #[.slice none 0 0, .int .i64 0, .int .i64 0, .slice none 0 0] := fun w => by kernel_rfl
theorem exec_load {P : Program} {o : Oper} {a : Act} {w : World} (ty : TypeId) (x : Operand) (ho : o.op = .load ty x) (q : Value) (hx : a.eval x = q) (v : Value) (h : (Instr.loadAt ty q).run P w = .ok v w) : (execOp a.eval o).run P w = .ok (.value v) w := by
  unfold execOp; simp only [ho, hx, Sem.run_bind, h, Result.andThen_ok, Sem.run_pure]
theorem load_sh {w : World} {b : Nat} {c0 c1 c2 c3 : Value} (h : Blk w b 24 #[c0, c1, c2, c3]) : (Instr.loadAt 24 (.pointer (some ⟨b, 0, none⟩))).run Try.prog w = .ok (.agg #[c0, c1, c2, c3]) w := by
  have := run_loadAt_mid (P := Try.prog) w b 0 24 [c0, c1, c2, c3] _ (fun j v hv => by rw [Nat.zero_add, h.cell, ← hv]; simp) Try.underlying24 rfl shinfo
  exact this
def s0 : Sh := ⟨[97], 1, 2, [5, 6]⟩
theorem s0_len : s0.put.length = 21 := by decide +kernel
theorem s0_take : s0.put.take 17 = [1, 97, 0, 0, 0, 0, 0, 0, 0, 1, 2, 0, 0, 0, 2, 5, 6] := by decide +kernel
set_option maxRecDepth 100000 in
set_option maxHeartbeats 8000000 in
theorem works_any (w : World) : Calls Try.prog 9 #[] w fun e w' => e = .returned (.bool true) ∧ Below w.heap.size w w' := by
  obtain ⟨w3, hw3⟩ : ∃ w3 : World, w3 = ((w.alloc (.cells #[.int .u8 97] 5)).alloc (.cells #[.int .u8 5, .int .u8 6] 5)).alloc (.cells #[.slice (some ⟨w.heap.size, 0, none⟩) 1 1, .int .i64 1, .int .i64 2, .slice (some ⟨w.heap.size + 1, 0, none⟩) 2 2] 24) := ⟨_, rfl⟩
  have hbA := Bytes.new w [97] 5 (0, 0) #[.int .u8 97] rfl (w.heap.size + 1) (by omega)
  have hbB := Bytes.new (w.alloc (.cells #[.int .u8 97] 5)) [5, 6] 5 (0, 0) #[.int .u8 5, .int .u8 6] rfl (w.heap.size + 2) (by simp)
  have hb3 : Below w.heap.size w w3 := by rw [hw3]; exact nextA (nextA (nextA (Mem.start w) _) _) _
  have hs3 : w3.heap.size = w.heap.size + 3 := by rw [hw3]; simp
  have hbA3 : Bytes w3 w3.heap.size (some ⟨w.heap.size, 0, none⟩) [97] := by
    have h1 : Below (w.heap.size + 1) (w.alloc (.cells #[.int .u8 97] 5)) w3 := by
      rw [hw3]; have := nextA (nextA (Mem.start (w.alloc (.cells #[.int .u8 97] 5))) (.cells #[.int .u8 5, .int .u8 6] 5)) (.cells #[.slice (some ⟨w.heap.size, 0, none⟩) 1 1, .int .i64 1, .int .i64 2, .slice (some ⟨w.heap.size + 1, 0, none⟩) 2 2] 24)
      rwa [World.size_alloc] at this
    exact (hbA.below h1).up (by omega)
  have hbB3 : Bytes w3 w3.heap.size (some ⟨w.heap.size + 1, 0, none⟩) [5, 6] := by
    have h1 : Below (w.heap.size + 2) ((w.alloc (.cells #[.int .u8 97] 5)).alloc (.cells #[.int .u8 5, .int .u8 6] 5)) w3 := by
      rw [hw3]; have := nextA (Mem.start ((w.alloc (.cells #[.int .u8 97] 5)).alloc (.cells #[.int .u8 5, .int .u8 6] 5))) (.cells #[.slice (some ⟨w.heap.size, 0, none⟩) 1 1, .int .i64 1, .int .i64 2, .slice (some ⟨w.heap.size + 1, 0, none⟩) 2 2] 24)
      rwa [World.size_alloc, World.size_alloc] at this
    have h2 := hbB
    rw [World.size_alloc] at h2
    exact (h2.below h1).up (by omega)
  have hbx3 : Blk w3 (w.heap.size + 1 + 1) 24 #[.slice (some ⟨w.heap.size, 0, none⟩) 1 1, .int .i64 1, .int .i64 2, .slice (some ⟨w.heap.size + 1, 0, none⟩) 2 2] := by
    have := Blk.new ((w.alloc (.cells #[.int .u8 97] 5)).alloc (.cells #[.int .u8 5, .int .u8 6] 5)) 24 #[.slice (some ⟨w.heap.size, 0, none⟩) 1 1, .int .i64 1, .int .i64 2, .slice (some ⟨w.heap.size + 1, 0, none⟩) 2 2]
    rw [World.size_alloc, World.size_alloc] at this
    rw [hw3]; exact this
  have HP := Lib.hid (put_any w3 s0 (by decide) (some ⟨w.heap.size, 0, none⟩) (some ⟨w.heap.size + 1, 0, none⟩) 1 1 2 2 rfl rfl hbA3 hbB3)
  have H3 := Lib.hid (And.intro hb3 (And.intro hbA3 (And.intro hbB3 hbx3)))
  have HW3 := Lib.hid hw3
  clear hbA hbB hb3 hbA3 hbB3 hbx3 hs3
  rw [hw3] at HP
  obtain ⟨ga, hga⟩ : ∃ ga, w.heap.size = ga := ⟨_, rfl⟩
  have HGA := Lib.hid hga
  clear hw3 hga
  go_enter Try.func9, Try.ntmps9
  go_wp2_with fail
  refine HP.out.mono ?_
  rintro e w4 ⟨h1, _, hb⟩
  obtain ⟨A, c, rfl, ho⟩ := h1 (by decide)
  rw [← HW3.out] at hb ho
  rw [s0_len]
  have HQ := Lib.hid (show ∀ w', Below w4.heap.size w4 w' → Blk w' (ga + 1 + 1) 24 (scells ga) ∧ Bytes w' w4.heap.size (some ⟨ga, 0, none⟩) [97] ∧ Bytes w' w4.heap.size (some ⟨ga + 1, 0, none⟩) [5, 6] ∧ Bytes w' w4.heap.size A s0.put from fun w' hb' => by
    have h := H3.out
    rw [HGA.out] at h
    exact ⟨(h.2.2.2.keep hb).keep hb', ((h.2.1.below hb).up hb.size).below hb', ((h.2.2.1.below hb).up hb.size).below hb', ho.bytes.below hb'⟩)
  have HB4 := Lib.hid (next H3.out.1 hb)
  have HC := Lib.hid (show (21 : Int) ≤ (c : Int) ∧ (c : Int) ≤ 9223372036854775807 from by have h1 := ho.le; have h2 := ho.max; rw [List.length_map, s0_len] at h1; unfold maxLen at h2; omega)
  clear h1 hb ho HP HW3 H3
  rw [HGA.out]
  go_wp2_with fail
  --WK3
  refine wp_region_noPanic ?_
  refine wp_heldG (fun w' => Below w4.heap.size w4 w') [] (by kernel_rfl) ?hs0 ?rg0
  case hs0 => exact nextN (Mem.start w4) 1
  case rg0 =>
  intro hHeld
  refine wpAnyG_take (i := 0) (oi := { dst := some 23, op := Op.load 24 (Operand.tmp 1), type := 24, pos := _, after := #[], guard := none }) (v := ?_) rfl (by kernel_rfl) (by kernel_rfl) (by kernel_rfl) (by kernel_rfl) (fun _ _ _ h => h) (Or.inl ⟨by rfl, ?_⟩) (by assumption) ?_
  rotate_left
  · intro w hSw
    refine exec_load 24 (.tmp 1) ?_ _ ?_ (.agg (scells ga)) (load_sh (HQ.out _ hSw).1)
    · rfl
    · rfl
  try simp only [Act.put, List.setIfInBounds_toArray, List.set_cons_zero, List.set_cons_succ]
  refine wpAnyG_take (i := 1) (oi := { dst := some 24, op := Op.load 24 (Operand.tmp 1), type := 24, pos := _, after := #[{ on := 6, ground := Ground.gcOnly Departure.lateStores }], guard := none }) (v := ?_) rfl (by kernel_rfl) (by kernel_rfl) (by kernel_rfl) (by kernel_rfl) (fun _ _ _ h => h) (Or.inl ⟨by rfl, ?_⟩) (by assumption) ?_
  rotate_left
  · intro w hSw
    refine exec_load 24 (.tmp 1) ?_ _ ?_ (.agg (scells ga)) (load_sh (HQ.out _ hSw).1)
    · rfl
    · rfl
  try simp only [Act.put, List.setIfInBounds_toArray, List.set_cons_zero, List.set_cons_succ]
  refine wpAnyG_take (i := 2) (oi := { dst := some 25, op := Op.load 24 (Operand.tmp 1), type := 24, pos := _, after := #[{ on := 7, ground := Ground.gcOnly Departure.lateStores }], guard := none }) (v := ?_) rfl (by kernel_rfl) (by kernel_rfl) (by kernel_rfl) (by kernel_rfl) (fun _ _ _ h => h) (Or.inl ⟨by rfl, ?_⟩) (by assumption) ?_
  rotate_left
  · intro w hSw
    refine exec_load 24 (.tmp 1) ?_ _ ?_ (.agg (scells ga)) (load_sh (HQ.out _ hSw).1)
    · rfl
    · rfl
  try simp only [Act.put, List.setIfInBounds_toArray, List.set_cons_zero, List.set_cons_succ]
  refine wpAnyG_new3 (i := 3) (j := 4) (k := 5) (d := 4) (e := 5) (f := 6) (o := { dst := some 4, op := Op.alloc 24, type := 0, pos := _, after := #[], guard := none }) (u := { dst := some 5, op := Op.alloc 24, type := 0, pos := _, after := #[], guard := none }) (v := { dst := some 6, op := Op.alloc 24, type := 0, pos := _, after := #[], guard := none }) shnew rfl rfl rfl ⟨rfl, rfl, rfl⟩ ⟨rfl, rfl, rfl⟩ ⟨rfl, rfl, rfl⟩ (by decide) (by decide) (by decide) (by decide) (by decide) (by decide) (fun w2 hb => next hHeld hb) (by kernel_rfl) (by kernel_rfl) (by kernel_rfl) (by kernel_rfl) (by kernel_rfl) (by kernel_rfl) (by kernel_rfl) ?_
  intro gk gv gn w5n hle_gk hle_gv hle_gn hne_gk_gv hne_gk_gn hne_gv_gn B_gk B_gv B_gn hb
  have KB := Lib.hid (next hHeld hb)
  try simp only [Act.put, List.setIfInBounds_toArray, List.set_cons_zero, List.set_cons_succ]
  have LE_gk := Lib.hid (Nat.le_trans hHeld.size hle_gk)
  have HB_gk := Lib.hid B_gk
  have LE_gv := Lib.hid (Nat.le_trans hHeld.size hle_gv)
  have HB_gv := Lib.hid B_gv
  have LE_gn := Lib.hid (Nat.le_trans hHeld.size hle_gn)
  have HB_gn := Lib.hid B_gn
  have LX_gk := Lib.hid (show w4.heap.size ≤ gk from hle_gk)
  have LX_gv := Lib.hid (show w4.heap.size ≤ gv from hle_gv)
  have LX_gn := Lib.hid (show w4.heap.size ≤ gn from hle_gn)
  have HN_gk_gv := Lib.hid hne_gk_gv
  have HN_gk_gn := Lib.hid hne_gk_gn
  have HN_gv_gn := Lib.hid hne_gv_gn
  clear hHeld hb hle_gk hle_gv hle_gn hne_gk_gv hne_gk_gn hne_gv_gn B_gk B_gv B_gn
  refine wpAnyG_one (i := 6) (o := { dst := none, op := Op.store 24 (Operand.tmp 4) (Operand.tmp 23), type := 0, pos := _, after := #[{ on := 3, ground := Ground.data }, { on := 0, ground := Ground.data }, { on := 0, ground := Ground.phase }, { on := 1, ground := Ground.textOnly Departure.lateStores }, { on := 2, ground := Ground.textOnly Departure.lateStores }, { on := 3, ground := Ground.phase }, { on := 4, ground := Ground.phase }, { on := 5, ground := Ground.phase }], guard := none }) (by kernel_rfl) rfl (fun K hK => ?_)
  refine step_store4 w5n rfl (.tmp 4) (.tmp 23) rfl gk _ _ _ _ _ _ _ _ rfl rfl HB_gk.out (sh_one _ _ _ _ _ _ _ _) ?_
  intro w5n0 hB hf
  replace KB := Lib.hid (KB.out.trans (hf.below (Nat.le_trans (Nat.le_of_lt (by have := HB_gk.out.lt; have := LE_gk.out; omega)) (Nat.le_refl _)) (fun k e => by rw [e]; exact LE_gk.out)))
  refine hK.out _ _ (fun _ => KB.out) (fun hHeld => ?_)
  clear hHeld
  clear hK K
  try simp only [Act.put, List.setIfInBounds_toArray, List.set_cons_zero, List.set_cons_succ]
  replace HB_gv := Lib.hid (HB_gv.out.fr hf (fun e => HN_gk_gv.out e.symm))
  replace HB_gn := Lib.hid (HB_gn.out.fr hf (fun e => HN_gk_gn.out e.symm))
  replace HB_gk := Lib.hid hB
  clear hB hf
  refine wpAnyG_one (i := 7) (o := { dst := none, op := Op.store 24 (Operand.tmp 5) (Operand.tmp 24), type := 0, pos := _, after := #[{ on := 4, ground := Ground.data }, { on := 1, ground := Ground.data }, { on := 6, ground := Ground.chain }, { on := 0, ground := Ground.phase }, { on := 1, ground := Ground.phase }, { on := 2, ground := Ground.textOnly Departure.lateStores }, { on := 3, ground := Ground.phase }, { on := 4, ground := Ground.phase }, { on := 5, ground := Ground.phase }, { on := 6, ground := Ground.phase }], guard := none }) (by kernel_rfl) rfl (fun K hK => ?_)
  refine step_store4 w5n0 rfl (.tmp 5) (.tmp 24) rfl gv _ _ _ _ _ _ _ _ rfl rfl HB_gv.out (sh_one _ _ _ _ _ _ _ _) ?_
  intro w5n01 hB hf
  replace KB := Lib.hid (KB.out.trans (hf.below (Nat.le_trans (Nat.le_of_lt (by have := HB_gv.out.lt; have := LE_gv.out; omega)) (Nat.le_refl _)) (fun k e => by rw [e]; exact LE_gv.out)))
  refine hK.out _ _ (fun _ => KB.out) (fun hHeld => ?_)
  clear hHeld
  clear hK K
  try simp only [Act.put, List.setIfInBounds_toArray, List.set_cons_zero, List.set_cons_succ]
  replace HB_gk := Lib.hid (HB_gk.out.fr hf (fun e => HN_gk_gv.out e))
  replace HB_gn := Lib.hid (HB_gn.out.fr hf (fun e => HN_gv_gn.out e.symm))
  replace HB_gv := Lib.hid hB
  clear hB hf
  refine wpAnyG_one (i := 8) (o := { dst := none, op := Op.store 24 (Operand.tmp 6) (Operand.tmp 25), type := 0, pos := _, after := #[{ on := 5, ground := Ground.data }, { on := 2, ground := Ground.data }, { on := 7, ground := Ground.chain }, { on := 0, ground := Ground.phase }, { on := 1, ground := Ground.phase }, { on := 2, ground := Ground.phase }, { on := 3, ground := Ground.phase }, { on := 4, ground := Ground.phase }, { on := 5, ground := Ground.phase }, { on := 6, ground := Ground.phase }, { on := 7, ground := Ground.phase }], guard := none }) (by kernel_rfl) rfl (fun K hK => ?_)
  refine step_store4 w5n01 rfl (.tmp 6) (.tmp 25) rfl gn _ _ _ _ _ _ _ _ rfl rfl HB_gn.out (sh_one _ _ _ _ _ _ _ _) ?_
  intro w5n012 hB hf
  replace KB := Lib.hid (KB.out.trans (hf.below (Nat.le_trans (Nat.le_of_lt (by have := HB_gn.out.lt; have := LE_gn.out; omega)) (Nat.le_refl _)) (fun k e => by rw [e]; exact LE_gn.out)))
  refine hK.out _ _ (fun _ => KB.out) (fun hHeld => ?_)
  clear hHeld
  clear hK K
  try simp only [Act.put, List.setIfInBounds_toArray, List.set_cons_zero, List.set_cons_succ]
  replace HB_gk := Lib.hid (HB_gk.out.fr hf (fun e => HN_gk_gn.out e))
  replace HB_gv := Lib.hid (HB_gv.out.fr hf (fun e => HN_gv_gn.out e))
  replace HB_gn := Lib.hid hB
  clear hB hf
  refine wpAnyG_done (by kernel_rfl) ?_ _
  refine NoPanic.normal ?_
  obtain ⟨w5, hwx⟩ : ∃ x : World, w5n012 = x := ⟨_, rfl⟩
  rw [hwx] at KB HB_gk HB_gv HB_gn ⊢
  clear hwx
  --END WK3
  have cgk0 := HB_gk.out.cell 0
  have cgk1 := HB_gk.out.cell 1
  have cgk2 := HB_gk.out.cell 2
  have cgk3 := HB_gk.out.cell 3
  have cgv0 := HB_gv.out.cell 0
  have cgv1 := HB_gv.out.cell 1
  have cgv2 := HB_gv.out.cell 2
  have cgv3 := HB_gv.out.cell 3
  have cgn0 := HB_gn.out.cell 0
  have cgn1 := HB_gn.out.cell 1
  have cgn2 := HB_gn.out.cell 2
  have cgn3 := HB_gn.out.cell 3
  have fgk := HB_gk.out.frozen 0
  have fgv := HB_gv.out.frozen 1
  have fgn := HB_gn.out.frozen 2
  simp only [List.getElem?_toArray, List.getElem?_cons_succ, List.getElem?_cons_zero] at cgk0 cgk1 cgk2 cgk3 cgv0 cgv1 cgv2 cgv3 cgn0 cgn1 cgn2 cgn3
  have n1 := HN_gk_gv.out
  have n2 := HN_gk_gn.out
  have n3 := HN_gv_gn.out
  have m1 := Ne.symm n1
  have m2 := Ne.symm n2
  have m3 := Ne.symm n3
  go_wp2_with fail
  have hB1 := ((HB_gk.out.set_ 0 (.slice none 0 0)).far (p := ⟨gv, 1, none⟩) m1 (.int .i64 0)).far (p := ⟨gn, 2, none⟩) m2 (.int .i64 255)
  have hB2 := ((HB_gv.out.far (p := ⟨gk, 0, none⟩) n1 (.slice none 0 0)).set_ 1 (.int .i64 0)).far (p := ⟨gn, 2, none⟩) m3 (.int .i64 255)
  have hB3 := ((HB_gn.out.far (p := ⟨gk, 0, none⟩) n2 (.slice none 0 0)).far (p := ⟨gv, 1, none⟩) n3 (.int .i64 0)).set_ 2 (.int .i64 255)
  have hK := ((KB.out.setCell (p := ⟨gk, 0, none⟩) LE_gk.out (.slice none 0 0)).setCell (p := ⟨gv, 1, none⟩) LE_gv.out (.int .i64 0)).setCell (p := ⟨gn, 2, none⟩) LE_gn.out (.int .i64 255)
  obtain ⟨w8, hw8⟩ : ∃ x : World, ((w5.setCell ⟨gk, 0, none⟩ (.slice none 0 0)).setCell ⟨gv, 1, none⟩ (.int .i64 0)).setCell ⟨gn, 2, none⟩ (.int .i64 255) = x := ⟨_, rfl⟩
  rw [hw8] at hB1 hB2 hB3 hK ⊢
  replace HB_gk := Lib.hid hB1
  replace HB_gv := Lib.hid hB2
  replace HB_gn := Lib.hid hB3
  replace KB := Lib.hid hK
  clear cgk0 cgk1 cgk2 cgk3 cgv0 cgv1 cgv2 cgv3 cgn0 cgn1 cgn2 cgn3 fgk fgv fgn n1 n2 n3 m1 m2 m3 hw8 hB1 hB2 hB3 hK
  refine (put_any w8 ⟨[], 1, 2, [5, 6]⟩ (by decide) none (some ⟨ga + 1, 0, none⟩) 0 0 2 2 rfl rfl Bytes.nil ((HQ.out _ KB.out).2.2.1.up KB.out.size)).mono ?_
  rintro e w9 ⟨_, h2, hb⟩
  obtain rfl := h2 (by decide)
  have hB := HB_gv.out.keep hb
  have c0 := hB.cell 0
  have c1 := hB.cell 1
  have c2 := hB.cell 2
  have c3 := hB.cell 3
  simp [Array.setIfInBounds] at c0 c1 c2 c3
  replace HB_gv := Lib.hid hB
  replace HB_gn := Lib.hid (HB_gn.out.keep hb)
  replace KB := Lib.hid (next KB.out hb)
  clear hB h2 hb HB_gk HN_gk_gv HN_gk_gn
  go_wp2_with fail
  refine (put_any w9 ⟨[97], 0, 2, [5, 6]⟩ (by decide) (some ⟨ga, 0, none⟩) (some ⟨ga + 1, 0, none⟩) 1 1 2 2 rfl rfl ((HQ.out _ KB.out).2.1.up KB.out.size) ((HQ.out _ KB.out).2.2.1.up KB.out.size)).mono ?_
  rintro e w10 ⟨_, h2, hb⟩
  obtain rfl := h2 (by decide)
  clear c0 c1 c2 c3
  have hB := HB_gn.out.keep hb
  have c0 := hB.cell 0
  have c1 := hB.cell 1
  have c2 := hB.cell 2
  have c3 := hB.cell 3
  simp [Array.setIfInBounds] at c0 c1 c2 c3
  replace HB_gv := Lib.hid (HB_gv.out.keep hb)
  replace KB := Lib.hid (next KB.out hb)
  clear hB h2 hb
  go_wp2_with fail
  refine (put_any w10 ⟨[97], 1, 255, [5, 6]⟩ (by decide) (some ⟨ga, 0, none⟩) (some ⟨ga + 1, 0, none⟩) 1 1 2 2 rfl rfl ((HQ.out _ KB.out).2.1.up KB.out.size) ((HQ.out _ KB.out).2.2.1.up KB.out.size)).mono ?_
  rintro e w12 ⟨_, h2, hb⟩
  obtain rfl := h2 (by decide)
  replace HB_gv := Lib.hid (HB_gv.out.keep hb)
  replace KB := Lib.hid (next KB.out hb)
  clear h2 hb c0 c1 c2 c3 HB_gn HN_gv_gn
  go_wp2_with fail
  --WK10
  refine wp_region_noPanic ?_
  refine wp_heldG (fun w' => Below w4.heap.size w4 w') [] (by kernel_rfl) ?hs0 ?rg0
  case hs0 => exact nextN KB.out 1
  case rg0 =>
  intro hHeld
  refine wpAnyG_take (i := 0) (oi := { dst := some 44, op := Op.load 24 (Operand.tmp 1), type := 24, pos := _, after := #[], guard := none }) (v := ?_) rfl (by kernel_rfl) (by kernel_rfl) (by kernel_rfl) (by kernel_rfl) (fun _ _ _ h => h) (Or.inl ⟨by rfl, ?_⟩) (by assumption) ?_
  rotate_left
  · intro w hSw
    refine exec_load 24 (.tmp 1) ?_ _ ?_ (.agg (scells ga)) (load_sh (HQ.out _ hSw).1)
    · rfl
    · rfl
  try simp only [Act.put, List.setIfInBounds_toArray, List.set_cons_zero, List.set_cons_succ]
  refine wpAnyG_take (i := 1) (oi := { dst := some 45, op := Op.load 24 (Operand.tmp 1), type := 24, pos := _, after := #[{ on := 4, ground := Ground.gcOnly Departure.lateStores }], guard := none }) (v := ?_) rfl (by kernel_rfl) (by kernel_rfl) (by kernel_rfl) (by kernel_rfl) (fun _ _ _ h => h) (Or.inl ⟨by rfl, ?_⟩) (by assumption) ?_
  rotate_left
  · intro w hSw
    refine exec_load 24 (.tmp 1) ?_ _ ?_ (.agg (scells ga)) (load_sh (HQ.out _ hSw).1)
    · rfl
    · rfl
  try simp only [Act.put, List.setIfInBounds_toArray, List.set_cons_zero, List.set_cons_succ]
  refine wpAnyG_new2 (i := 2) (j := 3) (d := 13) (e := 14) (o := { dst := some 13, op := Op.alloc 24, type := 0, pos := _, after := #[], guard := none }) (u := { dst := some 14, op := Op.alloc 24, type := 0, pos := _, after := #[], guard := none }) shnew rfl rfl ⟨rfl, rfl, rfl⟩ ⟨rfl, rfl, rfl⟩ (by decide) (by decide) (fun w2 hb => next hHeld hb) (by kernel_rfl) (by kernel_rfl) (by kernel_rfl) ?_
  intro gt gu w13n hle_gt hle_gu hne_gt_gu B_gt B_gu hb
  have KB := Lib.hid (next hHeld hb)
  try simp only [Act.put, List.setIfInBounds_toArray, List.set_cons_zero, List.set_cons_succ]
  have LE_gt := Lib.hid (Nat.le_trans hHeld.size hle_gt)
  have HB_gt := Lib.hid B_gt
  have LE_gu := Lib.hid (Nat.le_trans hHeld.size hle_gu)
  have HB_gu := Lib.hid B_gu
  have LX_gt := Lib.hid (show w12.heap.size ≤ gt from hle_gt)
  have LX_gu := Lib.hid (show w12.heap.size ≤ gu from hle_gu)
  have HX_gv := Lib.hid HB_gv.out.lt
  replace HB_gv := Lib.hid (HB_gv.out.keep (show Below w12.heap.size w12 w13n from next (nextN (Mem.start w12) 1) hb))
  have HN_gt_gu := Lib.hid hne_gt_gu
  clear hHeld hb hle_gt hle_gu hne_gt_gu B_gt B_gu
  refine wpAnyG_one (i := 4) (o := { dst := none, op := Op.store 24 (Operand.tmp 13) (Operand.tmp 44), type := 0, pos := _, after := #[{ on := 2, ground := Ground.data }, { on := 0, ground := Ground.data }, { on := 0, ground := Ground.phase }, { on := 1, ground := Ground.textOnly Departure.lateStores }, { on := 2, ground := Ground.phase }, { on := 3, ground := Ground.phase }], guard := none }) (by kernel_rfl) rfl (fun K hK => ?_)
  refine step_store4 w13n rfl (.tmp 13) (.tmp 44) rfl gt _ _ _ _ _ _ _ _ rfl rfl HB_gt.out (sh_one _ _ _ _ _ _ _ _) ?_
  intro w13n0 hB hf
  replace KB := Lib.hid (KB.out.trans (hf.below (Nat.le_trans (Nat.le_of_lt (by have := HB_gt.out.lt; have := LE_gt.out; omega)) (Nat.le_refl _)) (fun k e => by rw [e]; exact LE_gt.out)))
  refine hK.out _ _ (fun _ => KB.out) (fun hHeld => ?_)
  clear hHeld
  clear hK K
  try simp only [Act.put, List.setIfInBounds_toArray, List.set_cons_zero, List.set_cons_succ]
  replace HB_gu := Lib.hid (HB_gu.out.fr hf (fun e => HN_gt_gu.out e.symm))
  replace HB_gv := Lib.hid (HB_gv.out.fr hf (fun e => by have h1 := HX_gv.out; have h2 := LX_gt.out; omega))
  replace HB_gt := Lib.hid hB
  clear hB hf
  refine wpAnyG_one (i := 5) (o := { dst := none, op := Op.store 24 (Operand.tmp 14) (Operand.tmp 45), type := 0, pos := _, after := #[{ on := 3, ground := Ground.data }, { on := 1, ground := Ground.data }, { on := 4, ground := Ground.chain }, { on := 0, ground := Ground.phase }, { on := 1, ground := Ground.phase }, { on := 2, ground := Ground.phase }, { on := 3, ground := Ground.phase }, { on := 4, ground := Ground.phase }], guard := none }) (by kernel_rfl) rfl (fun K hK => ?_)
  refine step_store4 w13n0 rfl (.tmp 14) (.tmp 45) rfl gu _ _ _ _ _ _ _ _ rfl rfl HB_gu.out (sh_one _ _ _ _ _ _ _ _) ?_
  intro w13n01 hB hf
  replace KB := Lib.hid (KB.out.trans (hf.below (Nat.le_trans (Nat.le_of_lt (by have := HB_gu.out.lt; have := LE_gu.out; omega)) (Nat.le_refl _)) (fun k e => by rw [e]; exact LE_gu.out)))
  refine hK.out _ _ (fun _ => KB.out) (fun hHeld => ?_)
  clear hHeld
  clear hK K
  try simp only [Act.put, List.setIfInBounds_toArray, List.set_cons_zero, List.set_cons_succ]
  replace HB_gt := Lib.hid (HB_gt.out.fr hf (fun e => HN_gt_gu.out e))
  replace HB_gv := Lib.hid (HB_gv.out.fr hf (fun e => by have h1 := HX_gv.out; have h2 := LX_gu.out; omega))
  replace HB_gu := Lib.hid hB
  clear hB hf
  refine wpAnyG_done (by kernel_rfl) ?_ _
  refine NoPanic.normal ?_
  obtain ⟨w13, hwx⟩ : ∃ x : World, w13n01 = x := ⟨_, rfl⟩
  rw [hwx] at KB HB_gt HB_gu HB_gv ⊢
  clear hwx
  --END WK10
  have HL := Lib.hid (Bytes.new w13 [97, 98] 5 (0, 0) #[.int .u8 97, .int .u8 98] rfl (w13.heap.size + 1) (by omega))
  obtain ⟨w14, hw14⟩ : ∃ x : World, w13.alloc (.cells #[.int .u8 97, .int .u8 98] 5) = x := ⟨_, rfl⟩
  have h14 : Below w13.heap.size w13 w14 := by rw [← hw14]; exact nextA (Mem.start w13) _
  have hs14 : w14.heap.size = w13.heap.size + 1 := by rw [← hw14, World.size_alloc]
  rw [hw14] at HL
  have HGL := Lib.hid (And.intro hs14 (And.intro HB_gt.out.lt (And.intro HB_gu.out.lt HB_gv.out.lt)))
  have B1 := HB_gt.out.keep h14
  have B2 := HB_gu.out.keep h14
  have B3 := HB_gv.out.keep h14
  replace KB := Lib.hid (next KB.out h14)
  have HW14 := Lib.hid hw14
  replace HB_gt := Lib.hid B1
  replace HB_gu := Lib.hid B2
  replace HB_gv := Lib.hid B3
  have cgt0 := B1.cell 0
  have cgt1 := B1.cell 1
  have cgt2 := B1.cell 2
  have cgt3 := B1.cell 3
  have cgu0 := B2.cell 0
  have cgu1 := B2.cell 1
  have cgu2 := B2.cell 2
  have cgu3 := B2.cell 3
  have cgv0 := B3.cell 0
  have cgv1 := B3.cell 1
  have cgv2 := B3.cell 2
  have cgv3 := B3.cell 3
  have fgt := B1.frozen 0
  have fgu := B2.frozen 1
  have fgv := B3.frozen 1
  simp [Array.setIfInBounds] at cgt0 cgt1 cgt2 cgt3 cgu0 cgu1 cgu2 cgu3 cgv0 cgv1 cgv2 cgv3
  have n1 := HN_gt_gu.out
  have n2 : gt ≠ gv := fun e => by have h1 := HX_gv.out; have h2 := LX_gt.out; omega
  have n3 : gu ≠ gv := fun e => by have h1 := HX_gv.out; have h2 := LX_gu.out; omega
  have m1 := Ne.symm n1
  have m2 := Ne.symm n2
  have m3 := Ne.symm n3
  rw [← hw14] at cgt0 cgt1 cgt2 cgt3 cgu0 cgu1 cgu2 cgu3 cgv0 cgv1 cgv2 cgv3 fgt fgu fgv
  have hcc := HC.out
  clear h14 hs14 hw14 B1 B2 B3
  go_wp2_with fail
  rw [HW14.out]
  have hB1 := ((HB_gt.out.set_ 0 (.slice (some ⟨w13.heap.size, 0, none⟩) 2 2)).far (p := ⟨gu, 1, none⟩) m1 (.int .i64 2)).far (p := ⟨gv, 1, none⟩) m2 (.int .i64 3)
  have hB2 := ((HB_gu.out.far (p := ⟨gt, 0, none⟩) n1 (.slice (some ⟨w13.heap.size, 0, none⟩) 2 2)).set_ 1 (.int .i64 2)).far (p := ⟨gv, 1, none⟩) m3 (.int .i64 3)
  have hB3 := ((HB_gv.out.far (p := ⟨gt, 0, none⟩) n2 (.slice (some ⟨w13.heap.size, 0, none⟩) 2 2)).far (p := ⟨gu, 1, none⟩) n3 (.int .i64 2)).set_ 1 (.int .i64 3)
  have hK := ((KB.out.setCell (p := ⟨gt, 0, none⟩) LE_gt.out (.slice (some ⟨w13.heap.size, 0, none⟩) 2 2)).setCell (p := ⟨gu, 1, none⟩) LE_gu.out (.int .i64 2)).setCell (p := ⟨gv, 1, none⟩) LE_gv.out (.int .i64 3)
  have hF := Fr.setCell (S := fun k => k = gt ∨ k = gu ∨ k = gv) (p := ⟨gv, 1, none⟩) (Fr.setCell (p := ⟨gu, 1, none⟩) (Fr.setCell (p := ⟨gt, 0, none⟩) (Fr.refl _ w14) (fun _ => .inl rfl) (.slice (some ⟨w13.heap.size, 0, none⟩) 2 2)) (fun _ => .inr (.inl rfl)) (.int .i64 2)) (fun _ => .inr (.inr rfl)) (.int .i64 3)
  obtain ⟨w16, hw16⟩ : ∃ x : World, ((w14.setCell ⟨gt, 0, none⟩ (.slice (some ⟨w13.heap.size, 0, none⟩) 2 2)).setCell ⟨gu, 1, none⟩ (.int .i64 2)).setCell ⟨gv, 1, none⟩ (.int .i64 3) = x := ⟨_, rfl⟩
  have hs16 : w16.heap.size = w13.heap.size + 1 := by rw [← hw16]; simpa using HGL.out.1
  rw [hw16] at hB1 hB2 hB3 hK hF ⊢
  have hLc : Bytes w16 (w13.heap.size + 1) (some ⟨w13.heap.size, 0, none⟩) [97, 98] := by
    obtain ⟨l1, l2, l3, l4⟩ := HGL.out
    intro hlen
    obtain ⟨b, off, e, hb, hc⟩ := HL.out hlen
    obtain rfl : w13.heap.size = b := by injection e with e; injection e
    exact ⟨w13.heap.size, off, e, hb, fun j v hv => (World.cell?_of_block (hF.block w13.heap.size (by rw [l1]; omega) (fun h => by omega))).trans (hc j v hv)⟩
  have hLit := Bytes.new w16 [1, 97, 0, 0, 0, 0, 0, 0, 0, 1, 2, 0, 0, 0, 2, 5, 6] 5 (0, 0) #[.int .u8 1, .int .u8 97, .int .u8 0, .int .u8 0, .int .u8 0, .int .u8 0, .int .u8 0, .int .u8 0, .int .u8 0, .int .u8 1, .int .u8 2, .int .u8 0, .int .u8 0, .int .u8 0, .int .u8 2, .int .u8 5, .int .u8 6] rfl (w16.heap.size + 1) (by omega)
  have h17 := nextA (Mem.start w16) (.cells #[.int .u8 1, .int .u8 97, .int .u8 0, .int .u8 0, .int .u8 0, .int .u8 0, .int .u8 0, .int .u8 0, .int .u8 0, .int .u8 1, .int .u8 2, .int .u8 0, .int .u8 0, .int .u8 0, .int .u8 2, .int .u8 5, .int .u8 6] 5)
  obtain ⟨w17, hw17⟩ : ∃ x : World, w16.alloc (.cells #[.int .u8 1, .int .u8 97, .int .u8 0, .int .u8 0, .int .u8 0, .int .u8 0, .int .u8 0, .int .u8 0, .int .u8 0, .int .u8 1, .int .u8 2, .int .u8 0, .int .u8 0, .int .u8 0, .int .u8 2, .int .u8 5, .int .u8 6] 5) = x := ⟨_, rfl⟩
  rw [hw17] at hLit h17 ⊢
  have hs17 : w17.heap.size = w13.heap.size + 2 := by rw [← hw17, World.size_alloc, hs16]
  replace KB := Lib.hid (next hK h17)
  replace HB_gt := Lib.hid (hB1.keep h17)
  replace HB_gu := Lib.hid (hB2.keep h17)
  replace HB_gv := Lib.hid (hB3.keep h17)
  have HL2 := Lib.hid (show Bytes w17 w17.heap.size (some ⟨w13.heap.size, 0, none⟩) [97, 98] from (hLc.below (by rw [← hs16]; exact h17)).up (by omega))
  have HLT := Lib.hid (show Bytes w17 w17.heap.size (some ⟨w13.heap.size + 1, 0, none⟩) [1, 97, 0, 0, 0, 0, 0, 0, 0, 1, 2, 0, 0, 0, 2, 5, 6] from by rw [← hs16]; exact hLit.up (by omega))
  clear cgt0 cgt1 cgt2 cgt3 cgu0 cgu1 cgu2 cgu3 cgv0 cgv1 cgv2 cgv3 fgt fgu fgv n1 n2 n3 m1 m2 m3 hcc hB1 hB2 hB3 hK hF hw16 hLc hLit h17 hw17 hs16 hs17 HL HGL HW14
  refine (sameBytes_any w17 A _ (s0.put.take 17) [1, 97, 0, 0, 0, 0, 0, 0, 0, 1, 2, 0, 0, 0, 2, 5, 6] 17 c 17 17 w17.heap.size w17.heap.size (by rw [List.length_take, s0_len]; rfl) rfl (((HQ.out _ KB.out).2.2.2.take 17).up KB.out.size) HLT.out).mono ?_
  rintro e w' ⟨rfl, rfl⟩
  rw [decide_eq_true s0_take]
  have cgx0 := ((HQ.out _ KB.out).1).cell 0
  have cgx1 := ((HQ.out _ KB.out).1).cell 1
  have cgx2 := ((HQ.out _ KB.out).1).cell 2
  have cgx3 := ((HQ.out _ KB.out).1).cell 3
  have cgt0 := (HB_gt.out).cell 0
  have cgt1 := (HB_gt.out).cell 1
  have cgt2 := (HB_gt.out).cell 2
  have cgt3 := (HB_gt.out).cell 3
  simp [Array.setIfInBounds, scells] at cgx0 cgx1 cgx2 cgx3 cgt0 cgt1 cgt2 cgt3
  go_wp2_with fail
  refine (compare_any w17 s0 ⟨[97, 98], 1, 2, [5, 6]⟩ (some ⟨ga, 0, none⟩) (some ⟨ga + 1, 0, none⟩) (some ⟨w13.heap.size, 0, none⟩) (some ⟨ga + 1, 0, none⟩) 1 1 2 2 2 2 2 2 rfl rfl (by decide) (by decide) ((HQ.out _ KB.out).2.1.up KB.out.size) HL2.out).mono ?_
  rintro e w18 ⟨rfl, hb⟩
  rw [show s0.cmp ⟨[97, 98], 1, 2, [5, 6]⟩ = -1 from by decide]
  replace KB := Lib.hid (next KB.out hb)
  replace HB_gu := Lib.hid (HB_gu.out.keep hb)
  replace HB_gv := Lib.hid (HB_gv.out.keep hb)
  clear hb cgx0 cgx1 cgx2 cgx3 cgt0 cgt1 cgt2 cgt3
  have cgu0 := HB_gu.out.cell 0
  have cgu1 := HB_gu.out.cell 1
  have cgu2 := HB_gu.out.cell 2
  have cgu3 := HB_gu.out.cell 3
  have cgv0 := HB_gv.out.cell 0
  have cgv1 := HB_gv.out.cell 1
  have cgv2 := HB_gv.out.cell 2
  have cgv3 := HB_gv.out.cell 3
  simp [Array.setIfInBounds] at cgu0 cgu1 cgu2 cgu3 cgv0 cgv1 cgv2 cgv3
  go_wp2_with fail
  refine (compare_any w18 ⟨[97], 3, 2, [5, 6]⟩ ⟨[97], 2, 2, [5, 6]⟩ (some ⟨ga, 0, none⟩) (some ⟨ga + 1, 0, none⟩) (some ⟨ga, 0, none⟩) (some ⟨ga + 1, 0, none⟩) 1 1 2 2 1 1 2 2 rfl rfl (by decide) (by decide) ((HQ.out _ KB.out).2.1.up KB.out.size) ((HQ.out _ KB.out).2.1.up KB.out.size)).mono ?_
  rintro e w19 ⟨rfl, hb⟩
  rw [show Sh.cmp ⟨[97], 3, 2, [5, 6]⟩ ⟨[97], 2, 2, [5, 6]⟩ = 1 from by decide]
  replace KB := Lib.hid (next KB.out hb)
  clear hb cgu0 cgu1 cgu2 cgu3 cgv0 cgv1 cgv2 cgv3
  go_wp2_with fail
  go_ret
  exact ⟨rfl, next HB4.out KB.out⟩
end Go.Proofs.Ytlmcmcafbepjmaa.ShW
