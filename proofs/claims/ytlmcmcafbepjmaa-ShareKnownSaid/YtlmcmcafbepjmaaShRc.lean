/- The document's Compare of shares. -/
import Derived.Test.YtlmcmcafbepjmaaShCq
namespace Go.Proofs.Ytlmcmcafbepjmaa.ShW
open Go.RowKit Go.Shelf Mem Fds Bv Rng
set_option linter.unusedVariables false

theorem cmpI_lt {a b : Int} (h : a < b) : cmpI a b = -1 := if_pos h
theorem cmpI_gt {a b : Int} (h : b < a) : cmpI a b = 1 := by unfold cmpI; rw [if_neg (by omega), if_pos h]
theorem cmpI_three (a b : Int) : cmpI a b = -1 ∨ cmpI a b = 0 ∨ cmpI a b = 1 := by
  unfold cmpI
  split
  · exact .inl rfl
  · split
    · exact .inr (.inr rfl)
    · exact .inr (.inl rfl)
theorem cmpL_three : ∀ a b : List UInt8, cmpL a b = -1 ∨ cmpL a b = 0 ∨ cmpL a b = 1
  | [], [] => .inr (.inl rfl)
  | [], _ :: _ => .inl rfl
  | _ :: _, [] => .inr (.inr rfl)
  | x :: a, y :: b => by
    show (if _ then _ else _) = _ ∨ (if _ then _ else _) = _ ∨ (if _ then _ else _) = _
    split
    · exact cmpL_three a b
    · exact cmpI_three _ _
theorem orI_two {x y z : Int} (h1 : x = 0) (h2 : y = -1) : orI x y z = -1 := by subst h1; subst h2; rfl
theorem orI_two1 {x y z : Int} (h1 : x = 0) (h2 : y = 1) : orI x y z = 1 := by subst h1; subst h2; rfl
theorem orI_three {x y z v : Int} (h1 : x = 0) (h2 : y = 0) (h3 : z = v) : orI x y z = v := by subst h1; subst h2; subst h3; rfl
theorem less_iff : ∀ {a b : List UInt8}, Op.bytesLess a b = true ↔ cmpL a b = -1
  | [], [] => ⟨fun h => (by cases h), fun h => (by cases h)⟩
  | [], _ :: _ => ⟨fun _ => rfl, fun _ => rfl⟩
  | _ :: _, [] => ⟨fun h => (by cases h), fun h => (by cases h)⟩
  | x :: a, y :: b => by
    have ih := less_iff (a := a) (b := b)
    show _ ↔ (if cmpI (x.toNat : Int) (y.toNat : Int) = 0 then cmpL a b else cmpI (x.toNat : Int) (y.toNat : Int)) = -1
    by_cases h1 : (x.toNat : Int) < (y.toNat : Int)
    · rw [cmpI_lt h1, if_neg (by decide)]
      exact ⟨fun _ => rfl, fun _ => by
        have h2 : x < y := UInt8.lt_iff_toNat_lt.2 (by omega)
        simp [Op.bytesLess, h2]⟩
    · by_cases h2 : (y.toNat : Int) < (x.toNat : Int)
      · rw [cmpI_gt h2, if_neg (by decide)]
        have h3 : ¬ x < y := fun h => by have := UInt8.lt_iff_toNat_lt.1 h; omega
        have h4 : ¬ x = y := fun h => by rw [h] at h2; omega
        exact ⟨fun h => by simp [Op.bytesLess, h3, h4] at h, fun h => by cases h⟩
      · have he : x = y := u8_eq (by omega)
        subst he
        rw [if_pos (cmpI_zero.2 rfl), ← ih]
        simp [Op.bytesLess]
set_option maxRecDepth 100000 in
set_option maxHeartbeats 4000000 in
theorem rcompare_any (w : World) (a b : Sh) (A B C D : Option Addr) (n c m d n' c' m' d' : Nat) (hn : a.key.length = n) (hn' : b.key.length = n') (hA : Bytes w w.heap.size A a.key) (hC : Bytes w w.heap.size C b.key) :
    Calls Try.prog 18 #[.agg #[.slice A n c, .int .i64 a.ver, .int .i64 a.node, .slice B m d], .agg #[.slice C n' c', .int .i64 b.ver, .int .i64 b.node, .slice D m' d']] w (IntOk (a.cmp b) w) := by
  obtain ⟨r, hr⟩ : ∃ r, a.cmp b = r := ⟨_, rfl⟩
  have HR := Lib.hid hr
  rw [hr]
  obtain ⟨va, hva⟩ : ∃ x, a.ver = x := ⟨_, rfl⟩
  obtain ⟨vb, hvb⟩ : ∃ x, b.ver = x := ⟨_, rfl⟩
  obtain ⟨na, hna⟩ : ∃ x, a.node = x := ⟨_, rfl⟩
  obtain ⟨nb, hnb⟩ : ∃ x, b.node = x := ⟨_, rfl⟩
  rw [hva, hvb, hna, hnb]
  obtain ⟨w4, hw4⟩ : ∃ w4 : World, w4 = ((w.alloc (.cells #[.slice A n c, .int .i64 va, .int .i64 na, .slice B m d] 31)).alloc (.cells #[.slice C n' c', .int .i64 vb, .int .i64 nb, .slice D m' d'] 31)).drew := ⟨_, rfl⟩
  have hb4 : Below w.heap.size w w4 := by rw [hw4]; exact nextN (nextA (nextA (Mem.start w) _) _) 1
  have hbk : Blk w4 w.heap.size 31 #[.slice A n c, .int .i64 va, .int .i64 na, .slice B m d] ∧ Blk w4 (w.heap.size + 1) 31 #[.slice C n' c', .int .i64 vb, .int .i64 nb, .slice D m' d'] := by
    rw [hw4]
    refine ⟨(Blk.new w _ _).alloc _, ?_⟩
    have := Blk.new (w.alloc (.cells #[.slice A n c, .int .i64 va, .int .i64 na, .slice B m d] 31)) 31 #[.slice C n' c', .int .i64 vb, .int .i64 nb, .slice D m' d']
    rw [World.size_alloc] at this
    exact this
  have HB := Lib.hid hb4
  obtain ⟨bx, hbx⟩ : ∃ x, w.heap.size = x := ⟨_, rfl⟩
  obtain ⟨by_, hby⟩ : ∃ x, w.heap.size + 1 = x := ⟨_, rfl⟩
  obtain ⟨M, hM⟩ : ∃ x, w.heap.size = x := ⟨_, rfl⟩
  have HT := Lib.hid (show w4.cell? ⟨bx, 0, none⟩ = some (.slice A n c) ∧ w4.cell? ⟨by_, 0, none⟩ = some (.slice C n' c') ∧ Bytes w4 M A a.key ∧ Bytes w4 M C b.key from by
    rw [← hbx, ← hby, ← hM]
    exact ⟨hbk.1.cell 0, hbk.2.cell 0, hA.below hb4, hC.below hb4⟩)
  have HBK := Lib.hid (show Blk w4 bx 31 #[.slice A n c, .int .i64 va, .int .i64 na, .slice B m d] ∧ Blk w4 by_ 31 #[.slice C n' c', .int .i64 vb, .int .i64 nb, .slice D m' d'] from by rw [← hbx, ← hby]; exact hbk)
  obtain ⟨ka, hka⟩ : ∃ x, str a.key = x := ⟨_, rfl⟩
  obtain ⟨kb, hkb⟩ : ∃ x, str b.key = x := ⟨_, rfl⟩
  have HS := Lib.hid (And.intro hka hkb)
  have HN := Lib.hid (And.intro hn hn')
  have HW := Lib.hid hw4
  have HX := Lib.hid (And.intro hbx hby)
  have HV := Lib.hid (And.intro hva (And.intro hvb (And.intro hna hnb)))
  clear hr hva hvb hna hnb hw4 hb4 hbk hn hn' hA hC hbx hby hM hka hkb
  go_enter Try.func18, Try.ntmps18
  go_wp2_with fail
  rw [HX.out.2, HX.out.1]
  refine wp_region_noPanic ?_
  refine wp_heldG (fun w' => w'.cell? ⟨bx, 0, none⟩ = some (.slice A n c) ∧ w'.cell? ⟨by_, 0, none⟩ = some (.slice C n' c') ∧ Bytes w' M A a.key ∧ Bytes w' M C b.key) [] (by kernel_rfl) ?hs0 ?rg0
  case hs0 => rw [← HW.out]; exact HT.out
  case rg0 =>
  intro hHeld
  rw [← HW.out] at hHeld ⊢
  --HELD rc1
  refine wpAnyG_pure (i := 0) (oi := { dst := some 7, op := Op.fieldAddr 31 (Operand.tmp 2) 0, type := 0, pos := _, after := #[], guard := none }) (v := ?_) rfl (by kernel_rfl) (by kernel_rfl) (by kernel_rfl) (by kernel_rfl) (fun _ _ _ h => h) (Or.inl ⟨by rfl, ?_⟩) (fun _ => by assumption) ?_
  rotate_left
  · intro w hSw
    try dsimp only at hSw
    go_simp
    try with_reducible rfl
  try simp only [Act.put, List.setIfInBounds_toArray, List.set_cons_zero, List.set_cons_succ]
  refine wpAnyG_take (i := 1) (oi := { dst := some 8, op := Op.load 22 (Operand.tmp 7), type := 22, pos := _, after := #[{ on := 0, ground := Ground.data }], guard := none }) (v := ?_) rfl (by kernel_rfl) (by kernel_rfl) (by kernel_rfl) (by kernel_rfl) (fun _ _ _ h => h) (Or.inl ⟨by rfl, ?_⟩) (by assumption) ?_
  rotate_left
  · intro w hSw
    try dsimp only at hSw
    go_simp
    try with_reducible rfl
  try simp only [Act.put, List.setIfInBounds_toArray, List.set_cons_zero, List.set_cons_succ]
  refine wpAnyG_take (i := 2) (oi := { dst := some 9, op := Op.convert 22 9 (Operand.tmp 8), type := 9, pos := _, after := #[{ on := 1, ground := Ground.data }], guard := none }) (v := ?_) rfl (by kernel_rfl) (by kernel_rfl) (by kernel_rfl) (by kernel_rfl) (fun _ _ _ h => h) (Or.inl ⟨by rfl, ?_⟩) (by assumption) ?_
  rotate_left
  · intro w hSw
    try dsimp only at hSw
    have hcv := convB hSw.2.2.1 n c HN.out.1.symm
    rw [HS.out.1] at hcv
    go_simp
    try with_reducible rfl
  try simp only [Act.put, List.setIfInBounds_toArray, List.set_cons_zero, List.set_cons_succ]
  refine wpAnyG_pure (i := 3) (oi := { dst := some 10, op := Op.fieldAddr 31 (Operand.tmp 3) 0, type := 0, pos := _, after := #[{ on := 6, ground := Ground.gcOnly Departure.lateStores }], guard := none }) (v := ?_) rfl (by kernel_rfl) (by kernel_rfl) (by kernel_rfl) (by kernel_rfl) (fun _ _ _ h => h) (Or.inl ⟨by rfl, ?_⟩) (fun _ => by assumption) ?_
  rotate_left
  · intro w hSw
    try dsimp only at hSw
    go_simp
    try with_reducible rfl
  try simp only [Act.put, List.setIfInBounds_toArray, List.set_cons_zero, List.set_cons_succ]
  refine wpAnyG_take (i := 4) (oi := { dst := some 11, op := Op.load 22 (Operand.tmp 10), type := 22, pos := _, after := #[{ on := 3, ground := Ground.data }, { on := 6, ground := Ground.gcOnly Departure.lateStores }], guard := none }) (v := ?_) rfl (by kernel_rfl) (by kernel_rfl) (by kernel_rfl) (by kernel_rfl) (fun _ _ _ h => h) (Or.inl ⟨by rfl, ?_⟩) (by assumption) ?_
  rotate_left
  · intro w hSw
    try dsimp only at hSw
    go_simp
    try with_reducible rfl
  try simp only [Act.put, List.setIfInBounds_toArray, List.set_cons_zero, List.set_cons_succ]
  refine wpAnyG_take (i := 5) (oi := { dst := some 12, op := Op.convert 22 9 (Operand.tmp 11), type := 9, pos := _, after := #[{ on := 4, ground := Ground.data }, { on := 6, ground := Ground.gcOnly Departure.lateStores }], guard := none }) (v := ?_) rfl (by kernel_rfl) (by kernel_rfl) (by kernel_rfl) (by kernel_rfl) (fun _ _ _ h => h) (Or.inl ⟨by rfl, ?_⟩) (by assumption) ?_
  rotate_left
  · intro w hSw
    try dsimp only at hSw
    have hcv := convB hSw.2.2.2 n' c' HN.out.2.symm
    rw [HS.out.2] at hcv
    go_simp
    try with_reducible rfl
  try simp only [Act.put, List.setIfInBounds_toArray, List.set_cons_zero, List.set_cons_succ]
  refine wpAnyG_pure (i := 6) (oi := { dst := some 5, op := Op.assign (Operand.tmp 9), type := 9, pos := _, after := #[{ on := 2, ground := Ground.data }, { on := 0, ground := Ground.phase }, { on := 1, ground := Ground.phase }, { on := 2, ground := Ground.phase }, { on := 3, ground := Ground.textOnly Departure.lateStores }, { on := 4, ground := Ground.textOnly Departure.lateStores }, { on := 5, ground := Ground.textOnly Departure.lateStores }], guard := none }) (v := ?_) rfl (by kernel_rfl) (by kernel_rfl) (by kernel_rfl) (by kernel_rfl) (fun _ _ _ h => h) (Or.inl ⟨by rfl, ?_⟩) (fun _ => by assumption) ?_
  rotate_left
  · intro w hSw
    try dsimp only at hSw
    go_simp
    try with_reducible rfl
  try simp only [Act.put, List.setIfInBounds_toArray, List.set_cons_zero, List.set_cons_succ]
  refine wpAnyG_pure (i := 7) (oi := { dst := some 6, op := Op.assign (Operand.tmp 12), type := 9, pos := _, after := #[{ on := 5, ground := Ground.data }, { on := 6, ground := Ground.chain }, { on := 0, ground := Ground.phase }, { on := 1, ground := Ground.phase }, { on := 2, ground := Ground.phase }, { on := 3, ground := Ground.phase }, { on := 4, ground := Ground.phase }, { on := 5, ground := Ground.phase }, { on := 6, ground := Ground.phase }], guard := none }) (v := ?_) rfl (by kernel_rfl) (by kernel_rfl) (by kernel_rfl) (by kernel_rfl) (fun _ _ _ h => h) (Or.inl ⟨by rfl, ?_⟩) (fun _ => by assumption) ?_
  rotate_left
  · intro w hSw
    try dsimp only at hSw
    go_simp
    try with_reducible rfl
  try simp only [Act.put, List.setIfInBounds_toArray, List.set_cons_zero, List.set_cons_succ]
  refine wpAnyG_done (by kernel_rfl) ?_ _
  refine NoPanic.normal ?_
  --END rc1
  have e1 : w4.cell? ⟨bx, 1, none⟩ = some (.int .i64 va) := HBK.out.1.cell 1
  have e2 : w4.cell? ⟨bx, 2, none⟩ = some (.int .i64 na) := HBK.out.1.cell 2
  have e3 : w4.cell? ⟨by_, 1, none⟩ = some (.int .i64 vb) := HBK.out.2.cell 1
  have e4 : w4.cell? ⟨by_, 2, none⟩ = some (.int .i64 nb) := HBK.out.2.cell 2
  rcases cmpL_three a.key b.key with hk | hk | hk
  · have k1 : Op.bytesLess ka.toList kb.toList = true := by rw [← HS.out.1, ← HS.out.2, str_toList, str_toList]; exact less_iff.2 hk
    have HF := Lib.hid (show r = -1 from by rw [← HR.out]; unfold Sh.cmp; rw [HV.out.1, HV.out.2.1, HV.out.2.2.1, HV.out.2.2.2]; exact by rw [hk]; rfl)
    clear hk
    go_wp2_with fail
    go_ret
    exact ⟨by rw [HF.out]; rfl, HB.out⟩
  · have k1 : Op.bytesLess ka.toList kb.toList = false := by rw [← HS.out.1, ← HS.out.2, str_toList, str_toList, Bool.eq_false_iff]; exact fun h => by rw [less_iff.1 h] at hk; cases hk
    have k2 : (ka.toList == kb.toList) = true := by rw [← HS.out.1, ← HS.out.2, str_beq]; exact decide_eq_true (cmpL_zero hk)
    have hkz := hk
    by_cases h1 : va < vb
    · have HF := Lib.hid (show r = -1 from by rw [← HR.out]; unfold Sh.cmp; rw [HV.out.1, HV.out.2.1, HV.out.2.2.1, HV.out.2.2.2]; exact orI_two hk (cmpI_lt h1))
      clear hk hkz
      go_wp2_with fail
      go_ret
      exact ⟨by rw [HF.out]; rfl, HB.out⟩
    · by_cases h2 : vb < va
      · have HF := Lib.hid (show r = 1 from by rw [← HR.out]; unfold Sh.cmp; rw [HV.out.1, HV.out.2.1, HV.out.2.2.1, HV.out.2.2.2]; exact orI_two1 hk (cmpI_gt h2))
        clear hk hkz
        go_wp2_with fail
        go_ret
        exact ⟨by rw [HF.out]; rfl, HB.out⟩
      · have h3 : (va == vb) = true := by simp; omega
        have h3e : va = vb := by omega
        by_cases h4 : na < nb
        · have HF := Lib.hid (show r = -1 from by rw [← HR.out]; unfold Sh.cmp; rw [HV.out.1, HV.out.2.1, HV.out.2.2.1, HV.out.2.2.2]; exact orI_three hk (cmpI_zero.2 h3e) (cmpI_lt h4))
          clear hk hkz h3e
          go_wp2_with fail
          go_ret
          exact ⟨by rw [HF.out]; rfl, HB.out⟩
        · by_cases h5 : nb < na
          · have h6 : (na == nb) = false := by simp; omega
            have HF := Lib.hid (show r = 1 from by rw [← HR.out]; unfold Sh.cmp; rw [HV.out.1, HV.out.2.1, HV.out.2.2.1, HV.out.2.2.2]; exact orI_three hk (cmpI_zero.2 h3e) (cmpI_gt h5))
            clear hk hkz h3e
            go_wp2_with fail
            go_ret
            exact ⟨by rw [HF.out]; rfl, HB.out⟩
          · have h6 : (na == nb) = true := by simp; omega
            have HF := Lib.hid (show r = 0 from by rw [← HR.out]; unfold Sh.cmp; rw [HV.out.1, HV.out.2.1, HV.out.2.2.1, HV.out.2.2.2]; exact orI_three hk (cmpI_zero.2 h3e) (cmpI_zero.2 (by omega)))
            clear hk hkz h3e
            go_wp2_with fail
            go_ret
            exact ⟨by rw [HF.out]; rfl, HB.out⟩
  · have k1 : Op.bytesLess ka.toList kb.toList = false := by rw [← HS.out.1, ← HS.out.2, str_toList, str_toList, Bool.eq_false_iff]; exact fun h => by rw [less_iff.1 h] at hk; cases hk
    have k2 : (ka.toList == kb.toList) = false := by rw [← HS.out.1, ← HS.out.2, str_beq]; exact decide_eq_false (fun h => by rw [h, cmpL_eq] at hk; cases hk)
    have HF := Lib.hid (show r = 1 from by rw [← HR.out]; unfold Sh.cmp; rw [HV.out.1, HV.out.2.1, HV.out.2.2.1, HV.out.2.2.2]; exact by rw [hk]; rfl)
    clear hk
    go_wp2_with fail
    go_ret
    exact ⟨by rw [HF.out]; rfl, HB.out⟩
end Go.Proofs.Ytlmcmcafbepjmaa.ShW
