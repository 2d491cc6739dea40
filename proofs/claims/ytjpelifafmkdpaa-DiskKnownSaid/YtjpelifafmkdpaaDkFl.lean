/- The law DiskFails: its walk. -/
import Derived.Test.YtjpelifafmkdpaaDkTw
namespace Go.Proofs.Ytjpelifafmkdpaa.DkW
open Go.RowKit Go.Shelf Mem Rng
set_option linter.unusedVariables false

/-- Behind i calls of which n go well. -/
def JF (n i : Nat) (s : DS) : Prop := s.n = 4 ∧ (i ≤ n → s.off = false ∧ s.well = (n : Int) - i ∧ s.steps = i) ∧ (n < i → s.off = true ∧ s.steps = n + 1) ∧ (i = 0 → s.L = [])
theorem JF.start (n : Nat) : JF n 0 ((DS.new 4).fail n) := ⟨rfl, fun _ => ⟨rfl, by show max (-1) (n : Int) = (n : Int) - (0 : Nat); omega, rfl⟩, fun h => absurd h (by omega), fun _ => rfl⟩
theorem JF.may {n i : Nat} {s : DS} (h : JF n i s) (hi : i ≤ n) (a : Nat) (ha : a < 4) (m : Nat) (hm : m ≤ 256) : s.may a m = 0 := by
  unfold DS.may
  rw [h.1, (h.2.1 hi).1, if_neg (by decide), if_neg (by omega), if_neg (by omega)]
theorem JF.no {n i : Nat} {s : DS} (h : JF n i s) (hi : n < i) (a : Int) (m : Nat) : s.may a m = 180 := by
  unfold DS.may
  rw [(h.2.2.1 hi).1, if_pos rfl]
/-- A step, whatever was done ahead of it. -/
theorem JF.step {n i : Nat} {s s' : DS} (f : DS → DS) (hf : ∀ t : DS, (f t).n = t.n ∧ (f t).off = t.off ∧ (f t).well = t.well ∧ (f t).steps = t.steps) (h : JF n i s) (hi : i ≤ n) (hs : s'.n = s.n ∧ s'.off = s.off ∧ s'.well = s.well ∧ s'.steps = s.steps) :
    JF n (i + 1) (s'.step f).1 ∧ (s'.step f).2 = if n ≤ i then 180 else 0 := by
  obtain ⟨h1, h2, h3, h4⟩ := h
  obtain ⟨k1, k2, k3⟩ := h2 hi
  obtain ⟨e1, e2, e3, e4⟩ := hs
  unfold DS.step
  by_cases hni : n ≤ i
  · obtain rfl : n = i := by omega
    rw [if_pos (by rw [e3, k2]; omega), if_pos hni]
    exact ⟨⟨e1.trans h1, fun h => absurd h (by omega), fun _ => ⟨rfl, by show s'.steps + 1 = _; rw [e4, k3]⟩, fun h => absurd h (by omega)⟩, rfl⟩
  · rw [if_neg (by rw [e3, k2]; omega), if_neg hni]
    obtain ⟨g1, g2, g3, g4⟩ := hf { s' with steps := s'.steps + 1, well := max (-1) (s'.well - 1) }
    exact ⟨⟨g1.trans (e1.trans h1), fun _ => ⟨g2.trans (e2.trans k1), by rw [g3]; show max (-1) (s'.well - 1) = _; rw [e3, k2]; omega, by rw [g4]; show s'.steps + 1 = _; rw [e4, k3]⟩, fun h => absurd h (by omega), fun h => absurd h (by omega)⟩, rfl⟩
theorem JF.next {n i : Nat} {s : DS} (h : JF n i s) (hi : n < i) : JF n (i + 1) s := ⟨h.1, fun h => absurd h (by omega), fun _ => h.2.2.1 hi, fun h => absurd h (by omega)⟩
theorem JF.write {n i : Nat} {s : DS} (h : JF n i s) (a : Nat) (ha : a < 4) (l : List UInt8) (hl : l.length ≤ 256) : JF n (i + 1) (s.write a l).1 ∧ (s.write a l).2 = if n ≤ i then 180 else 0 := by
  unfold DS.write
  by_cases hi : i ≤ n
  · rw [h.may hi a ha _ hl, if_neg (by decide)]
    exact h.step (s' := { s with L := s.L ++ [((a : Int), pad l)], N := upd s.N a (pad l) }) id (fun t => ⟨rfl, rfl, rfl, rfl⟩) hi ⟨rfl, rfl, rfl, rfl⟩
  · rw [h.no (by omega), if_pos (by decide), if_pos (by omega)]
    exact ⟨h.next (by omega), rfl⟩
theorem JF.sync {n i : Nat} {s : DS} (h : JF n i s) : JF n (i + 1) s.sync.1 ∧ s.sync.2 = if n ≤ i then 180 else 0 := by
  unfold DS.sync
  by_cases hi : i ≤ n
  · rw [if_neg (by rw [(h.2.1 hi).1]; decide)]
    exact h.step DS.settle (fun t => ⟨rfl, rfl, rfl, rfl⟩) hi ⟨rfl, rfl, rfl, rfl⟩
  · rw [if_pos (h.2.2.1 (by omega)).1, if_pos (by omega)]
    exact ⟨h.next (by omega), rfl⟩
theorem JF.tells {n i : Nat} {s : DS} (h : JF n (i + 1) s) : s.off = decide (n ≤ i) ∧ s.steps = min i n + 1 := by
  by_cases hi : i + 1 ≤ n
  · obtain ⟨h1, h2, h3⟩ := h.2.1 hi
    exact ⟨by rw [h1, decide_eq_false (by omega)], by omega⟩
  · obtain ⟨h1, h3⟩ := h.2.2.1 (by omega)
    exact ⟨by rw [h1, decide_eq_true (by omega)], by omega⟩
theorem JF.steps {n i : Nat} {s : DS} (h : JF n i s) : s.steps ≤ i := by
  by_cases hi : i ≤ n
  · have := (h.2.1 hi).2.2; omega
  · have := (h.2.2.1 (by omega)).2; omega
theorem JF.on {n i : Nat} {s : DS} (h : JF n i s) : On4 (s.on []) ∧ (s.on []).steps ≤ i ∧ (i = 0 → (s.on []).L = []) := by
  unfold DS.on
  split
  · exact ⟨⟨h.1, rfl, rfl⟩, h.steps, fun _ => rfl⟩
  · rename_i ho
    exact ⟨⟨h.1, by simpa using ho, rfl⟩, h.steps, h.2.2.2⟩
set_option maxRecDepth 100000 in
set_option maxHeartbeats 8000000 in
theorem fails_any (w : World) (A : Option Addr) (l : List Open.OneP) (c : Nat) (hcl : l.length ≤ c) (hmx : c ≤ maxLen) (hF : Cells w w.heap.size A (l.flatMap Open.OneP.cells)) (hg : ∀ x ∈ l, x.good w) (t : UInt8) :
    Calls Try.prog 6 #[.slice A l.length c, .int .u8 (t.toNat : Int)] w fun e w' => e = .returned (.bool true) ∧ Below w.heap.size w w' := by
  have HSl := Lib.hid (small_any w A l c hF (by unfold maxLen at hmx; omega))
  obtain ⟨n, hn⟩ : ∃ n, l.length = n := ⟨_, rfl⟩
  obtain ⟨m, hm⟩ : ∃ m, t.toNat = m := ⟨_, rfl⟩
  have hm255 : (m : Int) ≤ 255 := by have := t.toNat_lt; omega
  have hm0 : (0 : Int) ≤ (m : Int) := by omega
  have hmw : IntKind.i64.wrap (m : Int) = (m : Int) := IntWalk.i64_in _ (by omega)
  rw [hn] at HSl
  rw [hn, hm]
  have HL := Lib.hid (And.intro hn (And.intro hF hg))
  clear hn hm hF hg hcl hmx
  go_enter Try.func6, Try.ntmps6
  go_wp2_with fail
  refine HSl.out.mono ?_
  rintro e w' ⟨⟨b, rfl, hs⟩, rfl⟩
  cases b with
  | false =>
    clear hs
    go_wp2_with fail
    refine (works_any w).mono ?_
    rintro e w9 ⟨rfl, hb⟩
    have H9 := Lib.hid hb
    clear hb
    go_wp2_with fail
    go_ret
    exact ⟨rfl, H9.out⟩
  | true =>
    have HS1 := Lib.hid (hs rfl)
    have hn40 : (n : Int) ≤ 40 := by have h1 := HS1.out.1; have h2 := HL.out.1; omega
    clear hs
    go_wp2_with fail
    refine (dnew (DSt.start w) 4).mono ?_
    rintro e w1 ⟨p, rfl, h, hb⟩
    have H1 := Lib.hid (show DSt w [(p, DS.new 4)] (fun _ => False) w1 from h)
    clear h hb
    go_wp2_with fail
    refine (dfail H1.out (i := 0) rfl (m : Int) (by omega)).mono ?_
    rintro e w2 ⟨rfl, h, hf⟩
    have H2 := Lib.hid (show DSt w [(p, (DS.new 4).fail m)] (fun _ => False) w2 from h)
    clear h hf
    go_wp2_with fail
    go_loopw [6] (fun i wr => ∃ (j : Nat) (s : DS), i = .int .i64 (j : Int) ∧ j ≤ n ∧ JF m j s ∧ DSt w [(p, s)] (fun _ => False) wr) (fun i _ => n - (intOf i).toNat)
    case atStart => exact ⟨0, _, rfl, Nat.zero_le _, JF.start m, H2.out⟩
    case round =>
      obtain ⟨j, s, rfl, hj, hJ, h⟩ := hrel
      have H3 := Lib.hid h
      have HJ := Lib.hid hJ
      clear h H2 H1 hJ
      obtain ⟨w3, rfl⟩ : ∃ w3 : World, w3 = wr := ⟨_, rfl⟩
      by_cases hjn : j < n
      · obtain ⟨x, hx⟩ : ∃ x, l[j]? = some x := ⟨l[j]'(by rw [HL.out.1]; exact hjn), List.getElem?_eq_getElem _⟩
        obtain ⟨b, off, rfl, hbl, hc0, hc1⟩ := Open.put_at HL.out.2.1 hx
        have hg := HL.out.2.2 x (List.mem_of_getElem? hx)
        have hx256 := HS1.out.2 x (List.mem_of_getElem? hx)
        obtain ⟨m2, hm2⟩ : ∃ m2, x.b.length = m2 := ⟨_, rfl⟩
        rw [hm2] at hc1
        have hcw : ∀ w', Below w.heap.size w w' → w'.cell? ⟨b, off + j * 2, none⟩ = some (.int .u8 (x.i.toNat : Int)) ∧ w'.cell? ⟨b, off + j * 2 + 1, none⟩ = some (.slice x.A m2 x.c) := fun w' hb => ⟨(hb.cell (p := ⟨b, _, none⟩) hbl).trans hc0, (hb.cell (p := ⟨b, _, none⟩) hbl).trans hc1⟩
        have hst : s.steps + 1 ≤ 256 ^ 3 := by have := HJ.out.steps; omega
        have hw := dwrite (w := w3.drew) (H3.out.keep (nextN (Mem.start w3) 1)) (i := 0) rfl ((x.i.toNat % 4 : Nat) : Int) ⟨by omega, by omega⟩ x.A x.b m2 x.c hm2 (((hg.1.below H3.out.below).up H3.out.below.size : Bytes w3 w3.heap.size x.A x.b)) hst
        have hy := dsync H3.out (i := 0) rfl hst
        obtain ⟨kw1, kw2⟩ := HJ.out.write (x.i.toNat % 4) (Nat.mod_lt _ (by decide)) x.b hx256
        obtain ⟨ky1, ky2⟩ := HJ.out.sync
        rw [kw2] at hw
        rw [ky2] at hy
        have HW := Lib.hid (And.intro hw kw1)
        have HY := Lib.hid (And.intro hy ky1)
        have HT := Lib.hid (show w3.drew.cell? ⟨b, off + j * 2, none⟩ = some (.int .u8 (x.i.toNat : Int)) ∧ w3.drew.cell? ⟨b, off + j * 2 + 1, none⟩ = some (.slice x.A m2 x.c) from hcw _ (nextN H3.out.below 1))
        have HCW := Lib.hid hcw
        have h0 : (0 : Int) ≤ (j : Int) := by omega
        have h1 : (j : Int) < (n : Int) := by omega
        have hr4 : (x.i.toNat : Int).tmod 4 = ((x.i.toNat % 4 : Nat) : Int) := by rw [Int.tmod_eq_emod_of_nonneg (by omega)]; omega
        have hr0 : (0 : Int) ≤ ((x.i.toNat % 4 : Nat) : Int) := by omega
        have hr3 : ((x.i.toNat % 4 : Nat) : Int) < 4 := by omega
        obtain ⟨i4, hi4⟩ : ∃ i4, x.i.toNat % 4 = i4 := ⟨_, rfl⟩
        rw [hi4] at hr4 hr0 hr3 HW
        have hwr : IntKind.i64.wrap (i4 : Int) = (i4 : Int) := IntWalk.i64_in _ (by omega)
        obtain ⟨r3, hr3e⟩ : ∃ r3, j % 3 = r3 := ⟨_, rfl⟩
        have hj3 : (j : Int).tmod 3 = (r3 : Int) := by rw [Int.tmod_eq_emod_of_nonneg (by omega)]; omega
        clear hx hg hx256 hc0 hc1 hm2 hst hw hy hbl hi4 hcw kw1 kw2 ky1 ky2 hr3e
        by_cases hjm : j < m
        · have hjm1 : (j : Int) < (m : Int) := by omega
          have hjm2 : ¬ (m : Int) ≤ (j : Int) := by omega
          have HV := Lib.hid (show (if m ≤ j then (180 : Int) else 0) = 0 from if_neg (by omega))
          rw [HV.out] at HW HY
          by_cases hr2 : r3 = 2
          · subst hr2
            go_wp2_with fail
            refine HY.out.1.mono ?_
            rintro e w4 ⟨rfl, h4, f4⟩
            have H4 := Lib.hid (And.intro (show DSt w [(p, s.sync.1)] (fun _ => False) w4 from h4) HY.out.2)
            clear h4 f4 HW HY
            go_wp2_with fail
            have hto : s.sync.1.off = false := by rw [H4.out.2.tells.1]; exact decide_eq_false (by omega)
            have htp : (s.sync.1.steps : Int) = (j : Int) + 1 := by have h9 := H4.out.2.tells.2; omega
            obtain ⟨s4, hs4⟩ : ∃ s4 : DS, s4 = s.sync.1 := ⟨_, rfl⟩
            rw [← hs4] at H4 hto htp
            have HO := Lib.hid (doff H4.out.1 (i := 0) rfl)
            have HP := Lib.hid (dsteps H4.out.1 (i := 0) rfl)
            rw [hto] at HO
            rw [htp] at HP
            clear hto htp hs4
            go_wp2_with fail
            refine HO.out.mono ?_
            rintro e w' ⟨rfl, rfl⟩
            go_wp2_with fail
            refine HP.out.mono ?_
            rintro e w' ⟨rfl, rfl⟩
            go_wp2_with fail
            go_roundw
            case rel => exact ⟨j + 1, s4, rfl, hjn, H4.out.2, H4.out.1⟩
            case measure => simp [intOf]; omega
          · have hr5 : ((r3 : Int) == 2) = false := by simp; omega
            go_wp2_with fail
            --HELD fl11a
            refine wp_region_noPanic ?_
            refine wp_heldG (fun w' => w'.cell? ⟨b, off + j * 2, none⟩ = some (.int .u8 (x.i.toNat : Int)) ∧ w'.cell? ⟨b, off + j * 2 + 1, none⟩ = some (.slice x.A m2 x.c)) [] (by kernel_rfl) ?hs0 ?rg0
            case hs0 =>
              exact HT.out
            case rg0 =>
            intro hHeld
            refine wpAnyG_pure (i := 0) (oi := { dst := some 30, op := Op.move (Operand.tmp 5), type := 28, pos := _, after := #[], guard := none }) (v := ?_) rfl (by kernel_rfl) (by kernel_rfl) (by kernel_rfl) (by kernel_rfl) (fun _ _ _ h => h) (Or.inl ⟨by rfl, ?_⟩) (fun _ => by assumption) ?_
            rotate_left
            · intro w hSw
              try dsimp only at hSw
              go_simp
              try with_reducible rfl
            try simp only [Act.put, List.setIfInBounds_toArray, List.set_cons_zero, List.set_cons_succ]
            refine wpAnyG_pure (i := 1) (oi := { dst := some 31, op := Op.move (Operand.tmp 0), type := 22, pos := _, after := #[], guard := none }) (v := ?_) rfl (by kernel_rfl) (by kernel_rfl) (by kernel_rfl) (by kernel_rfl) (fun _ _ _ h => h) (Or.inl ⟨by rfl, ?_⟩) (fun _ => by assumption) ?_
            rotate_left
            · intro w hSw
              try dsimp only at hSw
              go_simp
              try with_reducible rfl
            try simp only [Act.put, List.setIfInBounds_toArray, List.set_cons_zero, List.set_cons_succ]
            refine wpAnyG_pure (i := 2) (oi := { dst := some 32, op := Op.move (Operand.tmp 6), type := 3, pos := _, after := #[], guard := none }) (v := ?_) rfl (by kernel_rfl) (by kernel_rfl) (by kernel_rfl) (by kernel_rfl) (fun _ _ _ h => h) (Or.inl ⟨by rfl, ?_⟩) (fun _ => by assumption) ?_
            rotate_left
            · intro w hSw
              try dsimp only at hSw
              go_simp
              try with_reducible rfl
            try simp only [Act.put, List.setIfInBounds_toArray, List.set_cons_zero, List.set_cons_succ]
            refine wpAnyG_pure (i := 3) (oi := { dst := some 33, op := Op.indexAddr 22 (Operand.tmp 31) (Operand.tmp 32), type := 0, pos := _, after := #[{ on := 1, ground := Ground.data }, { on := 2, ground := Ground.data }], guard := none }) (v := ?_) rfl (by kernel_rfl) (by kernel_rfl) (by kernel_rfl) (by kernel_rfl) (fun _ _ _ h => h) (Or.inl ⟨by rfl, ?_⟩) (fun _ => by assumption) ?_
            rotate_left
            · intro w hSw
              try dsimp only at hSw
              go_simp
              try with_reducible rfl
            try simp only [Act.put, List.setIfInBounds_toArray, List.set_cons_zero, List.set_cons_succ]
            refine wpAnyG_pure (i := 4) (oi := { dst := some 34, op := Op.fieldAddr 27 (Operand.tmp 33) 0, type := 0, pos := _, after := #[{ on := 3, ground := Ground.data }], guard := none }) (v := ?_) rfl (by kernel_rfl) (by kernel_rfl) (by kernel_rfl) (by kernel_rfl) (fun _ _ _ h => h) (Or.inl ⟨by rfl, ?_⟩) (fun _ => by assumption) ?_
            rotate_left
            · intro w hSw
              try dsimp only at hSw
              go_simp
              try with_reducible rfl
            try simp only [Act.put, List.setIfInBounds_toArray, List.set_cons_zero, List.set_cons_succ]
            refine wpAnyG_take (i := 5) (oi := { dst := some 35, op := Op.load 5 (Operand.tmp 34), type := 5, pos := _, after := #[{ on := 4, ground := Ground.data }], guard := none }) (v := ?_) rfl (by kernel_rfl) (by kernel_rfl) (by kernel_rfl) (by kernel_rfl) (fun _ _ _ h => h) (Or.inl ⟨by rfl, ?_⟩) (by assumption) ?_
            rotate_left
            · intro w hSw
              try dsimp only at hSw
              go_simp
              try with_reducible rfl
            try simp only [Act.put, List.setIfInBounds_toArray, List.set_cons_zero, List.set_cons_succ]
            refine wpAnyG_pure (i := 6) (oi := { dst := some 36, op := Op.binOp BinOp.rem 5 (Operand.tmp 35) (Operand.const (Value.int IntKind.u8 4)) 5, type := 5, pos := _, after := #[{ on := 5, ground := Ground.data }], guard := none }) (v := ?_) rfl (by kernel_rfl) (by kernel_rfl) (by kernel_rfl) (by kernel_rfl) (fun _ _ _ h => h) (Or.inl ⟨by rfl, ?_⟩) (fun _ => by assumption) ?_
            rotate_left
            · intro w hSw
              try dsimp only at hSw
              go_simp
              try with_reducible rfl
            try simp only [Act.put, List.setIfInBounds_toArray, List.set_cons_zero, List.set_cons_succ]
            refine wpAnyG_pure (i := 7) (oi := { dst := some 37, op := Op.convert 5 3 (Operand.tmp 36), type := 3, pos := _, after := #[{ on := 6, ground := Ground.data }], guard := none }) (v := ?_) rfl (by kernel_rfl) (by kernel_rfl) (by kernel_rfl) (by kernel_rfl) (fun _ _ _ h => h) (Or.inl ⟨by rfl, ?_⟩) (fun _ => by assumption) ?_
            rotate_left
            · intro w hSw
              try dsimp only at hSw
              go_simp
              try with_reducible rfl
            try simp only [Act.put, List.setIfInBounds_toArray, List.set_cons_zero, List.set_cons_succ]
            refine wpAnyG_pure (i := 8) (oi := { dst := some 38, op := Op.move (Operand.tmp 0), type := 22, pos := _, after := #[], guard := none }) (v := ?_) rfl (by kernel_rfl) (by kernel_rfl) (by kernel_rfl) (by kernel_rfl) (fun _ _ _ h => h) (Or.inl ⟨by rfl, ?_⟩) (fun _ => by assumption) ?_
            rotate_left
            · intro w hSw
              try dsimp only at hSw
              go_simp
              try with_reducible rfl
            try simp only [Act.put, List.setIfInBounds_toArray, List.set_cons_zero, List.set_cons_succ]
            refine wpAnyG_pure (i := 9) (oi := { dst := some 39, op := Op.move (Operand.tmp 6), type := 3, pos := _, after := #[], guard := none }) (v := ?_) rfl (by kernel_rfl) (by kernel_rfl) (by kernel_rfl) (by kernel_rfl) (fun _ _ _ h => h) (Or.inl ⟨by rfl, ?_⟩) (fun _ => by assumption) ?_
            rotate_left
            · intro w hSw
              try dsimp only at hSw
              go_simp
              try with_reducible rfl
            try simp only [Act.put, List.setIfInBounds_toArray, List.set_cons_zero, List.set_cons_succ]
            refine wpAnyG_pure (i := 10) (oi := { dst := some 40, op := Op.indexAddr 22 (Operand.tmp 38) (Operand.tmp 39), type := 0, pos := _, after := #[{ on := 8, ground := Ground.data }, { on := 9, ground := Ground.data }], guard := none }) (v := ?_) rfl (by kernel_rfl) (by kernel_rfl) (by kernel_rfl) (by kernel_rfl) (fun _ _ _ h => h) (Or.inl ⟨by rfl, ?_⟩) (fun _ => by assumption) ?_
            rotate_left
            · intro w hSw
              try dsimp only at hSw
              go_simp
              try with_reducible rfl
            try simp only [Act.put, List.setIfInBounds_toArray, List.set_cons_zero, List.set_cons_succ]
            refine wpAnyG_pure (i := 11) (oi := { dst := some 41, op := Op.fieldAddr 27 (Operand.tmp 40) 1, type := 0, pos := _, after := #[{ on := 10, ground := Ground.data }], guard := none }) (v := ?_) rfl (by kernel_rfl) (by kernel_rfl) (by kernel_rfl) (by kernel_rfl) (fun _ _ _ h => h) (Or.inl ⟨by rfl, ?_⟩) (fun _ => by assumption) ?_
            rotate_left
            · intro w hSw
              try dsimp only at hSw
              go_simp
              try with_reducible rfl
            try simp only [Act.put, List.setIfInBounds_toArray, List.set_cons_zero, List.set_cons_succ]
            refine wpAnyG_take (i := 12) (oi := { dst := some 42, op := Op.load 23 (Operand.tmp 41), type := 23, pos := _, after := #[{ on := 11, ground := Ground.data }], guard := none }) (v := ?_) rfl (by kernel_rfl) (by kernel_rfl) (by kernel_rfl) (by kernel_rfl) (fun _ _ _ h => h) (Or.inl ⟨by rfl, ?_⟩) (by assumption) ?_
            rotate_left
            · intro w hSw
              try dsimp only at hSw
              go_simp
              try with_reducible rfl
            try simp only [Act.put, List.setIfInBounds_toArray, List.set_cons_zero, List.set_cons_succ]
            refine wpAnyG_one (i := 13) (o := { dst := some 43, op := Op.call { callee := Callee.value (Operand.func 23), args := #[Operand.tmp 30, Operand.tmp 37, Operand.tmp 42], argTypes := #[28, 3, 23] }, type := 31, pos := _, after := #[{ on := 0, ground := Ground.data }, { on := 7, ground := Ground.data }, { on := 12, ground := Ground.data }], guard := none }) (by kernel_rfl) rfl (fun K hK => ?_)
            go_simp
            refine HW.out.1.mono ?_
            rintro e w4 ⟨rfl, h4, f4⟩
            have H4 := Lib.hid (And.intro (show DSt w [(p, (s.write (i4 : Int) x.b).1)] (fun _ => False) w4 from h4) HW.out.2)
            clear h4 f4 HW HY
            try dsimp only
            refine hK.out _ _ ?_ (fun hHeld => ?_)
            · intro _
              try dsimp only
              exact HCW.out w4 H4.out.1.below
            clear hK K
            try simp only [Act.put, List.setIfInBounds_toArray, List.set_cons_zero, List.set_cons_succ]
            have hHeld := hHeld (by kernel_rfl)
            refine wpAnyG_pure (i := 14) (oi := { dst := some 7, op := Op.assign (Operand.tmp 43), type := 31, pos := _, after := #[{ on := 13, ground := Ground.data }, { on := 13, ground := Ground.chain }, { on := 0, ground := Ground.phase }, { on := 1, ground := Ground.phase }, { on := 2, ground := Ground.phase }, { on := 3, ground := Ground.phase }, { on := 4, ground := Ground.phase }, { on := 5, ground := Ground.phase }, { on := 6, ground := Ground.phase }, { on := 7, ground := Ground.phase }, { on := 8, ground := Ground.phase }, { on := 9, ground := Ground.phase }, { on := 10, ground := Ground.phase }, { on := 11, ground := Ground.phase }, { on := 12, ground := Ground.phase }, { on := 13, ground := Ground.phase }], guard := none }) (v := ?_) rfl (by kernel_rfl) (by kernel_rfl) (by kernel_rfl) (by kernel_rfl) (fun _ _ _ h => h) (Or.inl ⟨by rfl, ?_⟩) (fun _ => by assumption) ?_
            rotate_left
            · intro w hSw
              try dsimp only at hSw
              go_simp
              try with_reducible rfl
            try simp only [Act.put, List.setIfInBounds_toArray, List.set_cons_zero, List.set_cons_succ]
            refine wpAnyG_done (by kernel_rfl) ?_ _
            refine NoPanic.normal ?_
            --END fl11a
            go_wp2_with fail
            have hto : (s.write (i4 : Int) x.b).1.off = false := by rw [H4.out.2.tells.1]; exact decide_eq_false (by omega)
            have htp : ((s.write (i4 : Int) x.b).1.steps : Int) = (j : Int) + 1 := by have h9 := H4.out.2.tells.2; omega
            obtain ⟨s4, hs4⟩ : ∃ s4 : DS, s4 = (s.write (i4 : Int) x.b).1 := ⟨_, rfl⟩
            rw [← hs4] at H4 hto htp
            have HO := Lib.hid (doff H4.out.1 (i := 0) rfl)
            have HP := Lib.hid (dsteps H4.out.1 (i := 0) rfl)
            rw [hto] at HO
            rw [htp] at HP
            clear hto htp hs4
            go_wp2_with fail
            refine HO.out.mono ?_
            rintro e w' ⟨rfl, rfl⟩
            go_wp2_with fail
            refine HP.out.mono ?_
            rintro e w' ⟨rfl, rfl⟩
            go_wp2_with fail
            go_roundw
            case rel => exact ⟨j + 1, s4, rfl, hjn, H4.out.2, H4.out.1⟩
            case measure => simp [intOf]; omega
        · have hjm1 : ¬ (j : Int) < (m : Int) := by omega
          have hjm2 : (m : Int) ≤ (j : Int) := by omega
          have HV := Lib.hid (show (if m ≤ j then (180 : Int) else 0) = 180 from if_pos (by omega))
          rw [HV.out] at HW HY
          by_cases hr2 : r3 = 2
          · subst hr2
            go_wp2_with fail
            refine HY.out.1.mono ?_
            rintro e w4 ⟨rfl, h4, f4⟩
            have H4 := Lib.hid (And.intro (show DSt w [(p, s.sync.1)] (fun _ => False) w4 from h4) HY.out.2)
            clear h4 f4 HW HY
            go_wp2_with fail
            have hto : s.sync.1.off = true := by rw [H4.out.2.tells.1]; exact decide_eq_true (by omega)
            have htp : (s.sync.1.steps : Int) = (m : Int) + 1 := by have h9 := H4.out.2.tells.2; omega
            obtain ⟨s4, hs4⟩ : ∃ s4 : DS, s4 = s.sync.1 := ⟨_, rfl⟩
            rw [← hs4] at H4 hto htp
            have HO := Lib.hid (doff H4.out.1 (i := 0) rfl)
            have HP := Lib.hid (dsteps H4.out.1 (i := 0) rfl)
            rw [hto] at HO
            rw [htp] at HP
            clear hto htp hs4
            go_wp2_with fail
            refine HO.out.mono ?_
            rintro e w' ⟨rfl, rfl⟩
            go_wp2_with fail
            refine HP.out.mono ?_
            rintro e w' ⟨rfl, rfl⟩
            go_wp2_with fail
            go_roundw
            case rel => exact ⟨j + 1, s4, rfl, hjn, H4.out.2, H4.out.1⟩
            case measure => simp [intOf]; omega
          · have hr5 : ((r3 : Int) == 2) = false := by simp; omega
            go_wp2_with fail
            --HELD fl11b
            refine wp_region_noPanic ?_
            refine wp_heldG (fun w' => w'.cell? ⟨b, off + j * 2, none⟩ = some (.int .u8 (x.i.toNat : Int)) ∧ w'.cell? ⟨b, off + j * 2 + 1, none⟩ = some (.slice x.A m2 x.c)) [] (by kernel_rfl) ?hs0 ?rg0
            case hs0 =>
              exact HT.out
            case rg0 =>
            intro hHeld
            refine wpAnyG_pure (i := 0) (oi := { dst := some 30, op := Op.move (Operand.tmp 5), type := 28, pos := _, after := #[], guard := none }) (v := ?_) rfl (by kernel_rfl) (by kernel_rfl) (by kernel_rfl) (by kernel_rfl) (fun _ _ _ h => h) (Or.inl ⟨by rfl, ?_⟩) (fun _ => by assumption) ?_
            rotate_left
            · intro w hSw
              try dsimp only at hSw
              go_simp
              try with_reducible rfl
            try simp only [Act.put, List.setIfInBounds_toArray, List.set_cons_zero, List.set_cons_succ]
            refine wpAnyG_pure (i := 1) (oi := { dst := some 31, op := Op.move (Operand.tmp 0), type := 22, pos := _, after := #[], guard := none }) (v := ?_) rfl (by kernel_rfl) (by kernel_rfl) (by kernel_rfl) (by kernel_rfl) (fun _ _ _ h => h) (Or.inl ⟨by rfl, ?_⟩) (fun _ => by assumption) ?_
            rotate_left
            · intro w hSw
              try dsimp only at hSw
              go_simp
              try with_reducible rfl
            try simp only [Act.put, List.setIfInBounds_toArray, List.set_cons_zero, List.set_cons_succ]
            refine wpAnyG_pure (i := 2) (oi := { dst := some 32, op := Op.move (Operand.tmp 6), type := 3, pos := _, after := #[], guard := none }) (v := ?_) rfl (by kernel_rfl) (by kernel_rfl) (by kernel_rfl) (by kernel_rfl) (fun _ _ _ h => h) (Or.inl ⟨by rfl, ?_⟩) (fun _ => by assumption) ?_
            rotate_left
            · intro w hSw
              try dsimp only at hSw
              go_simp
              try with_reducible rfl
            try simp only [Act.put, List.setIfInBounds_toArray, List.set_cons_zero, List.set_cons_succ]
            refine wpAnyG_pure (i := 3) (oi := { dst := some 33, op := Op.indexAddr 22 (Operand.tmp 31) (Operand.tmp 32), type := 0, pos := _, after := #[{ on := 1, ground := Ground.data }, { on := 2, ground := Ground.data }], guard := none }) (v := ?_) rfl (by kernel_rfl) (by kernel_rfl) (by kernel_rfl) (by kernel_rfl) (fun _ _ _ h => h) (Or.inl ⟨by rfl, ?_⟩) (fun _ => by assumption) ?_
            rotate_left
            · intro w hSw
              try dsimp only at hSw
              go_simp
              try with_reducible rfl
            try simp only [Act.put, List.setIfInBounds_toArray, List.set_cons_zero, List.set_cons_succ]
            refine wpAnyG_pure (i := 4) (oi := { dst := some 34, op := Op.fieldAddr 27 (Operand.tmp 33) 0, type := 0, pos := _, after := #[{ on := 3, ground := Ground.data }], guard := none }) (v := ?_) rfl (by kernel_rfl) (by kernel_rfl) (by kernel_rfl) (by kernel_rfl) (fun _ _ _ h => h) (Or.inl ⟨by rfl, ?_⟩) (fun _ => by assumption) ?_
            rotate_left
            · intro w hSw
              try dsimp only at hSw
              go_simp
              try with_reducible rfl
            try simp only [Act.put, List.setIfInBounds_toArray, List.set_cons_zero, List.set_cons_succ]
            refine wpAnyG_take (i := 5) (oi := { dst := some 35, op := Op.load 5 (Operand.tmp 34), type := 5, pos := _, after := #[{ on := 4, ground := Ground.data }], guard := none }) (v := ?_) rfl (by kernel_rfl) (by kernel_rfl) (by kernel_rfl) (by kernel_rfl) (fun _ _ _ h => h) (Or.inl ⟨by rfl, ?_⟩) (by assumption) ?_
            rotate_left
            · intro w hSw
              try dsimp only at hSw
              go_simp
              try with_reducible rfl
            try simp only [Act.put, List.setIfInBounds_toArray, List.set_cons_zero, List.set_cons_succ]
            refine wpAnyG_pure (i := 6) (oi := { dst := some 36, op := Op.binOp BinOp.rem 5 (Operand.tmp 35) (Operand.const (Value.int IntKind.u8 4)) 5, type := 5, pos := _, after := #[{ on := 5, ground := Ground.data }], guard := none }) (v := ?_) rfl (by kernel_rfl) (by kernel_rfl) (by kernel_rfl) (by kernel_rfl) (fun _ _ _ h => h) (Or.inl ⟨by rfl, ?_⟩) (fun _ => by assumption) ?_
            rotate_left
            · intro w hSw
              try dsimp only at hSw
              go_simp
              try with_reducible rfl
            try simp only [Act.put, List.setIfInBounds_toArray, List.set_cons_zero, List.set_cons_succ]
            refine wpAnyG_pure (i := 7) (oi := { dst := some 37, op := Op.convert 5 3 (Operand.tmp 36), type := 3, pos := _, after := #[{ on := 6, ground := Ground.data }], guard := none }) (v := ?_) rfl (by kernel_rfl) (by kernel_rfl) (by kernel_rfl) (by kernel_rfl) (fun _ _ _ h => h) (Or.inl ⟨by rfl, ?_⟩) (fun _ => by assumption) ?_
            rotate_left
            · intro w hSw
              try dsimp only at hSw
              go_simp
              try with_reducible rfl
            try simp only [Act.put, List.setIfInBounds_toArray, List.set_cons_zero, List.set_cons_succ]
            refine wpAnyG_pure (i := 8) (oi := { dst := some 38, op := Op.move (Operand.tmp 0), type := 22, pos := _, after := #[], guard := none }) (v := ?_) rfl (by kernel_rfl) (by kernel_rfl) (by kernel_rfl) (by kernel_rfl) (fun _ _ _ h => h) (Or.inl ⟨by rfl, ?_⟩) (fun _ => by assumption) ?_
            rotate_left
            · intro w hSw
              try dsimp only at hSw
              go_simp
              try with_reducible rfl
            try simp only [Act.put, List.setIfInBounds_toArray, List.set_cons_zero, List.set_cons_succ]
            refine wpAnyG_pure (i := 9) (oi := { dst := some 39, op := Op.move (Operand.tmp 6), type := 3, pos := _, after := #[], guard := none }) (v := ?_) rfl (by kernel_rfl) (by kernel_rfl) (by kernel_rfl) (by kernel_rfl) (fun _ _ _ h => h) (Or.inl ⟨by rfl, ?_⟩) (fun _ => by assumption) ?_
            rotate_left
            · intro w hSw
              try dsimp only at hSw
              go_simp
              try with_reducible rfl
            try simp only [Act.put, List.setIfInBounds_toArray, List.set_cons_zero, List.set_cons_succ]
            refine wpAnyG_pure (i := 10) (oi := { dst := some 40, op := Op.indexAddr 22 (Operand.tmp 38) (Operand.tmp 39), type := 0, pos := _, after := #[{ on := 8, ground := Ground.data }, { on := 9, ground := Ground.data }], guard := none }) (v := ?_) rfl (by kernel_rfl) (by kernel_rfl) (by kernel_rfl) (by kernel_rfl) (fun _ _ _ h => h) (Or.inl ⟨by rfl, ?_⟩) (fun _ => by assumption) ?_
            rotate_left
            · intro w hSw
              try dsimp only at hSw
              go_simp
              try with_reducible rfl
            try simp only [Act.put, List.setIfInBounds_toArray, List.set_cons_zero, List.set_cons_succ]
            refine wpAnyG_pure (i := 11) (oi := { dst := some 41, op := Op.fieldAddr 27 (Operand.tmp 40) 1, type := 0, pos := _, after := #[{ on := 10, ground := Ground.data }], guard := none }) (v := ?_) rfl (by kernel_rfl) (by kernel_rfl) (by kernel_rfl) (by kernel_rfl) (fun _ _ _ h => h) (Or.inl ⟨by rfl, ?_⟩) (fun _ => by assumption) ?_
            rotate_left
            · intro w hSw
              try dsimp only at hSw
              go_simp
              try with_reducible rfl
            try simp only [Act.put, List.setIfInBounds_toArray, List.set_cons_zero, List.set_cons_succ]
            refine wpAnyG_take (i := 12) (oi := { dst := some 42, op := Op.load 23 (Operand.tmp 41), type := 23, pos := _, after := #[{ on := 11, ground := Ground.data }], guard := none }) (v := ?_) rfl (by kernel_rfl) (by kernel_rfl) (by kernel_rfl) (by kernel_rfl) (fun _ _ _ h => h) (Or.inl ⟨by rfl, ?_⟩) (by assumption) ?_
            rotate_left
            · intro w hSw
              try dsimp only at hSw
              go_simp
              try with_reducible rfl
            try simp only [Act.put, List.setIfInBounds_toArray, List.set_cons_zero, List.set_cons_succ]
            refine wpAnyG_one (i := 13) (o := { dst := some 43, op := Op.call { callee := Callee.value (Operand.func 23), args := #[Operand.tmp 30, Operand.tmp 37, Operand.tmp 42], argTypes := #[28, 3, 23] }, type := 31, pos := _, after := #[{ on := 0, ground := Ground.data }, { on := 7, ground := Ground.data }, { on := 12, ground := Ground.data }], guard := none }) (by kernel_rfl) rfl (fun K hK => ?_)
            go_simp
            refine HW.out.1.mono ?_
            rintro e w4 ⟨rfl, h4, f4⟩
            have H4 := Lib.hid (And.intro (show DSt w [(p, (s.write (i4 : Int) x.b).1)] (fun _ => False) w4 from h4) HW.out.2)
            clear h4 f4 HW HY
            try dsimp only
            refine hK.out _ _ ?_ (fun hHeld => ?_)
            · intro _
              try dsimp only
              exact HCW.out w4 H4.out.1.below
            clear hK K
            try simp only [Act.put, List.setIfInBounds_toArray, List.set_cons_zero, List.set_cons_succ]
            have hHeld := hHeld (by kernel_rfl)
            refine wpAnyG_pure (i := 14) (oi := { dst := some 7, op := Op.assign (Operand.tmp 43), type := 31, pos := _, after := #[{ on := 13, ground := Ground.data }, { on := 13, ground := Ground.chain }, { on := 0, ground := Ground.phase }, { on := 1, ground := Ground.phase }, { on := 2, ground := Ground.phase }, { on := 3, ground := Ground.phase }, { on := 4, ground := Ground.phase }, { on := 5, ground := Ground.phase }, { on := 6, ground := Ground.phase }, { on := 7, ground := Ground.phase }, { on := 8, ground := Ground.phase }, { on := 9, ground := Ground.phase }, { on := 10, ground := Ground.phase }, { on := 11, ground := Ground.phase }, { on := 12, ground := Ground.phase }, { on := 13, ground := Ground.phase }], guard := none }) (v := ?_) rfl (by kernel_rfl) (by kernel_rfl) (by kernel_rfl) (by kernel_rfl) (fun _ _ _ h => h) (Or.inl ⟨by rfl, ?_⟩) (fun _ => by assumption) ?_
            rotate_left
            · intro w hSw
              try dsimp only at hSw
              go_simp
              try with_reducible rfl
            try simp only [Act.put, List.setIfInBounds_toArray, List.set_cons_zero, List.set_cons_succ]
            refine wpAnyG_done (by kernel_rfl) ?_ _
            refine NoPanic.normal ?_
            --END fl11b
            go_wp2_with fail
            have hto : (s.write (i4 : Int) x.b).1.off = true := by rw [H4.out.2.tells.1]; exact decide_eq_true (by omega)
            have htp : ((s.write (i4 : Int) x.b).1.steps : Int) = (m : Int) + 1 := by have h9 := H4.out.2.tells.2; omega
            obtain ⟨s4, hs4⟩ : ∃ s4 : DS, s4 = (s.write (i4 : Int) x.b).1 := ⟨_, rfl⟩
            rw [← hs4] at H4 hto htp
            have HO := Lib.hid (doff H4.out.1 (i := 0) rfl)
            have HP := Lib.hid (dsteps H4.out.1 (i := 0) rfl)
            rw [hto] at HO
            rw [htp] at HP
            clear hto htp hs4
            go_wp2_with fail
            refine HO.out.mono ?_
            rintro e w' ⟨rfl, rfl⟩
            go_wp2_with fail
            refine HP.out.mono ?_
            rintro e w' ⟨rfl, rfl⟩
            go_wp2_with fail
            go_roundw
            case rel => exact ⟨j + 1, s4, rfl, hjn, H4.out.2, H4.out.1⟩
            case measure => simp [intOf]; omega
      · obtain rfl : n = j := by omega
        have hJo := HJ.out.on
        go_wp2_with fail
        refine (don H3.out (i := 0) rfl none [] 0 0 rfl Bytes.nil (by decide)).mono ?_
        rintro e w4 ⟨rfl, h, hf⟩
        have HJ5 := Lib.hid hJo
        have H5 := Lib.hid (show DSt w [(p, s.on [])] (fun _ => False) w4 from h)
        clear h hf hJo H3 HJ
        go_wp2_with fail
        go_loopw [9] (fun i wr => ∃ (j : Nat) (s : DS), i = .int .i64 (j : Int) ∧ j ≤ n ∧ (On4 s ∧ s.steps ≤ n + 2 * j ∧ (n = 0 ∨ 0 < j → s.L = [])) ∧ DSt w [(p, s)] (fun _ => False) wr) (fun i _ => n - (intOf i).toNat)
        case atStart => exact ⟨0, _, rfl, Nat.zero_le _, ⟨HJ5.out.1, HJ5.out.2.1, fun h => HJ5.out.2.2 (by omega)⟩, H5.out⟩
        case round =>
          obtain ⟨j, s5, rfl, hj, hJ, h⟩ := hrel
          have H3 := Lib.hid h
          have HJ := Lib.hid hJ
          clear h H5 hJ HJ5
          obtain ⟨w6, rfl⟩ : ∃ w6 : World, w6 = wr := ⟨_, rfl⟩
          by_cases hjn : j < n
          · obtain ⟨x, hx⟩ : ∃ x, l[j]? = some x := ⟨l[j]'(by rw [HL.out.1]; exact hjn), List.getElem?_eq_getElem _⟩
            obtain ⟨b, off, rfl, hbl, hc0, hc1⟩ := Open.put_at HL.out.2.1 hx
            have hg := HL.out.2.2 x (List.mem_of_getElem? hx)
            have hx256 := HS1.out.2 x (List.mem_of_getElem? hx)
            obtain ⟨m2, hm2⟩ : ∃ m2, x.b.length = m2 := ⟨_, rfl⟩
            rw [hm2] at hc1
            have hcw : ∀ w', Below w.heap.size w w' → w'.cell? ⟨b, off + j * 2, none⟩ = some (.int .u8 (x.i.toNat : Int)) ∧ w'.cell? ⟨b, off + j * 2 + 1, none⟩ = some (.slice x.A m2 x.c) := fun w' hb => ⟨(hb.cell (p := ⟨b, _, none⟩) hbl).trans hc0, (hb.cell (p := ⟨b, _, none⟩) hbl).trans hc1⟩
            have hst : s5.steps + 1 ≤ 256 ^ 3 := by have := HJ.out.2.1; omega
            have hw := dwrite (w := w6.drew) (H3.out.keep (nextN (Mem.start w6) 1)) (i := 0) rfl ((x.i.toNat % 4 : Nat) : Int) ⟨by omega, by omega⟩ x.A x.b m2 x.c hm2 (((hg.1.below H3.out.below).up H3.out.below.size : Bytes w6 w6.heap.size x.A x.b)) hst
            rw [HJ.out.1.write _ (Nat.mod_lt _ (by decide)) _ hx256] at hw
            have HW := Lib.hid hw
            have HT := Lib.hid (show w6.drew.cell? ⟨b, off + j * 2, none⟩ = some (.int .u8 (x.i.toNat : Int)) ∧ w6.drew.cell? ⟨b, off + j * 2 + 1, none⟩ = some (.slice x.A m2 x.c) from hcw _ (nextN H3.out.below 1))
            have HCW := Lib.hid hcw
            have h0 : (0 : Int) ≤ (j : Int) := by omega
            have h1 : (j : Int) < (n : Int) := by omega
            have hr4 : (x.i.toNat : Int).tmod 4 = ((x.i.toNat % 4 : Nat) : Int) := by rw [Int.tmod_eq_emod_of_nonneg (by omega)]; omega
            have hr0 : (0 : Int) ≤ ((x.i.toNat % 4 : Nat) : Int) := by omega
            have hr3 : ((x.i.toNat % 4 : Nat) : Int) < 4 := by omega
            obtain ⟨i4, hi4⟩ : ∃ i4, x.i.toNat % 4 = i4 := ⟨_, rfl⟩
            rw [hi4] at hr4 hr0 hr3 HW
            have hwr : IntKind.i64.wrap (i4 : Int) = (i4 : Int) := IntWalk.i64_in _ (by omega)
            clear hx hg hx256 hc0 hc1 hm2 hst hw hbl hi4 hcw
            go_wp2_with fail
            --HELD fl21
            refine wp_region_noPanic ?_
            refine wp_heldG (fun w' => w'.cell? ⟨b, off + j * 2, none⟩ = some (.int .u8 (x.i.toNat : Int)) ∧ w'.cell? ⟨b, off + j * 2 + 1, none⟩ = some (.slice x.A m2 x.c)) [] (by kernel_rfl) ?hs0 ?rg0
            case hs0 =>
              exact HT.out
            case rg0 =>
            intro hHeld
            refine wpAnyG_pure (i := 0) (oi := { dst := some 78, op := Op.move (Operand.tmp 5), type := 28, pos := _, after := #[], guard := none }) (v := ?_) rfl (by kernel_rfl) (by kernel_rfl) (by kernel_rfl) (by kernel_rfl) (fun _ _ _ h => h) (Or.inl ⟨by rfl, ?_⟩) (fun _ => by assumption) ?_
            rotate_left
            · intro w hSw
              try dsimp only at hSw
              go_simp
              try with_reducible rfl
            try simp only [Act.put, List.setIfInBounds_toArray, List.set_cons_zero, List.set_cons_succ]
            refine wpAnyG_pure (i := 1) (oi := { dst := some 79, op := Op.move (Operand.tmp 0), type := 22, pos := _, after := #[], guard := none }) (v := ?_) rfl (by kernel_rfl) (by kernel_rfl) (by kernel_rfl) (by kernel_rfl) (fun _ _ _ h => h) (Or.inl ⟨by rfl, ?_⟩) (fun _ => by assumption) ?_
            rotate_left
            · intro w hSw
              try dsimp only at hSw
              go_simp
              try with_reducible rfl
            try simp only [Act.put, List.setIfInBounds_toArray, List.set_cons_zero, List.set_cons_succ]
            refine wpAnyG_pure (i := 2) (oi := { dst := some 80, op := Op.move (Operand.tmp 9), type := 3, pos := _, after := #[], guard := none }) (v := ?_) rfl (by kernel_rfl) (by kernel_rfl) (by kernel_rfl) (by kernel_rfl) (fun _ _ _ h => h) (Or.inl ⟨by rfl, ?_⟩) (fun _ => by assumption) ?_
            rotate_left
            · intro w hSw
              try dsimp only at hSw
              go_simp
              try with_reducible rfl
            try simp only [Act.put, List.setIfInBounds_toArray, List.set_cons_zero, List.set_cons_succ]
            refine wpAnyG_pure (i := 3) (oi := { dst := some 81, op := Op.indexAddr 22 (Operand.tmp 79) (Operand.tmp 80), type := 0, pos := _, after := #[{ on := 1, ground := Ground.data }, { on := 2, ground := Ground.data }], guard := none }) (v := ?_) rfl (by kernel_rfl) (by kernel_rfl) (by kernel_rfl) (by kernel_rfl) (fun _ _ _ h => h) (Or.inl ⟨by rfl, ?_⟩) (fun _ => by assumption) ?_
            rotate_left
            · intro w hSw
              try dsimp only at hSw
              go_simp
              try with_reducible rfl
            try simp only [Act.put, List.setIfInBounds_toArray, List.set_cons_zero, List.set_cons_succ]
            refine wpAnyG_pure (i := 4) (oi := { dst := some 82, op := Op.fieldAddr 27 (Operand.tmp 81) 0, type := 0, pos := _, after := #[{ on := 3, ground := Ground.data }], guard := none }) (v := ?_) rfl (by kernel_rfl) (by kernel_rfl) (by kernel_rfl) (by kernel_rfl) (fun _ _ _ h => h) (Or.inl ⟨by rfl, ?_⟩) (fun _ => by assumption) ?_
            rotate_left
            · intro w hSw
              try dsimp only at hSw
              go_simp
              try with_reducible rfl
            try simp only [Act.put, List.setIfInBounds_toArray, List.set_cons_zero, List.set_cons_succ]
            refine wpAnyG_take (i := 5) (oi := { dst := some 83, op := Op.load 5 (Operand.tmp 82), type := 5, pos := _, after := #[{ on := 4, ground := Ground.data }], guard := none }) (v := ?_) rfl (by kernel_rfl) (by kernel_rfl) (by kernel_rfl) (by kernel_rfl) (fun _ _ _ h => h) (Or.inl ⟨by rfl, ?_⟩) (by assumption) ?_
            rotate_left
            · intro w hSw
              try dsimp only at hSw
              go_simp
              try with_reducible rfl
            try simp only [Act.put, List.setIfInBounds_toArray, List.set_cons_zero, List.set_cons_succ]
            refine wpAnyG_pure (i := 6) (oi := { dst := some 84, op := Op.binOp BinOp.rem 5 (Operand.tmp 83) (Operand.const (Value.int IntKind.u8 4)) 5, type := 5, pos := _, after := #[{ on := 5, ground := Ground.data }], guard := none }) (v := ?_) rfl (by kernel_rfl) (by kernel_rfl) (by kernel_rfl) (by kernel_rfl) (fun _ _ _ h => h) (Or.inl ⟨by rfl, ?_⟩) (fun _ => by assumption) ?_
            rotate_left
            · intro w hSw
              try dsimp only at hSw
              go_simp
              try with_reducible rfl
            try simp only [Act.put, List.setIfInBounds_toArray, List.set_cons_zero, List.set_cons_succ]
            refine wpAnyG_pure (i := 7) (oi := { dst := some 85, op := Op.convert 5 3 (Operand.tmp 84), type := 3, pos := _, after := #[{ on := 6, ground := Ground.data }], guard := none }) (v := ?_) rfl (by kernel_rfl) (by kernel_rfl) (by kernel_rfl) (by kernel_rfl) (fun _ _ _ h => h) (Or.inl ⟨by rfl, ?_⟩) (fun _ => by assumption) ?_
            rotate_left
            · intro w hSw
              try dsimp only at hSw
              go_simp
              try with_reducible rfl
            try simp only [Act.put, List.setIfInBounds_toArray, List.set_cons_zero, List.set_cons_succ]
            refine wpAnyG_pure (i := 8) (oi := { dst := some 86, op := Op.move (Operand.tmp 0), type := 22, pos := _, after := #[], guard := none }) (v := ?_) rfl (by kernel_rfl) (by kernel_rfl) (by kernel_rfl) (by kernel_rfl) (fun _ _ _ h => h) (Or.inl ⟨by rfl, ?_⟩) (fun _ => by assumption) ?_
            rotate_left
            · intro w hSw
              try dsimp only at hSw
              go_simp
              try with_reducible rfl
            try simp only [Act.put, List.setIfInBounds_toArray, List.set_cons_zero, List.set_cons_succ]
            refine wpAnyG_pure (i := 9) (oi := { dst := some 87, op := Op.move (Operand.tmp 9), type := 3, pos := _, after := #[], guard := none }) (v := ?_) rfl (by kernel_rfl) (by kernel_rfl) (by kernel_rfl) (by kernel_rfl) (fun _ _ _ h => h) (Or.inl ⟨by rfl, ?_⟩) (fun _ => by assumption) ?_
            rotate_left
            · intro w hSw
              try dsimp only at hSw
              go_simp
              try with_reducible rfl
            try simp only [Act.put, List.setIfInBounds_toArray, List.set_cons_zero, List.set_cons_succ]
            refine wpAnyG_pure (i := 10) (oi := { dst := some 88, op := Op.indexAddr 22 (Operand.tmp 86) (Operand.tmp 87), type := 0, pos := _, after := #[{ on := 8, ground := Ground.data }, { on := 9, ground := Ground.data }], guard := none }) (v := ?_) rfl (by kernel_rfl) (by kernel_rfl) (by kernel_rfl) (by kernel_rfl) (fun _ _ _ h => h) (Or.inl ⟨by rfl, ?_⟩) (fun _ => by assumption) ?_
            rotate_left
            · intro w hSw
              try dsimp only at hSw
              go_simp
              try with_reducible rfl
            try simp only [Act.put, List.setIfInBounds_toArray, List.set_cons_zero, List.set_cons_succ]
            refine wpAnyG_pure (i := 11) (oi := { dst := some 89, op := Op.fieldAddr 27 (Operand.tmp 88) 1, type := 0, pos := _, after := #[{ on := 10, ground := Ground.data }], guard := none }) (v := ?_) rfl (by kernel_rfl) (by kernel_rfl) (by kernel_rfl) (by kernel_rfl) (fun _ _ _ h => h) (Or.inl ⟨by rfl, ?_⟩) (fun _ => by assumption) ?_
            rotate_left
            · intro w hSw
              try dsimp only at hSw
              go_simp
              try with_reducible rfl
            try simp only [Act.put, List.setIfInBounds_toArray, List.set_cons_zero, List.set_cons_succ]
            refine wpAnyG_take (i := 12) (oi := { dst := some 90, op := Op.load 23 (Operand.tmp 89), type := 23, pos := _, after := #[{ on := 11, ground := Ground.data }], guard := none }) (v := ?_) rfl (by kernel_rfl) (by kernel_rfl) (by kernel_rfl) (by kernel_rfl) (fun _ _ _ h => h) (Or.inl ⟨by rfl, ?_⟩) (by assumption) ?_
            rotate_left
            · intro w hSw
              try dsimp only at hSw
              go_simp
              try with_reducible rfl
            try simp only [Act.put, List.setIfInBounds_toArray, List.set_cons_zero, List.set_cons_succ]
            refine wpAnyG_one (i := 13) (o := { dst := some 91, op := Op.call { callee := Callee.value (Operand.func 23), args := #[Operand.tmp 78, Operand.tmp 85, Operand.tmp 90], argTypes := #[28, 3, 23] }, type := 31, pos := _, after := #[{ on := 0, ground := Ground.data }, { on := 7, ground := Ground.data }, { on := 12, ground := Ground.data }], guard := none }) (by kernel_rfl) rfl (fun K hK => ?_)
            go_simp
            refine HW.out.mono ?_
            rintro e w4 ⟨rfl, h4, f4⟩
            have H4 := Lib.hid h4
            clear h4 f4 HW
            try dsimp only
            refine hK.out _ _ ?_ (fun hHeld => ?_)
            · intro _
              try dsimp only
              exact HCW.out w4 H4.out.below
            clear hK K
            try simp only [Act.put, List.setIfInBounds_toArray, List.set_cons_zero, List.set_cons_succ]
            have hHeld := hHeld (by kernel_rfl)
            refine wpAnyG_pure (i := 14) (oi := { dst := some 92, op := Op.binOp BinOp.neq 31 (Operand.tmp 91) (Operand.const (Value.int IntKind.i64 0)) 31, type := 4, pos := _, after := #[{ on := 13, ground := Ground.data }], guard := none }) (v := ?_) rfl (by kernel_rfl) (by kernel_rfl) (by kernel_rfl) (by kernel_rfl) (fun _ _ _ h => h) (Or.inl ⟨by rfl, ?_⟩) (fun _ => by assumption) ?_
            rotate_left
            · intro w hSw
              try dsimp only at hSw
              go_simp
              try with_reducible rfl
            try simp only [Act.put, List.setIfInBounds_toArray, List.set_cons_zero, List.set_cons_succ]
            refine wpAnyG_pure (i := 15) (oi := { dst := some 93, op := Op.move (Operand.tmp 92), type := 4, pos := _, after := #[{ on := 14, ground := Ground.data }, { on := 13, ground := Ground.chain }], guard := none }) (v := ?_) rfl (by kernel_rfl) (by kernel_rfl) (by kernel_rfl) (by kernel_rfl) (fun _ _ _ h => h) (Or.inl ⟨by rfl, ?_⟩) (fun _ => by assumption) ?_
            rotate_left
            · intro w hSw
              try dsimp only at hSw
              go_simp
              try with_reducible rfl
            try simp only [Act.put, List.setIfInBounds_toArray, List.set_cons_zero, List.set_cons_succ]
            refine wpAnyG_pure (i := 16) (oi := { dst := some 94, op := Op.move (Operand.tmp 5), type := 28, pos := _, after := #[{ on := 15, ground := Ground.guard }], guard := some (15, false) }) (v := ?_) rfl (by kernel_rfl) (by kernel_rfl) (by kernel_rfl) (by kernel_rfl) (fun _ _ _ h => h) (Or.inl ⟨by rfl, ?_⟩) (fun _ => by assumption) ?_
            rotate_left
            · intro w hSw
              try dsimp only at hSw
              go_simp
              try with_reducible rfl
            try simp only [Act.put, List.setIfInBounds_toArray, List.set_cons_zero, List.set_cons_succ]
            refine wpAnyG_one (i := 17) (o := { dst := some 95, op := Op.call { callee := Callee.value (Operand.func 22), args := #[Operand.tmp 94], argTypes := #[28] }, type := 31, pos := _, after := #[{ on := 16, ground := Ground.data }, { on := 15, ground := Ground.chain }, { on := 15, ground := Ground.guard }], guard := some (15, false) }) (by kernel_rfl) rfl (fun K hK => ?_)
            have hy := dsync H4.out (i := 0) rfl (by have := HJ.out.2.1; show s5.steps + 1 + 1 ≤ _; omega)
            rw [On4.sync (by exact ⟨HJ.out.1.1, HJ.out.1.2.1, HJ.out.1.2.2⟩)] at hy
            go_simp
            refine hy.mono ?_
            clear hy
            rintro e w5 ⟨rfl, h5, f5⟩
            have H5 := Lib.hid h5
            clear h5 f5
            try dsimp only
            refine hK.out _ _ ?_ (fun hHeld => ?_)
            · intro _
              try dsimp only
              exact HCW.out w5 H5.out.below
            clear hK K
            try simp only [Act.put, List.setIfInBounds_toArray, List.set_cons_zero, List.set_cons_succ]
            have hHeld := hHeld (by kernel_rfl)
            refine wpAnyG_pure (i := 18) (oi := { dst := some 96, op := Op.binOp BinOp.neq 31 (Operand.tmp 95) (Operand.const (Value.int IntKind.i64 0)) 31, type := 4, pos := _, after := #[{ on := 17, ground := Ground.data }, { on := 15, ground := Ground.guard }], guard := some (15, false) }) (v := ?_) rfl (by kernel_rfl) (by kernel_rfl) (by kernel_rfl) (by kernel_rfl) (fun _ _ _ h => h) (Or.inl ⟨by rfl, ?_⟩) (fun _ => by assumption) ?_
            rotate_left
            · intro w hSw
              try dsimp only at hSw
              go_simp
              try with_reducible rfl
            try simp only [Act.put, List.setIfInBounds_toArray, List.set_cons_zero, List.set_cons_succ]
            refine wpAnyG_pure (i := 19) (oi := { dst := some 97, op := Op.pick (Operand.tmp 93) (Operand.const (Value.bool true)) (Operand.tmp 96), type := 4, pos := _, after := #[{ on := 15, ground := Ground.data }, { on := 18, ground := Ground.data }], guard := none }) (v := ?_) rfl (by kernel_rfl) (by kernel_rfl) (by kernel_rfl) (by kernel_rfl) (fun _ _ _ h => h) (Or.inl ⟨by rfl, ?_⟩) (fun _ => by assumption) ?_
            rotate_left
            · intro w hSw
              try dsimp only at hSw
              go_simp
              try with_reducible rfl
            try simp only [Act.put, List.setIfInBounds_toArray, List.set_cons_zero, List.set_cons_succ]
            refine wpAnyG_done (by kernel_rfl) ?_ _
            refine NoPanic.normal ?_
            --END fl21
            go_wp2_with fail
            go_roundw
            case rel =>
              refine ⟨j + 1, _, rfl, hjn, ?_, H5.out⟩
              exact ⟨⟨HJ.out.1.1, HJ.out.1.2.1, HJ.out.1.2.2⟩, (by have := HJ.out.2.1; show s5.steps + 1 + 1 ≤ _; omega), fun _ => rfl⟩
            case measure => simp [intOf]; omega
          · obtain rfl : n = j := by omega
            have HO := Lib.hid (doff H3.out (i := 0) rfl)
            have HP := Lib.hid (dopen H3.out (i := 0) rfl)
            rw [HJ.out.1.2.1] at HO
            rw [HJ.out.2.2 (by omega)] at HP
            go_wp2_with fail
            refine HO.out.mono ?_
            rintro e w' ⟨rfl, rfl⟩
            go_wp2_with fail
            refine HP.out.mono ?_
            rintro e w' ⟨rfl, rfl⟩
            go_wp2_with fail
            refine (works_any w6).mono ?_
            rintro e w9 ⟨rfl, hb⟩
            have H9 := Lib.hid (next H3.out.below hb)
            clear hb
            go_wp2_with fail
            go_ret
            exact ⟨rfl, H9.out⟩
end Go.Proofs.Ytjpelifafmkdpaa.DkW
