/- The document's disk: On. -/
import Derived.Test.YtjpelifafmkdpaaDkRef3
namespace Go.Proofs.Ytjpelifafmkdpaa.DkW
open Go.RowKit Go.Shelf Mem Rng
set_option linter.unusedVariables false

/-- A block's late writes settled by their fates. -/
def fateL (fates : List UInt8) (S0 : List UInt8) (l : List (Nat × List UInt8)) : List UInt8 := l.foldl (fun s x => x.2.take (reach fates x.1) ++ s.drop (reach fates x.1)) S0
theorem fateL_snoc (fates S0 : List UInt8) (l : List (Nat × List UInt8)) (x : Nat × List UInt8) : fateL fates S0 (l ++ [x]) = x.2.take (reach fates x.1) ++ (fateL fates S0 l).drop (reach fates x.1) := by
  unfold fateL; rw [List.foldl_append]; rfl
theorem fateL_len {fates : List UInt8} : ∀ {l : List (Nat × List UInt8)} {S0 : List UInt8}, S0.length = 256 → (∀ x ∈ l, x.2.length = 256) → (fateL fates S0 l).length = 256
  | [], _, h, _ => h
  | x :: r, S0, h, hl => by
    refine fateL_len (l := r) (S0 := x.2.take (reach fates x.1) ++ S0.drop (reach fates x.1)) ?_ fun y hy => hl y (List.mem_cons_of_mem _ hy)
    have := reach_le fates x.1
    rw [List.length_append, List.length_take, List.length_drop, hl x (List.mem_cons_self ..), h]; omega
theorem fated_is (fates : List UInt8) (i : Int) : ∀ (L : List (Int × List UInt8)) (k : Nat) (S : Int → List UInt8), fated fates k L S i = fateL fates (S i) (latesAt k L i)
  | [], _, _ => rfl
  | (j, b) :: r, k, S => by
    show fated fates (k + 1) r _ i = fateL fates (S i) (if j = i then (k, b) :: latesAt (k + 1) r i else latesAt (k + 1) r i)
    rw [fated_is fates i r (k + 1)]
    by_cases h : j = i
    · subst h
      rw [if_pos rfl]
      unfold upd
      rw [if_pos rfl]; rfl
    · rw [if_neg h]
      unfold upd
      rw [if_neg (fun e => h e.symm)]
/-- The blocks of which i are settled by the fates. -/
def fOn (s : DS) (fates : List UInt8) (i : Nat) : Nat → RB := fun k => if k < i then (fateL fates (s.S (k : Int)) (latesAt 0 s.L (k : Int)), []) else fOf s k
theorem fOn_zero (s : DS) (fates : List UInt8) : fOn s fates 0 = fOf s := by funext k; unfold fOn; rw [if_neg (by omega)]
theorem fOn_next {s : DS} {fates : List UInt8} {i : Nat} : setF (fOn s fates i) i (fateL fates (s.S (i : Int)) (latesAt 0 s.L (i : Int)), []) = fOn s fates (i + 1) := by
  funext k
  unfold setF fOn
  by_cases hki : k = i
  · subst hki; rw [if_pos rfl, if_pos (by omega)]
  · rw [if_neg hki]
    by_cases hk : k < i
    · rw [if_pos hk, if_pos (by omega)]
    · rw [if_neg hk, if_neg (by omega)]
theorem extract_take (l : List UInt8) (k : Nat) : (str l).extract 0 k = str (l.take k) := by
  rw [show str l = ByteArray.mk l.toArray from rfl]
  apply ByteArray.ext
  apply Array.ext'
  simp [str]
theorem extract_drop (l : List UInt8) (k : Nat) : (str l).extract k (str l).size = str (l.drop k) := by
  rw [show str l = ByteArray.mk l.toArray from rfl]
  apply ByteArray.ext
  apply Array.ext'
  simp [str]
  exact List.take_of_length_le (by rw [List.length_drop]; exact Nat.le_refl _)
theorem str_app (a b : List UInt8) : str a ++ str b = str (a ++ b) := by
  apply ByteArray.ext
  apply Array.ext'
  simp [str]
theorem str_take (w : World) (l : List UInt8) (k : Nat) (hk : k ≤ l.length) : (Instr.slice 9 (.string (str l)) none (some (.int .i64 (k : Int))) none).run Try.prog w = .ok (.string (str (l.take k))) w := by
  rw [run_slice_string_h (P := Try.prog) (w := w) 9 (str l) Try.underlying9 .i64 (k : Int) (by omega) (by rw [str_size]; omega), Int.toNat_natCast, extract_take]
theorem str_drop (w : World) (l : List UInt8) (k : Nat) (hk : k ≤ l.length) : (Instr.slice 9 (.string (str l)) (some (.int .i64 (k : Int))) none none).run Try.prog w = .ok (.string (str (l.drop k))) w := by
  rw [run_slice_string_l (P := Try.prog) (w := w) 9 (str l) Try.underlying9 .i64 (k : Int) (by omega) (by rw [str_size]; omega), Int.toNat_natCast, extract_drop]
section
variable {G : Nat → Prop} {q : Nat} {s : DS} {w w' : World}
theorem Tidy.on (h : Tidy s) (fates : List UInt8) : Tidy (s.on fates) := by
  unfold DS.on
  have hl : ∀ i, (fated fates 0 s.L s.S i).length = 256 := fated_len fates s.L 0 s.S (fun x hx => (h.lates x hx).2.2) h.settled
  split
  · exact ⟨fun x hx => (by cases hx), hl, fun i => rfl, Nat.zero_le _⟩
  · exact ⟨h.lates, h.settled, h.now, h.few⟩
theorem fOn_all {fates : List UInt8} {k : Nat} (hk : k < s.n) (ho : s.off = true) : fOn s fates s.n k = fOf (s.on fates) k := by
  unfold fOn DS.on fOf
  rw [if_pos hk, if_pos ho]
  dsimp only
  rw [fated_is]; rfl
set_option maxRecDepth 100000 in
set_option maxHeartbeats 8000000 in
theorem ron_any (h : RdS G q s w) (B : Nat) (A : Option Addr) (fates : List UInt8) (m c : Nat) (hm : fates.length = m) (hA : Bytes w B A fates) (hB : B ≤ w.heap.size) (hBG : ∀ k, G k → B ≤ k) : Calls Try.prog 41 #[.pointer (some ⟨q, 0, none⟩), .slice A m c] w (RdOk w G q (s.on fates) (.tuple #[])) := by
  obtain ⟨A0, c0, hd⟩ := h.1
  have HT := Lib.hid h.2
  have HTO := Lib.hid (h.2.on fates)
  have z2 := hd.blk.frozen 2
  have k2 := hd.cells.2.2.1
  have hb := hd.blk.set_ 2 (.int .i64 (-1))
  have k3 : (w.setCell ⟨q, 2, none⟩ (.int .i64 (-1))).cell? ⟨q, 3, none⟩ = some (.bool s.off) := hb.cell 3
  have z3 := hb.frozen 3
  have hf : Fr (fun k => k = q) w (w.setCell ⟨q, 2, none⟩ (.int .i64 (-1))) := (Fr.refl (fun k => k = q) w).setCell (p := ⟨q, 2, none⟩) (fun _ => rfl) _
  obtain ⟨b, hb0⟩ : ∃ b, s.off = b := ⟨_, rfl⟩
  rw [hb0] at k3
  cases b with
  | false =>
    have HO := Lib.hid (show s.on fates = { s with well := -1 } from by unfold DS.on; rw [if_neg (by rw [hb0]; decide)])
    have H1 := Lib.hid (show RdA G q s.n (fOf s) s.steps (-1) s.off (w.setCell ⟨q, 2, none⟩ (.int .i64 (-1))) ∧ Fr G w (w.setCell ⟨q, 2, none⟩ (.int .i64 (-1))) from ⟨⟨A0, c0, hd.turn hf hb hd.bound.2.1 ⟨by decide, by decide⟩⟩, hf.mono fun k _ e => by rw [e]; exact hd.foot⟩)
    clear hd h hb z3 hf hA hm hB hBG hb0
    go_enter Try.func41, Try.ntmps41
    go_wp2_with fail
    go_end0
    have ht := HTO.out
    rw [HO.out] at ht ⊢
    exact ⟨rfl, G, ⟨H1.out.1, ht⟩, fun _ h => .inl h, H1.out.2⟩
  | true =>
    have HO := Lib.hid hb0
    have hb2 := hb.set_ 3 (.bool false)
    have hf2 := hf.setCell (p := ⟨q, 3, none⟩) (fun _ => rfl) (.bool false)
    have H1 := Lib.hid (show RdA G q s.n (fOn s fates 0) s.steps (-1) false ((w.setCell ⟨q, 2, none⟩ (.int .i64 (-1))).setCell ⟨q, 3, none⟩ (.bool false)) ∧ Fr G w ((w.setCell ⟨q, 2, none⟩ (.int .i64 (-1))).setCell ⟨q, 3, none⟩ (.bool false)) from by
      rw [fOn_zero]
      exact ⟨⟨A0, c0, hd.turn hf2 hb2 hd.bound.2.1 ⟨by decide, by decide⟩⟩, hf2.mono fun k _ e => by rw [e]; exact hd.foot⟩)
    have HA := Lib.hid (And.intro hm (And.intro hA (And.intro hB hBG)))
    clear hd h hb hf hA hm hB hBG hb0 hb2 hf2
    go_enter Try.func41, Try.ntmps41
    go_wp2_with fail
    go_loopw [4] (fun i wr => ∃ k : Nat, i = .int .i64 (k : Int) ∧ k ≤ s.n ∧ RdA G q s.n (fOn s fates k) s.steps (-1) false wr ∧ Fr G w wr) (fun i _ => s.n - (intOf i).toNat)
    case atStart => exact ⟨0, rfl, Nat.zero_le _, H1.out⟩
    case round =>
      obtain ⟨k, rfl, hk, h2, f2⟩ := hrel
      clear H1 z2 z3 k2 k3
      obtain ⟨w2, rfl⟩ : ∃ w2 : World, w2 = wr := ⟨_, rfl⟩
      obtain ⟨A2, c2, hd⟩ := h2
      have hc0 := hd.cells.1
      have HF := Lib.hid f2
      have hn4 : (s.n : Int) ≤ 4096 := by have := hd.bound.1; omega
      have hk0 : (0 : Int) ≤ (k : Int) := by omega
      clear f2
      by_cases hkn : k < s.n
      · obtain ⟨g, D, d, rfl, hcs, hc, hl, hgG, hgq⟩ := hd.at_ hkn
        have hk1 : (k : Int) < (s.n : Int) := by omega
        have hfk : fOn s fates k k = (s.S (k : Int), latesAt 0 s.L (k : Int)) := by unfold fOn fOf; rw [if_neg (by omega)]
        rw [hfk] at hc hl hcs
        dsimp only at hc hl hcs
        obtain ⟨ls, hls⟩ : ∃ ls, latesAt 0 s.L (k : Int) = ls := ⟨_, rfl⟩
        obtain ⟨S0, hS0⟩ : ∃ S0, s.S (k : Int) = S0 := ⟨_, rfl⟩
        have HLS := Lib.hid (show S0.length = 256 ∧ (∀ x ∈ ls, x.2.length = 256) ∧ ls.length ≤ 256 ^ 3 ∧ setF (fOn s fates k) k (fateL fates S0 ls, []) = fOn s fates (k + 1) from
          ⟨by rw [← hS0]; exact HT.out.settled _, by rw [← hls]; exact fun x hx => (HT.out.lates _ ((latesAt_mem _ _ _ x hx).2.2)).2.2, by have := hd.bound.2.2.2.2 k hkn; rw [hfk] at this; rw [← hls]; exact this, by rw [← hls, ← hS0]; exact fOn_next⟩)
        rw [hls] at hc hl
        rw [hS0] at hcs
        obtain ⟨m2, hm2⟩ : ∃ m2, ls.length = m2 := ⟨_, rfl⟩
        have hm3 : (m2 : Int) ≤ 256 ^ 3 := by have := HLS.out.2.2.1; omega
        rw [hm2] at hc
        obtain ⟨v0, hv0⟩ : ∃ v0, str S0 = v0 := ⟨_, rfl⟩
        rw [hv0] at hcs
        have HD := Lib.hid (And.intro hd hl)
        have HV := Lib.hid (And.intro hv0 hm2)
        clear hd hl hfk hls hS0 hm2 hv0
        go_wp2_with fail
        go_loopw [6] (fun i wr => ∃ j : Nat, i = .int .i64 (j : Int) ∧ j ≤ m2 ∧ Blk wr w2.heap.size 71 #[.string (str (fateL fates S0 (ls.take j))), .slice D m2 d] ∧ Fr (fun x => x = w2.heap.size) w2 wr) (fun i _ => m2 - (intOf i).toNat)
        case atStart => exact ⟨0, rfl, Nat.zero_le _, by rw [List.take_zero]; show Blk _ _ _ #[.string (str S0), _]; rw [HV.out.1]; exact Blk.new w2 _ _, (Fr.refl _ w2).alloc _⟩
        case round =>
          obtain ⟨j, rfl, hj, hbx, f3⟩ := hrel
          obtain ⟨w3, rfl⟩ : ∃ w3 : World, w3 = wr := ⟨_, rfl⟩
          obtain ⟨cur, hcur⟩ : ∃ cur, fateL fates S0 (ls.take j) = cur := ⟨_, rfl⟩
          rw [hcur] at hbx
          have hcl : cur.length = 256 := by rw [← hcur]; exact fateL_len HLS.out.1 fun x hx => HLS.out.2.1 x (List.mem_of_mem_take hx)
          have hG3 : ∀ x, G x → ¬ (x = w2.heap.size) := fun x hx e => by have := HD.out.1.lt x hx; omega
          have hd3 := HD.out.1.fr f3 hG3
          have hb1 : w3.cell? ⟨w2.heap.size, 1, none⟩ = some (.slice D m2 d) := hbx.cell 1
          have HB := Lib.hid hbx
          have HF3 := Lib.hid f3
          by_cases hjm : j < m2
          · obtain ⟨⟨no, b⟩, hx⟩ : ∃ x, ls[j]? = some x := ⟨ls[j]'(by rw [HV.out.2]; exact hjm), List.getElem?_eq_getElem _⟩
            obtain ⟨g2, rfl, hg2G, hx0, hx1⟩ := HD.out.2.at_ hx
            have hbl : b.length = 256 := HLS.out.2.1 _ (List.mem_of_getElem? hx)
            have hg2 : ¬ (g2 = w2.heap.size) := hG3 g2 hg2G
            have hx0 := cellFr f3 hx0 hg2
            have hx1 := cellFr f3 hx1 hg2
            dsimp only at hx0 hx1
            have HR := Lib.hid (reaches_any w3 B no m c A fates HA.out.1 ((HA.out.2.1.fr HA.out.2.2.1 HF.out (fun y hy hG => by have := HA.out.2.2.2 y hG; omega)).fr (Nat.le_trans HA.out.2.2.1 HF.out.size) f3 (fun y hy e => by have h1 := HA.out.2.2.1; have h2 := HF.out.size; omega)))
            obtain ⟨R, hR⟩ : ∃ R, reach fates no = R := ⟨_, rfl⟩
            have hRl : R ≤ 256 := by rw [← hR]; exact reach_le _ _
            have HN := Lib.hid (show b.take R ++ cur.drop R = fateL fates S0 (ls.take (j + 1)) from by rw [take_snoc hx, fateL_snoc, hcur, hR])
            rw [hR] at HR
            have hs1 := fun w => str_take w b R (by omega)
            have hs2 := fun w => str_drop w cur R (by omega)
            have hs3 := str_app (b.take R) (cur.drop R)
            rw [HN.out] at hs3
            have hb0 : w3.cell? ⟨w2.heap.size, 0, none⟩ = some (.string (str cur)) := hbx.cell 0
            obtain ⟨v1, hv1⟩ : ∃ v1, str cur = v1 := ⟨_, rfl⟩
            obtain ⟨v2, hv2⟩ : ∃ v2, str b = v2 := ⟨_, rfl⟩
            obtain ⟨v3, hv3⟩ : ∃ v3, str (b.take R) = v3 := ⟨_, rfl⟩
            obtain ⟨v4, hv4⟩ : ∃ v4, str (cur.drop R) = v4 := ⟨_, rfl⟩
            obtain ⟨v5, hv5⟩ : ∃ v5, str (fateL fates S0 (ls.take (j + 1))) = v5 := ⟨_, rfl⟩
            rw [hv2, hv3] at hs1
            rw [hv1, hv4] at hs2
            rw [hv3, hv4, hv5] at hs3
            rw [hv2] at hx1
            rw [hv1] at hb0
            have hsz : ¬ 9223372036854775807 < v3.size + v4.size := by rw [← hv3, ← hv4, str_size, str_size, List.length_take, List.length_drop]; omega
            have HV5 := Lib.hid (And.intro hv1 (And.intro hv5 hs3))
            have hR0 : (0 : Int) ≤ (R : Int) := by omega
            have hj0 : (0 : Int) ≤ (j : Int) := by omega
            have hj1 : (j : Int) < (m2 : Int) := by omega
            have HT3 := Lib.hid (show w3.drew.cell? ⟨w2.heap.size, 0, none⟩ = some (.string v1) ∧ w3.drew.cell? ⟨w2.heap.size, 1, none⟩ = some (.slice (some ⟨g2, 0, none⟩) m2 d) ∧ w3.drew.cell? ⟨g2, j * 2 + 1, none⟩ = some (.string v2) from ⟨hb0, hb1, hx1⟩)
            clear hbx f3 hcur hcl hG3 hd3 hx hbl hg2 hR hv1 hv2 hv3 hv4 hv5 hb0 hx1
            go_wp2_with fail
            refine HR.out.mono ?_
            rintro e w' ⟨rfl, rfl⟩
            go_wp2_with fail
            --HELD ro11
            refine wp_region_noPanic ?_
            refine wp_heldG (fun w' => w'.cell? ⟨w2.heap.size, 0, none⟩ = some (.string v1) ∧ w'.cell? ⟨w2.heap.size, 1, none⟩ = some (.slice (some ⟨g2, 0, none⟩) m2 d) ∧ w'.cell? ⟨g2, j * 2 + 1, none⟩ = some (.string v2)) [14] (by kernel_rfl) ?hs0 ?rg0
            case hs0 =>
              exact HT3.out
            case rg0 =>
            intro hHeld
            refine wpAnyG_pure (i := 0) (oi := { dst := some 50, op := Op.fieldAddr 71 (Operand.tmp 5) 1, type := 0, pos := _, after := #[], guard := none }) (v := ?_) rfl (by kernel_rfl) (by kernel_rfl) (by kernel_rfl) (by kernel_rfl) (fun _ _ _ h => h) (Or.inl ⟨by rfl, ?_⟩) (fun _ => by assumption) ?_
            rotate_left
            · intro w hSw
              try dsimp only at hSw
              go_simp
              try with_reducible rfl
            try simp only [Act.put, List.setIfInBounds_toArray, List.set_cons_zero, List.set_cons_succ]
            refine wpAnyG_take (i := 1) (oi := { dst := some 51, op := Op.load 69 (Operand.tmp 50), type := 69, pos := _, after := #[{ on := 0, ground := Ground.data }], guard := none }) (v := ?_) rfl (by kernel_rfl) (by kernel_rfl) (by kernel_rfl) (by kernel_rfl) (fun _ _ _ h => h) (Or.inl ⟨by rfl, ?_⟩) (by assumption) ?_
            rotate_left
            · intro w hSw
              try dsimp only at hSw
              go_simp
              try with_reducible rfl
            try simp only [Act.put, List.setIfInBounds_toArray, List.set_cons_zero, List.set_cons_succ]
            refine wpAnyG_pure (i := 2) (oi := { dst := some 52, op := Op.move (Operand.tmp 6), type := 3, pos := _, after := #[], guard := none }) (v := ?_) rfl (by kernel_rfl) (by kernel_rfl) (by kernel_rfl) (by kernel_rfl) (fun _ _ _ h => h) (Or.inl ⟨by rfl, ?_⟩) (fun _ => by assumption) ?_
            rotate_left
            · intro w hSw
              try dsimp only at hSw
              go_simp
              try with_reducible rfl
            try simp only [Act.put, List.setIfInBounds_toArray, List.set_cons_zero, List.set_cons_succ]
            refine wpAnyG_pure (i := 3) (oi := { dst := some 53, op := Op.indexAddr 69 (Operand.tmp 51) (Operand.tmp 52), type := 0, pos := _, after := #[{ on := 1, ground := Ground.data }, { on := 2, ground := Ground.data }], guard := none }) (v := ?_) rfl (by kernel_rfl) (by kernel_rfl) (by kernel_rfl) (by kernel_rfl) (fun _ _ _ h => h) (Or.inl ⟨by rfl, ?_⟩) (fun _ => by assumption) ?_
            rotate_left
            · intro w hSw
              try dsimp only at hSw
              go_simp
              try with_reducible rfl
            try simp only [Act.put, List.setIfInBounds_toArray, List.set_cons_zero, List.set_cons_succ]
            refine wpAnyG_pure (i := 4) (oi := { dst := some 54, op := Op.fieldAddr 78 (Operand.tmp 53) 1, type := 0, pos := _, after := #[{ on := 3, ground := Ground.data }], guard := none }) (v := ?_) rfl (by kernel_rfl) (by kernel_rfl) (by kernel_rfl) (by kernel_rfl) (fun _ _ _ h => h) (Or.inl ⟨by rfl, ?_⟩) (fun _ => by assumption) ?_
            rotate_left
            · intro w hSw
              try dsimp only at hSw
              go_simp
              try with_reducible rfl
            try simp only [Act.put, List.setIfInBounds_toArray, List.set_cons_zero, List.set_cons_succ]
            refine wpAnyG_take (i := 5) (oi := { dst := some 55, op := Op.load 9 (Operand.tmp 54), type := 9, pos := _, after := #[{ on := 4, ground := Ground.data }], guard := none }) (v := ?_) rfl (by kernel_rfl) (by kernel_rfl) (by kernel_rfl) (by kernel_rfl) (fun _ _ _ h => h) (Or.inl ⟨by rfl, ?_⟩) (by assumption) ?_
            rotate_left
            · intro w hSw
              try dsimp only at hSw
              go_simp
              try with_reducible rfl
            try simp only [Act.put, List.setIfInBounds_toArray, List.set_cons_zero, List.set_cons_succ]
            refine wpAnyG_pure (i := 6) (oi := { dst := some 56, op := Op.move (Operand.tmp 7), type := 3, pos := _, after := #[], guard := none }) (v := ?_) rfl (by kernel_rfl) (by kernel_rfl) (by kernel_rfl) (by kernel_rfl) (fun _ _ _ h => h) (Or.inl ⟨by rfl, ?_⟩) (fun _ => by assumption) ?_
            rotate_left
            · intro w hSw
              try dsimp only at hSw
              go_simp
              try with_reducible rfl
            try simp only [Act.put, List.setIfInBounds_toArray, List.set_cons_zero, List.set_cons_succ]
            refine wpAnyG_pure (i := 7) (oi := { dst := some 57, op := Op.slice 9 (Operand.tmp 55) none (some (Operand.tmp 56)) none, type := 9, pos := _, after := #[{ on := 5, ground := Ground.data }, { on := 6, ground := Ground.data }], guard := none }) (v := ?_) rfl (by kernel_rfl) (by kernel_rfl) (by kernel_rfl) (by kernel_rfl) (fun _ _ _ h => h) (Or.inl ⟨by rfl, ?_⟩) (fun _ => by assumption) ?_
            rotate_left
            · intro w hSw
              try dsimp only at hSw
              go_simp
              try with_reducible rfl
            try simp only [Act.put, List.setIfInBounds_toArray, List.set_cons_zero, List.set_cons_succ]
            refine wpAnyG_pure (i := 8) (oi := { dst := some 58, op := Op.fieldAddr 71 (Operand.tmp 5) 0, type := 0, pos := _, after := #[], guard := none }) (v := ?_) rfl (by kernel_rfl) (by kernel_rfl) (by kernel_rfl) (by kernel_rfl) (fun _ _ _ h => h) (Or.inl ⟨by rfl, ?_⟩) (fun _ => by assumption) ?_
            rotate_left
            · intro w hSw
              try dsimp only at hSw
              go_simp
              try with_reducible rfl
            try simp only [Act.put, List.setIfInBounds_toArray, List.set_cons_zero, List.set_cons_succ]
            refine wpAnyG_take (i := 9) (oi := { dst := some 59, op := Op.load 9 (Operand.tmp 58), type := 9, pos := _, after := #[{ on := 8, ground := Ground.data }], guard := none }) (v := ?_) rfl (by kernel_rfl) (by kernel_rfl) (by kernel_rfl) (by kernel_rfl) (fun _ _ _ h => h) (Or.inl ⟨by rfl, ?_⟩) (by assumption) ?_
            rotate_left
            · intro w hSw
              try dsimp only at hSw
              go_simp
              try with_reducible rfl
            try simp only [Act.put, List.setIfInBounds_toArray, List.set_cons_zero, List.set_cons_succ]
            refine wpAnyG_pure (i := 10) (oi := { dst := some 60, op := Op.move (Operand.tmp 7), type := 3, pos := _, after := #[], guard := none }) (v := ?_) rfl (by kernel_rfl) (by kernel_rfl) (by kernel_rfl) (by kernel_rfl) (fun _ _ _ h => h) (Or.inl ⟨by rfl, ?_⟩) (fun _ => by assumption) ?_
            rotate_left
            · intro w hSw
              try dsimp only at hSw
              go_simp
              try with_reducible rfl
            try simp only [Act.put, List.setIfInBounds_toArray, List.set_cons_zero, List.set_cons_succ]
            refine wpAnyG_pure (i := 11) (oi := { dst := some 61, op := Op.slice 9 (Operand.tmp 59) (some (Operand.tmp 60)) none none, type := 9, pos := _, after := #[{ on := 9, ground := Ground.data }, { on := 10, ground := Ground.data }], guard := none }) (v := ?_) rfl (by kernel_rfl) (by kernel_rfl) (by kernel_rfl) (by kernel_rfl) (fun _ _ _ h => h) (Or.inl ⟨by rfl, ?_⟩) (fun _ => by assumption) ?_
            rotate_left
            · intro w hSw
              try dsimp only at hSw
              go_simp
              try with_reducible rfl
            try simp only [Act.put, List.setIfInBounds_toArray, List.set_cons_zero, List.set_cons_succ]
            refine wpAnyG_pure (i := 12) (oi := { dst := some 62, op := Op.binOp BinOp.add 9 (Operand.tmp 57) (Operand.tmp 61) 9, type := 9, pos := _, after := #[{ on := 7, ground := Ground.data }, { on := 11, ground := Ground.data }], guard := none }) (v := ?_) rfl (by kernel_rfl) (by kernel_rfl) (by kernel_rfl) (by kernel_rfl) (fun _ _ _ h => h) (Or.inl ⟨by rfl, ?_⟩) (fun _ => by assumption) ?_
            rotate_left
            · intro w hSw
              try dsimp only at hSw
              go_simp
              try with_reducible rfl
            try simp only [Act.put, List.setIfInBounds_toArray, List.set_cons_zero, List.set_cons_succ]
            refine wpAnyG_pure (i := 13) (oi := { dst := some 63, op := Op.fieldAddr 71 (Operand.tmp 5) 0, type := 0, pos := _, after := #[{ on := 0, ground := Ground.phase }, { on := 1, ground := Ground.phase }, { on := 2, ground := Ground.phase }, { on := 3, ground := Ground.phase }, { on := 4, ground := Ground.phase }, { on := 5, ground := Ground.phase }, { on := 6, ground := Ground.phase }, { on := 7, ground := Ground.phase }, { on := 8, ground := Ground.phase }, { on := 9, ground := Ground.phase }, { on := 10, ground := Ground.phase }, { on := 11, ground := Ground.phase }, { on := 12, ground := Ground.phase }], guard := none }) (v := ?_) rfl (by kernel_rfl) (by kernel_rfl) (by kernel_rfl) (by kernel_rfl) (fun _ _ _ h => h) (Or.inl ⟨by rfl, ?_⟩) (fun _ => by assumption) ?_
            rotate_left
            · intro w hSw
              try dsimp only at hSw
              go_simp
              try with_reducible rfl
            try simp only [Act.put, List.setIfInBounds_toArray, List.set_cons_zero, List.set_cons_succ]
            refine wpAnyG_one (i := 14) (o := { dst := none, op := Op.store 9 (Operand.tmp 63) (Operand.tmp 62), type := 0, pos := _, after := #[{ on := 13, ground := Ground.data }, { on := 12, ground := Ground.data }, { on := 0, ground := Ground.phase }, { on := 1, ground := Ground.phase }, { on := 2, ground := Ground.phase }, { on := 3, ground := Ground.phase }, { on := 4, ground := Ground.phase }, { on := 5, ground := Ground.phase }, { on := 6, ground := Ground.phase }, { on := 7, ground := Ground.phase }, { on := 8, ground := Ground.phase }, { on := 9, ground := Ground.phase }, { on := 10, ground := Ground.phase }, { on := 11, ground := Ground.phase }, { on := 12, ground := Ground.phase }], guard := none }) (by kernel_rfl) rfl (fun K hK => ?_)
            have z9 := (show Blk w3.drew _ _ _ from HB.out).frozen 0
            have cc9 := HT3.out.1
            go_simp
            clear z9 cc9
            try dsimp only
            refine hK.out _ _ ?_ (fun hHeld => ?_)
            · exact fun h => (st_no (by kernel_rfl) h).elim
            clear hK K
            try simp only [Act.put, List.setIfInBounds_toArray, List.set_cons_zero, List.set_cons_succ]
            clear hHeld
            refine wpAnyG_done (by kernel_rfl) ?_ _
            refine NoPanic.normal ?_
            --END ro11
            go_wp2_with fail
            go_roundw
            case rel =>
              refine ⟨j + 1, rfl, hjm, ?_, (HF3.out.drew).setCell (p := ⟨w2.heap.size, 0, none⟩) (fun _ => rfl) _⟩
              have := (show Blk w3.drew _ _ _ from HB.out).set_ 0 (.string v5)
              rw [HV5.out.2.1]
              exact this
            case measure => simp [intOf]; omega
          · obtain rfl : m2 = j := by omega
            rw [← HV.out.2, List.take_length] at hcur
            have hb0 : w3.cell? ⟨w2.heap.size, 0, none⟩ = some (.string (str cur)) := hbx.cell 0
            have hsb := (show Rd G q _ s.n c2 (fOn s fates k) s.steps (-1) false w3.drew from hd3.keep (nextN (Mem.start w3) 1)).setB hkn cur (d := d)
            have hsp := (show Rd G q _ s.n c2 (fOn s fates k) s.steps (-1) false w3.drew from hd3.keep (nextN (Mem.start w3) 1)).spare hkn
            rw [show setF (fOn s fates k) k (cur, []) = fOn s fates (k + 1) from by rw [← hcur]; exact HLS.out.2.2.2] at hsb
            obtain ⟨v, hv⟩ : ∃ v, str cur = v := ⟨_, rfl⟩
            rw [hv] at hsb hb0
            have HSB := Lib.hid hsb
            have HSP := Lib.hid hsp
            have HF4 := Lib.hid (show Fr G w w3 from fr_comp HF.out f3 (fun x hx => .inr (by have := HF.out.size; omega)))
            have hc3 := hd3.cells.1
            have HT4 := Lib.hid (show w3.drew.cell? ⟨q, 0, none⟩ = some (.slice (some ⟨g, 0, none⟩) s.n c2) ∧ w3.drew.cell? ⟨w2.heap.size, 0, none⟩ = some (.string v) from ⟨hc3, hb0⟩)
            clear hbx f3 hcur hcl hG3 hd3 hsb hsp hv hb0 hc3
            go_wp2_with fail
            --HELD ro12
            refine wp_region_noPanic ?_
            refine wp_heldG (fun w' => w'.cell? ⟨q, 0, none⟩ = some (.slice (some ⟨g, 0, none⟩) s.n c2) ∧ w'.cell? ⟨w2.heap.size, 0, none⟩ = some (.string v)) [9] (by kernel_rfl) ?hs0 ?rg0
            case hs0 =>
              exact HT4.out
            case rg0 =>
            intro hHeld
            refine wpAnyG_pure (i := 0) (oi := { dst := some 64, op := Op.move (Operand.tmp 0), type := 49, pos := _, after := #[], guard := none }) (v := ?_) rfl (by kernel_rfl) (by kernel_rfl) (by kernel_rfl) (by kernel_rfl) (fun _ _ _ h => h) (Or.inl ⟨by rfl, ?_⟩) (fun _ => by assumption) ?_
            rotate_left
            · intro w hSw
              try dsimp only at hSw
              go_simp
              try with_reducible rfl
            try simp only [Act.put, List.setIfInBounds_toArray, List.set_cons_zero, List.set_cons_succ]
            refine wpAnyG_pure (i := 1) (oi := { dst := some 65, op := Op.nilCheck (Operand.tmp 64), type := 0, pos := _, after := #[{ on := 0, ground := Ground.data }], guard := none }) (v := ?_) rfl (by kernel_rfl) (by kernel_rfl) (by kernel_rfl) (by kernel_rfl) (fun _ _ _ h => h) (Or.inl ⟨by rfl, ?_⟩) (fun _ => by assumption) ?_
            rotate_left
            · intro w hSw
              try dsimp only at hSw
              go_simp
              try with_reducible rfl
            try simp only [Act.put, List.setIfInBounds_toArray, List.set_cons_zero, List.set_cons_succ]
            refine wpAnyG_pure (i := 2) (oi := { dst := some 66, op := Op.fieldAddr 56 (Operand.tmp 65) 0, type := 0, pos := _, after := #[{ on := 1, ground := Ground.data }], guard := none }) (v := ?_) rfl (by kernel_rfl) (by kernel_rfl) (by kernel_rfl) (by kernel_rfl) (fun _ _ _ h => h) (Or.inl ⟨by rfl, ?_⟩) (fun _ => by assumption) ?_
            rotate_left
            · intro w hSw
              try dsimp only at hSw
              go_simp
              try with_reducible rfl
            try simp only [Act.put, List.setIfInBounds_toArray, List.set_cons_zero, List.set_cons_succ]
            refine wpAnyG_take (i := 3) (oi := { dst := some 67, op := Op.load 54 (Operand.tmp 66), type := 54, pos := _, after := #[{ on := 2, ground := Ground.data }], guard := none }) (v := ?_) rfl (by kernel_rfl) (by kernel_rfl) (by kernel_rfl) (by kernel_rfl) (fun _ _ _ h => h) (Or.inl ⟨by rfl, ?_⟩) (by assumption) ?_
            rotate_left
            · intro w hSw
              try dsimp only at hSw
              go_simp
              try with_reducible rfl
            try simp only [Act.put, List.setIfInBounds_toArray, List.set_cons_zero, List.set_cons_succ]
            refine wpAnyG_pure (i := 4) (oi := { dst := some 68, op := Op.move (Operand.tmp 4), type := 3, pos := _, after := #[], guard := none }) (v := ?_) rfl (by kernel_rfl) (by kernel_rfl) (by kernel_rfl) (by kernel_rfl) (fun _ _ _ h => h) (Or.inl ⟨by rfl, ?_⟩) (fun _ => by assumption) ?_
            rotate_left
            · intro w hSw
              try dsimp only at hSw
              go_simp
              try with_reducible rfl
            try simp only [Act.put, List.setIfInBounds_toArray, List.set_cons_zero, List.set_cons_succ]
            refine wpAnyG_pure (i := 5) (oi := { dst := some 69, op := Op.fieldAddr 71 (Operand.tmp 5) 0, type := 0, pos := _, after := #[], guard := none }) (v := ?_) rfl (by kernel_rfl) (by kernel_rfl) (by kernel_rfl) (by kernel_rfl) (fun _ _ _ h => h) (Or.inl ⟨by rfl, ?_⟩) (fun _ => by assumption) ?_
            rotate_left
            · intro w hSw
              try dsimp only at hSw
              go_simp
              try with_reducible rfl
            try simp only [Act.put, List.setIfInBounds_toArray, List.set_cons_zero, List.set_cons_succ]
            refine wpAnyG_take (i := 6) (oi := { dst := some 70, op := Op.load 9 (Operand.tmp 69), type := 9, pos := _, after := #[{ on := 5, ground := Ground.data }], guard := none }) (v := ?_) rfl (by kernel_rfl) (by kernel_rfl) (by kernel_rfl) (by kernel_rfl) (fun _ _ _ h => h) (Or.inl ⟨by rfl, ?_⟩) (by assumption) ?_
            rotate_left
            · intro w hSw
              try dsimp only at hSw
              go_simp
              try with_reducible rfl
            try simp only [Act.put, List.setIfInBounds_toArray, List.set_cons_zero, List.set_cons_succ]
            refine wpAnyG_pure (i := 7) (oi := { dst := some 71, op := Op.build 71 #[(0, Operand.tmp 70)], type := 71, pos := _, after := #[{ on := 6, ground := Ground.data }], guard := none }) (v := ?_) rfl (by kernel_rfl) (by kernel_rfl) (by kernel_rfl) (by kernel_rfl) (fun _ _ _ h => h) (Or.inl ⟨by rfl, ?_⟩) (fun _ => by assumption) ?_
            rotate_left
            · intro w hSw
              try dsimp only at hSw
              go_simp
              try with_reducible rfl
            try simp only [Act.put, List.setIfInBounds_toArray, List.set_cons_zero, List.set_cons_succ]
            refine wpAnyG_pure (i := 8) (oi := { dst := some 72, op := Op.indexAddr 54 (Operand.tmp 67) (Operand.tmp 68), type := 0, pos := _, after := #[{ on := 3, ground := Ground.data }, { on := 4, ground := Ground.data }, { on := 0, ground := Ground.phase }, { on := 1, ground := Ground.phase }, { on := 2, ground := Ground.phase }, { on := 3, ground := Ground.phase }, { on := 4, ground := Ground.phase }, { on := 5, ground := Ground.phase }, { on := 6, ground := Ground.phase }, { on := 7, ground := Ground.phase }], guard := none }) (v := ?_) rfl (by kernel_rfl) (by kernel_rfl) (by kernel_rfl) (by kernel_rfl) (fun _ _ _ h => h) (Or.inl ⟨by rfl, ?_⟩) (fun _ => by assumption) ?_
            rotate_left
            · intro w hSw
              try dsimp only at hSw
              go_simp
              try with_reducible rfl
            try simp only [Act.put, List.setIfInBounds_toArray, List.set_cons_zero, List.set_cons_succ]
            refine wpAnyG_one (i := 9) (o := { dst := none, op := Op.store 71 (Operand.tmp 72) (Operand.tmp 71), type := 0, pos := _, after := #[{ on := 8, ground := Ground.data }, { on := 7, ground := Ground.data }, { on := 0, ground := Ground.phase }, { on := 1, ground := Ground.phase }, { on := 2, ground := Ground.phase }, { on := 3, ground := Ground.phase }, { on := 4, ground := Ground.phase }, { on := 5, ground := Ground.phase }, { on := 6, ground := Ground.phase }, { on := 7, ground := Ground.phase }], guard := none }) (by kernel_rfl) rfl (fun K hK => ?_)
            obtain ⟨⟨B9, d9, sc0, sc1⟩, sz0, sz1⟩ := HSP.out
            refine step_store_blk w3.drew rfl (.tmp 72) (.tmp 71) rfl g (k * 2) v none 0 0 rfl rfl (by rw [sc0]; rfl) (by rw [sc1]; rfl) sz0 sz1 ?_
            clear sc0 sc1 sz0 sz1
            try dsimp only
            refine hK.out _ _ ?_ (fun hHeld => ?_)
            · exact fun h => (st_no (by kernel_rfl) h).elim
            clear hK K
            try simp only [Act.put, List.setIfInBounds_toArray, List.set_cons_zero, List.set_cons_succ]
            clear hHeld
            refine wpAnyG_done (by kernel_rfl) ?_ _
            refine NoPanic.normal ?_
            --END ro12
            go_wp2_with fail
            go_roundw
            case rel => exact ⟨k + 1, rfl, hkn, ⟨_, c2, HSB.out.1⟩, HF4.out.drew.trans HSB.out.2 fun _ _ h => h⟩
            case measure => simp [intOf]; omega
      · obtain rfl : k = s.n := by omega
        have H3 := Lib.hid (show RdA G q s.n (fOf (s.on fates)) s.steps (-1) false w2 from RdA.congr ⟨_, c2, hd⟩ fun k hk => fOn_all hk HO.out)
        clear hd
        go_wp2_with fail
        go_end0
        have ht := HTO.out
        have h3 := H3.out
        have e : s.on fates = { s with off := false, well := -1, L := [], S := fated fates 0 s.L s.S, N := fated fates 0 s.L s.S } := by unfold DS.on; rw [if_pos HO.out]
        rw [e] at ht h3 ⊢
        exact ⟨rfl, G, ⟨h3, ht⟩, fun _ h => .inl h, HF.out⟩
end
end Go.Proofs.Ytjpelifafmkdpaa.DkW
