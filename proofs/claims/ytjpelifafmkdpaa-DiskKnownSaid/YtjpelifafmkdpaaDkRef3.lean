/- The document's disk: Sync. -/
import Derived.Test.YtjpelifafmkdpaaDkRef2
namespace Go.Proofs.Ytjpelifafmkdpaa.DkW
open Go.RowKit Go.Shelf Mem Rng
set_option linter.unusedVariables false

section
variable {G : Nat → Prop} {q n c done : Nat} {A : Option Addr} {f f' : Nat → RB} {inn : Int} {gone : Bool} {w w' : World}
theorem Rd.congr (h : Rd G q A n c f done inn gone w) (hf : ∀ k, k < n → f k = f' k) : Rd G q A n c f' done inn gone w :=
  ⟨h.blk, h.row.imp id fun ⟨g, cur, e, hb, hg, hq, hc⟩ => ⟨g, cur, e, hb, hg, hq, fun i hi => by rw [← hf i hi]; exact hc i hi⟩, h.foot, h.lt, h.bound.1, h.bound.2.1, h.bound.2.2.1, h.bound.2.2.2.1, fun i hi => by rw [← hf i hi]; exact h.bound.2.2.2.2 i hi⟩
theorem RdA.congr (h : RdA G q n f done inn gone w) (hf : ∀ k, k < n → f k = f' k) : RdA G q n f' done inn gone w := by
  obtain ⟨A, c, h⟩ := h; exact ⟨A, c, h.congr hf⟩
def setF (f : Nat → RB) (i : Nat) (b : RB) : Nat → RB := fun k => if k = i then b else f k
theorem LateR.other {B : Option Addr} {ls : List (Nat × List UInt8)} {g : Nat} (h : LateR G q (some ⟨g, 0, none⟩) B ls w) (hf : Fr (fun k => k = g) w w') : LateR G q (some ⟨g, 0, none⟩) B ls w' := by
  refine h.imp id fun ⟨k, e, hk, k1, k2, k3⟩ => ⟨k, e, hk, k1, k2, fun hl => ?_⟩
  subst e
  obtain ⟨b, off, e, hb, hc⟩ := k3 hl
  injection e with e; injection e with e1 e2; subst e1; subst e2
  exact ⟨_, _, rfl, Nat.lt_of_lt_of_le hb hf.size, fun j v hv => (World.cell?_of_block (hf.block _ hb (fun e => k2 (by rw [show k = g from e])))).trans (hc j v hv)⟩
/-- What a store to block i asks for. -/
theorem Rd.spare {g : Nat} (h : Rd G q (some ⟨g, 0, none⟩) n c f done inn gone w) {i : Nat} (hi : i < n) : (∃ B d, w.cell? ⟨g, i * 2, none⟩ = some (.string (str (f i).1)) ∧ w.cell? ⟨g, i * 2 + 1, none⟩ = some (.slice B (f i).2.length d)) ∧ w.frozen? ⟨g, i * 2, none⟩ = false ∧ w.frozen? ⟨g, i * 2 + 1, none⟩ = false := by
  rcases h.row with h0 | ⟨g', cur, e, hb, hg, hq, hc⟩
  · omega
  · injection e with e; injection e with e; subst e
    obtain ⟨B, d, h1, h2, h3⟩ := hc i hi
    exact ⟨⟨B, d, (hb.cell _).trans h1, (hb.cell _).trans h2⟩, hb.frozen _, hb.frozen _⟩
/-- Block i stored anew. -/
theorem Rd.setB {g : Nat} (h : Rd G q (some ⟨g, 0, none⟩) n c f done inn gone w) {i : Nat} (hi : i < n) (v : List UInt8) {d : Nat} :
    Rd G q (some ⟨g, 0, none⟩) n c (setF f i (v, [])) done inn gone ((w.setCell ⟨g, i * 2, none⟩ (.string (str v))).setCell ⟨g, i * 2 + 1, none⟩ (.slice none 0 0)) ∧ Fr G w ((w.setCell ⟨g, i * 2, none⟩ (.string (str v))).setCell ⟨g, i * 2 + 1, none⟩ (.slice none 0 0)) := by
  rcases h.row with h0 | ⟨g', cur, e, hb, hg, hq, hc⟩
  · omega
  · injection e with e; injection e with e; subst e
    have hf : Fr (fun k => k = g) w ((w.setCell ⟨g, i * 2, none⟩ (.string (str v))).setCell ⟨g, i * 2 + 1, none⟩ (.slice none 0 0)) := ((Fr.refl (fun k => k = g) w).setCell (p := ⟨g, i * 2, none⟩) (fun _ => rfl) _).setCell (p := ⟨g, i * 2 + 1, none⟩) (fun _ => rfl) _
    have hb2 := (hb.set_ (i * 2) (.string (str v))).set_ (i * 2 + 1) (.slice none 0 0)
    have hlt : i * 2 + 1 < cur.size := by
      obtain ⟨B, d, h1, h2, _⟩ := hc i hi
      exact (Array.getElem?_eq_some_iff.1 h2).1
    refine ⟨⟨h.blk.fr hf (fun e => hq e.symm), .inr ⟨g, _, rfl, hb2, hg, hq, fun j hj => ?_⟩, h.foot, fun k hk => Nat.lt_of_lt_of_le (h.lt k hk) hf.size, h.bound.1, h.bound.2.1, h.bound.2.2.1, h.bound.2.2.2.1, fun j hj => ?_⟩, hf.mono fun k _ e => by rw [e]; exact hg⟩
    · unfold setF
      by_cases hji : j = i
      · subst hji
        rw [if_pos rfl]
        refine ⟨none, 0, ?_, ?_, (Or.inl rfl : LateR G q (some ⟨g, 0, none⟩) none [] _)⟩
        · rw [Array.getElem?_setIfInBounds_ne (by omega), Array.getElem?_setIfInBounds_self_of_lt (by omega)]
        · rw [Array.getElem?_setIfInBounds_self_of_lt (by rw [Array.size_setIfInBounds]; exact hlt)]; rfl
      · rw [if_neg hji]
        obtain ⟨B, d, h1, h2, h3⟩ := hc j hj
        refine ⟨B, d, ?_, ?_, h3.other hf⟩
        · rw [Array.getElem?_setIfInBounds_ne (by omega), Array.getElem?_setIfInBounds_ne (by omega)]; exact h1
        · rw [Array.getElem?_setIfInBounds_ne (by omega), Array.getElem?_setIfInBounds_ne (by omega)]; exact h2
    · unfold setF
      split
      · exact Nat.zero_le _
      · exact h.bound.2.2.2.2 j hj
end
theorem binfo2 : (Try.prog.info? 71).map (·.size) = some 2 := by kernel_rfl
/-- A block of the document's disk stored at its place. -/
theorem step_store_blk {ops : Array Oper} {o : Oper} {a : Act} {R : Act → World → Prop} {Q : Exit → Act → World → Prop} {E : Prop} (w : World) (hgd : o.guard = none) (x y : Operand) (ho : o.op = .store 71 x y) (g off : Nat) (s : ByteArray) (B : Option Addr) (n c : Nat)
    (hx : a.eval x = .pointer (some ⟨g, off, none⟩)) (hy : a.eval y = .agg #[.string s, .slice B n c]) (h0 : (w.cell? ⟨g, off, none⟩).isSome = true) (h1 : (w.cell? ⟨g, off + 1, none⟩).isSome = true) (z0 : w.frozen? ⟨g, off, none⟩ = false) (z1 : w.frozen? ⟨g, off + 1, none⟩ = false)
    (h : R (a.put o.dst undef) ((w.setCell ⟨g, off, none⟩ (.string s)).setCell ⟨g, off + 1, none⟩ (.slice B n c))) : if Region.wanted o (yielded ops a.tmps) = true then Oper.wp Try.prog o a w R Q else E := by
  rw [if_pos (by simp [Region.wanted, hgd])]
  refine wp_store_mid _ x y ho g off #[.string s, .slice B n c] hx hy (fun j hj => ?_) binfo2 (all_oneCell_toArray (by intro v hv; simp at hv; rcases hv with rfl | rfl <;> rfl)) h
  have hj : j < 2 := hj
  rcases j with _ | _ | j
  · exact ⟨h0, z0⟩
  · exact ⟨h1, z1⟩
  · omega
/-- The blocks of which i are settled. -/
def fSy (s : DS) (i : Nat) : Nat → RB := fun k => if k < i then (s.N (k : Int), []) else fOf s k
theorem fSy_zero (s : DS) : fSy s 0 = fOf s := by funext k; unfold fSy; rw [if_neg (by omega)]
theorem fSy_none {s : DS} (h : Tidy s) {i : Nat} (hl : latesAt 0 s.L (i : Int) = []) : fSy s i = fSy s (i + 1) := by
  funext k
  unfold fSy
  by_cases hk : k < i
  · rw [if_pos hk, if_pos (by omega)]
  · by_cases hki : k = i
    · subst hki
      rw [if_neg hk, if_pos (by omega), h.now k, hl]
      unfold fOf; rw [hl]; rfl
    · rw [if_neg hk, if_neg (by omega)]
theorem fSy_some {s : DS} {i : Nat} : setF (fSy s i) i (s.N (i : Int), []) = fSy s (i + 1) := by
  funext k
  unfold setF fSy
  by_cases hki : k = i
  · subst hki; rw [if_pos rfl, if_pos (by omega)]
  · rw [if_neg hki]
    by_cases hk : k < i
    · rw [if_pos hk, if_pos (by omega)]
    · rw [if_neg hk, if_neg (by omega)]
section
variable {G : Nat → Prop} {q : Nat} {s : DS} {w w' : World}
theorem sync_off (ho : s.off = false) : s.sync = s.step DS.settle := by unfold DS.sync; rw [if_neg (by rw [ho]; decide)]
theorem step_settle_gone (hw : s.well = 0) : s.step DS.settle = ({ s with steps := s.steps + 1 }.crash, 180) := by unfold DS.step; rw [if_pos hw]
theorem step_id_gone (hw : s.well = 0) : s.step id = ({ s with steps := s.steps + 1 }.crash, 180) := by unfold DS.step; rw [if_pos hw]
theorem step_settle_well (hw : s.well ≠ 0) : s.step DS.settle = ((s.step id).1.settle, 0) := by unfold DS.step; rw [if_neg hw, if_neg hw]; rfl
theorem step_id_snd (hw : s.well ≠ 0) : (s.step id).2 = 0 := by unfold DS.step; rw [if_neg hw]
theorem step_id_keeps (s : DS) : (s.step id).1.n = s.n ∧ (s.step id).1.S = s.S ∧ (s.step id).1.N = s.N ∧ (s.step id).1.L = s.L ∧ (s.step id).1.steps = s.steps + 1 := by
  unfold DS.step
  split <;> exact ⟨rfl, rfl, rfl, rfl, rfl⟩
theorem Tidy.step (h : Tidy s) : Tidy (s.step id).1 := by
  obtain ⟨h1, h2, h3, h4, h5⟩ := step_id_keeps s
  exact ⟨by rw [h1, h4]; exact h.lates, by rw [h2]; exact h.settled, by rw [h2, h3, h4]; exact h.now, by rw [h4, h5]; have := h.few; omega⟩
theorem lastOf_len {S : List UInt8} {l : List (Nat × List UInt8)} (hS : S.length = 256) (hl : ∀ x ∈ l, x.2.length = 256) : (lastOf S l).length = 256 := by
  unfold lastOf
  rcases h : l.getLast? with _ | x
  · exact hS
  · exact hl x (List.mem_of_getLast? h)
theorem Tidy.nlen (h : Tidy s) (i : Nat) : (s.N (i : Int)).length = 256 := by
  rw [h.now i]
  exact lastOf_len (h.settled _) fun x hx => (h.lates _ ((latesAt_mem _ _ _ x hx).2.2)).2.2
theorem fSy_all {s : DS} {k : Nat} (hk : k < s.n) : fSy s s.n k = fOf s.settle k := by
  unfold fSy
  rw [if_pos hk]; rfl
theorem Tidy.settle (h : Tidy s) (hN : ∀ i, (s.N i).length = 256) : Tidy s.settle := ⟨fun x hx => (by cases hx), hN, fun i => rfl, Nat.zero_le _⟩
set_option maxRecDepth 100000 in
set_option maxHeartbeats 4000000 in
theorem rsync_any (h : RdS G q s w) (hN : ∀ i, (s.N i).length = 256) (hs : s.steps + 1 ≤ 256 ^ 3) : Calls Try.prog 38 #[.pointer (some ⟨q, 0, none⟩)] w (RdOk w G q s.sync.1 (.int .i64 s.sync.2)) := by
  obtain ⟨A, c, hd⟩ := h.1
  have c3 := hd.cells.2.2.2
  obtain ⟨b, hb⟩ : ∃ b, s.off = b := ⟨_, rfl⟩
  rw [hb] at c3
  cases b with
  | true =>
    have H := Lib.hid (And.intro h hb)
    have HS := Lib.hid (show s.sync = (s, 180) from by unfold DS.sync; rw [if_pos hb])
    rw [HS.out]
    clear hd h hb
    go_enter Try.func38, Try.ntmps38
    go_wp2_with fail
    go_ret
    exact RdOk.same H.out.1 (Mem.start _)
  | false =>
    rw [sync_off hb]
    have HT := Lib.hid h.2
    have HSt := Lib.hid (rstep_any h.1 hs)
    have HNN := Lib.hid hN
    by_cases hw0 : s.well = 0
    · have HE := Lib.hid (And.intro (step_settle_gone hw0) (step_id_gone hw0))
      rw [HE.out.1]
      unfold StepOk at HSt
      rw [HE.out.2, decide_eq_false (by omega)] at HSt
      clear hd h hb hN hs
      go_enter Try.func38, Try.ntmps38
      go_wp2_with fail
      refine HSt.out.mono ?_
      rintro e w1 ⟨rfl, h1, f1⟩
      have H1 := Lib.hid (And.intro h1 f1)
      clear h1 f1
      go_wp2_with fail
      go_ret
      refine ⟨rfl, G, ⟨H1.out.1, HT.out.lates, HT.out.settled, HT.out.now, ?_⟩, fun _ h => .inl h, H1.out.2⟩
      show s.L.length ≤ s.steps + 1
      have := HT.out.few; omega
    · rw [step_settle_well hw0]
      unfold StepOk at HSt
      rw [decide_eq_true hw0] at HSt
      have HK := Lib.hid (step_id_keeps s)
      have HTS := Lib.hid h.2.step
      obtain ⟨t, ht⟩ : ∃ t, (s.step id).1 = t := ⟨_, rfl⟩
      rw [ht] at HSt HK HTS ⊢
      clear hd h hb hN hs ht
      go_enter Try.func38, Try.ntmps38
      go_wp2_with fail
      refine HSt.out.mono ?_
      rintro e w1 ⟨rfl, h1, f1⟩
      have H1 := Lib.hid (show RdA G q t.n (fSy t 0) t.steps t.well t.off w1 ∧ Fr G w w1 from by
        rw [fSy_zero, HK.out.1]
        exact ⟨h1.congr fun k _ => by unfold fOf; rw [HK.out.2.1, HK.out.2.2.2.1], f1⟩)
      clear h1 f1
      go_wp2_with fail
      go_loopw [3] (fun i wr => ∃ k : Nat, i = .int .i64 (k : Int) ∧ k ≤ t.n ∧ RdA G q t.n (fSy t k) t.steps t.well t.off wr ∧ Fr G w wr) (fun i _ => t.n - (intOf i).toNat)
      case atStart => exact ⟨0, rfl, Nat.zero_le _, H1.out⟩
      case round =>
        obtain ⟨k, rfl, hk, h2, f2⟩ := hrel
        clear H1
        obtain ⟨w2, rfl⟩ : ∃ w2 : World, w2 = wr := ⟨_, rfl⟩
        obtain ⟨A2, c2, hd⟩ := h2
        have c0 := hd.cells.1
        have HF := Lib.hid f2
        have hn4 : (t.n : Int) ≤ 4096 := by have := hd.bound.1; omega
        clear f2
        have hk0 : (0 : Int) ≤ (k : Int) := by omega
        by_cases hkn : k < t.n
        · obtain ⟨g, B, d, rfl, _, hc, hl, hgG, hgq⟩ := hd.at_ hkn
          have hk1 : (k : Int) < (t.n : Int) := by omega
          have hfk : fSy t k k = fOf t k := by unfold fSy; rw [if_neg (by omega)]
          rw [hfk] at hc hl
          rw [show (fOf t k).2 = latesAt 0 t.L (k : Int) from rfl] at hc hl
          have hnow := HTS.out.now k
          rcases hlast : (latesAt 0 t.L (k : Int)).getLast? with _ | ⟨no, bb⟩
          · have hnil := List.getLast?_eq_none_iff.1 hlast
            rw [hnil, List.length_nil] at hc
            have H3 := Lib.hid (show RdA G q t.n (fSy t (k + 1)) t.steps t.well t.off w2 from by rw [← fSy_none HTS.out hnil]; exact ⟨_, c2, hd⟩)
            clear hd hfk hl hnow hlast hnil
            go_wp2_with fail
            go_roundw
            case rel => exact ⟨k + 1, rfl, hkn, H3.out, HF.out⟩
            case measure => simp [intOf]; omega
          · unfold lastOf at hnow
            rw [hlast] at hnow
            have hnow : t.N (k : Int) = bb := hnow
            rw [List.getLast?_eq_getElem?] at hlast
            obtain ⟨g2, rfl, _, _, hcl⟩ := hl.at_ hlast
            obtain ⟨m, hm⟩ : ∃ m, (latesAt 0 t.L (k : Int)).length = m := ⟨_, rfl⟩
            have hm0 := (List.getElem?_eq_some_iff.1 hlast).1
            have hm3 : m ≤ 256 ^ 3 := by have := hd.bound.2.2.2.2 k hkn; rw [hfk] at this; rw [← hm]; exact this
            rw [hm] at hm0 hcl hc
            obtain ⟨m', rfl⟩ : ∃ m', m = m' + 1 := ⟨m - 1, by omega⟩
            rw [Nat.add_sub_cancel] at hcl
            have hm1 : (m' : Int) ≤ 256 ^ 3 := by omega
            have hm2 : (0 : Int) ≤ (m' : Int) := by omega
            have hsp := hd.spare hkn
            have hsb := (show Rd G q _ t.n c2 (fSy t k) t.steps t.well t.off w2.drew from hd.keep (nextN (Mem.start w2) 1)).setB hkn bb (d := d)
            rw [show setF (fSy t k) k (bb, []) = fSy t (k + 1) from by rw [← hnow]; exact fSy_some] at hsb
            obtain ⟨v, hv⟩ : ∃ v, str bb = v := ⟨_, rfl⟩
            rw [show str (no, bb).2 = v from hv] at hcl
            rw [hv] at hsb
            have HSB := Lib.hid hsb
            have HSP := Lib.hid hsp
            have hw7 : (m' : Int) < (m' : Int) + 1 := by omega
            have hw8 : IntKind.i64.wrap (m' : Int) = (m' : Int) := IntWalk.i64_in _ (by omega)
            have HT2 := Lib.hid (show w2.drew.cell? ⟨q, 0, none⟩ = some (.slice (some ⟨g, 0, none⟩) t.n c2) ∧ w2.drew.cell? ⟨g2, m' * 2 + 1, none⟩ = some (.string v) from ⟨c0, hcl⟩)
            clear hd hfk hl hnow hlast hsp hsb hm3 hm0 hm hv hcl
            go_wp2_with fail
            --HELD rs8
            refine wp_region_noPanic ?_
            refine wp_heldG (fun w' => w'.cell? ⟨q, 0, none⟩ = some (.slice (some ⟨g, 0, none⟩) t.n c2) ∧ w'.cell? ⟨g2, m' * 2 + 1, none⟩ = some (.string v)) [14] (by kernel_rfl) ?hs0 ?rg0
            case hs0 =>
              exact HT2.out
            case rg0 =>
            intro hHeld
            refine wpAnyG_pure (i := 0) (oi := { dst := some 34, op := Op.move (Operand.tmp 0), type := 49, pos := _, after := #[], guard := none }) (v := ?_) rfl (by kernel_rfl) (by kernel_rfl) (by kernel_rfl) (by kernel_rfl) (fun _ _ _ h => h) (Or.inl ⟨by rfl, ?_⟩) (fun _ => by assumption) ?_
            rotate_left
            · intro w hSw
              try dsimp only at hSw
              go_simp
              try with_reducible rfl
            try simp only [Act.put, List.setIfInBounds_toArray, List.set_cons_zero, List.set_cons_succ]
            refine wpAnyG_pure (i := 1) (oi := { dst := some 35, op := Op.nilCheck (Operand.tmp 34), type := 0, pos := _, after := #[{ on := 0, ground := Ground.data }], guard := none }) (v := ?_) rfl (by kernel_rfl) (by kernel_rfl) (by kernel_rfl) (by kernel_rfl) (fun _ _ _ h => h) (Or.inl ⟨by rfl, ?_⟩) (fun _ => by assumption) ?_
            rotate_left
            · intro w hSw
              try dsimp only at hSw
              go_simp
              try with_reducible rfl
            try simp only [Act.put, List.setIfInBounds_toArray, List.set_cons_zero, List.set_cons_succ]
            refine wpAnyG_pure (i := 2) (oi := { dst := some 36, op := Op.fieldAddr 56 (Operand.tmp 35) 0, type := 0, pos := _, after := #[{ on := 1, ground := Ground.data }], guard := none }) (v := ?_) rfl (by kernel_rfl) (by kernel_rfl) (by kernel_rfl) (by kernel_rfl) (fun _ _ _ h => h) (Or.inl ⟨by rfl, ?_⟩) (fun _ => by assumption) ?_
            rotate_left
            · intro w hSw
              try dsimp only at hSw
              go_simp
              try with_reducible rfl
            try simp only [Act.put, List.setIfInBounds_toArray, List.set_cons_zero, List.set_cons_succ]
            refine wpAnyG_take (i := 3) (oi := { dst := some 37, op := Op.load 54 (Operand.tmp 36), type := 54, pos := _, after := #[{ on := 2, ground := Ground.data }], guard := none }) (v := ?_) rfl (by kernel_rfl) (by kernel_rfl) (by kernel_rfl) (by kernel_rfl) (fun _ _ _ h => h) (Or.inl ⟨by rfl, ?_⟩) (by assumption) ?_
            rotate_left
            · intro w hSw
              try dsimp only at hSw
              go_simp
              try with_reducible rfl
            try simp only [Act.put, List.setIfInBounds_toArray, List.set_cons_zero, List.set_cons_succ]
            refine wpAnyG_pure (i := 4) (oi := { dst := some 38, op := Op.move (Operand.tmp 3), type := 3, pos := _, after := #[], guard := none }) (v := ?_) rfl (by kernel_rfl) (by kernel_rfl) (by kernel_rfl) (by kernel_rfl) (fun _ _ _ h => h) (Or.inl ⟨by rfl, ?_⟩) (fun _ => by assumption) ?_
            rotate_left
            · intro w hSw
              try dsimp only at hSw
              go_simp
              try with_reducible rfl
            try simp only [Act.put, List.setIfInBounds_toArray, List.set_cons_zero, List.set_cons_succ]
            refine wpAnyG_pure (i := 5) (oi := { dst := some 39, op := Op.move (Operand.tmp 4), type := 69, pos := _, after := #[], guard := none }) (v := ?_) rfl (by kernel_rfl) (by kernel_rfl) (by kernel_rfl) (by kernel_rfl) (fun _ _ _ h => h) (Or.inl ⟨by rfl, ?_⟩) (fun _ => by assumption) ?_
            rotate_left
            · intro w hSw
              try dsimp only at hSw
              go_simp
              try with_reducible rfl
            try simp only [Act.put, List.setIfInBounds_toArray, List.set_cons_zero, List.set_cons_succ]
            refine wpAnyG_pure (i := 6) (oi := { dst := some 40, op := Op.move (Operand.tmp 4), type := 69, pos := _, after := #[], guard := none }) (v := ?_) rfl (by kernel_rfl) (by kernel_rfl) (by kernel_rfl) (by kernel_rfl) (fun _ _ _ h => h) (Or.inl ⟨by rfl, ?_⟩) (fun _ => by assumption) ?_
            rotate_left
            · intro w hSw
              try dsimp only at hSw
              go_simp
              try with_reducible rfl
            try simp only [Act.put, List.setIfInBounds_toArray, List.set_cons_zero, List.set_cons_succ]
            refine wpAnyG_pure (i := 7) (oi := { dst := some 41, op := Op.call { callee := Callee.builtin Builtin.len, args := #[Operand.tmp 40], argTypes := #[69] }, type := 3, pos := _, after := #[{ on := 6, ground := Ground.data }], guard := none }) (v := ?_) rfl (by kernel_rfl) (by kernel_rfl) (by kernel_rfl) (by kernel_rfl) (fun _ _ _ h => h) (Or.inl ⟨by rfl, ?_⟩) (fun _ => by assumption) ?_
            rotate_left
            · intro w hSw
              try dsimp only at hSw
              go_simp
              try with_reducible rfl
            try simp only [Act.put, List.setIfInBounds_toArray, List.set_cons_zero, List.set_cons_succ]
            refine wpAnyG_pure (i := 8) (oi := { dst := some 42, op := Op.binOp BinOp.sub 3 (Operand.tmp 41) (Operand.const (Value.int IntKind.i64 1)) 3, type := 3, pos := _, after := #[{ on := 7, ground := Ground.data }], guard := none }) (v := ?_) rfl (by kernel_rfl) (by kernel_rfl) (by kernel_rfl) (by kernel_rfl) (fun _ _ _ h => h) (Or.inl ⟨by rfl, ?_⟩) (fun _ => by assumption) ?_
            rotate_left
            · intro w hSw
              try dsimp only at hSw
              go_simp
              try with_reducible rfl
            try simp only [Act.put, List.setIfInBounds_toArray, List.set_cons_zero, List.set_cons_succ]
            refine wpAnyG_pure (i := 9) (oi := { dst := some 43, op := Op.indexAddr 69 (Operand.tmp 39) (Operand.tmp 42), type := 0, pos := _, after := #[{ on := 5, ground := Ground.data }, { on := 8, ground := Ground.data }], guard := none }) (v := ?_) rfl (by kernel_rfl) (by kernel_rfl) (by kernel_rfl) (by kernel_rfl) (fun _ _ _ h => h) (Or.inl ⟨by rfl, ?_⟩) (fun _ => by assumption) ?_
            rotate_left
            · intro w hSw
              try dsimp only at hSw
              go_simp
              try with_reducible rfl
            try simp only [Act.put, List.setIfInBounds_toArray, List.set_cons_zero, List.set_cons_succ]
            refine wpAnyG_pure (i := 10) (oi := { dst := some 44, op := Op.fieldAddr 78 (Operand.tmp 43) 1, type := 0, pos := _, after := #[{ on := 9, ground := Ground.data }], guard := none }) (v := ?_) rfl (by kernel_rfl) (by kernel_rfl) (by kernel_rfl) (by kernel_rfl) (fun _ _ _ h => h) (Or.inl ⟨by rfl, ?_⟩) (fun _ => by assumption) ?_
            rotate_left
            · intro w hSw
              try dsimp only at hSw
              go_simp
              try with_reducible rfl
            try simp only [Act.put, List.setIfInBounds_toArray, List.set_cons_zero, List.set_cons_succ]
            refine wpAnyG_take (i := 11) (oi := { dst := some 45, op := Op.load 9 (Operand.tmp 44), type := 9, pos := _, after := #[{ on := 10, ground := Ground.data }], guard := none }) (v := ?_) rfl (by kernel_rfl) (by kernel_rfl) (by kernel_rfl) (by kernel_rfl) (fun _ _ _ h => h) (Or.inl ⟨by rfl, ?_⟩) (by assumption) ?_
            rotate_left
            · intro w hSw
              try dsimp only at hSw
              go_simp
              try with_reducible rfl
            try simp only [Act.put, List.setIfInBounds_toArray, List.set_cons_zero, List.set_cons_succ]
            refine wpAnyG_pure (i := 12) (oi := { dst := some 46, op := Op.build 71 #[(0, Operand.tmp 45)], type := 71, pos := _, after := #[{ on := 11, ground := Ground.data }], guard := none }) (v := ?_) rfl (by kernel_rfl) (by kernel_rfl) (by kernel_rfl) (by kernel_rfl) (fun _ _ _ h => h) (Or.inl ⟨by rfl, ?_⟩) (fun _ => by assumption) ?_
            rotate_left
            · intro w hSw
              try dsimp only at hSw
              go_simp
              try with_reducible rfl
            try simp only [Act.put, List.setIfInBounds_toArray, List.set_cons_zero, List.set_cons_succ]
            refine wpAnyG_pure (i := 13) (oi := { dst := some 47, op := Op.indexAddr 54 (Operand.tmp 37) (Operand.tmp 38), type := 0, pos := _, after := #[{ on := 3, ground := Ground.data }, { on := 4, ground := Ground.data }, { on := 0, ground := Ground.phase }, { on := 1, ground := Ground.phase }, { on := 2, ground := Ground.phase }, { on := 3, ground := Ground.phase }, { on := 4, ground := Ground.phase }, { on := 5, ground := Ground.phase }, { on := 6, ground := Ground.phase }, { on := 7, ground := Ground.phase }, { on := 8, ground := Ground.phase }, { on := 9, ground := Ground.phase }, { on := 10, ground := Ground.phase }, { on := 11, ground := Ground.phase }, { on := 12, ground := Ground.phase }], guard := none }) (v := ?_) rfl (by kernel_rfl) (by kernel_rfl) (by kernel_rfl) (by kernel_rfl) (fun _ _ _ h => h) (Or.inl ⟨by rfl, ?_⟩) (fun _ => by assumption) ?_
            rotate_left
            · intro w hSw
              try dsimp only at hSw
              go_simp
              try with_reducible rfl
            try simp only [Act.put, List.setIfInBounds_toArray, List.set_cons_zero, List.set_cons_succ]
            refine wpAnyG_one (i := 14) (o := { dst := none, op := Op.store 71 (Operand.tmp 47) (Operand.tmp 46), type := 0, pos := _, after := #[{ on := 13, ground := Ground.data }, { on := 12, ground := Ground.data }, { on := 0, ground := Ground.phase }, { on := 1, ground := Ground.phase }, { on := 2, ground := Ground.phase }, { on := 3, ground := Ground.phase }, { on := 4, ground := Ground.phase }, { on := 5, ground := Ground.phase }, { on := 6, ground := Ground.phase }, { on := 7, ground := Ground.phase }, { on := 8, ground := Ground.phase }, { on := 9, ground := Ground.phase }, { on := 10, ground := Ground.phase }, { on := 11, ground := Ground.phase }, { on := 12, ground := Ground.phase }], guard := none }) (by kernel_rfl) rfl (fun K hK => ?_)
            obtain ⟨⟨B9, d9, sc0, sc1⟩, sz0, sz1⟩ := HSP.out
            refine step_store_blk w2.drew rfl (.tmp 47) (.tmp 46) rfl g (k * 2) v none 0 0 rfl rfl (by rw [show w2.drew.cell? ⟨g, k * 2, none⟩ = _ from sc0]; rfl) (by rw [show w2.drew.cell? ⟨g, k * 2 + 1, none⟩ = _ from sc1]; rfl) sz0 sz1 ?_
            clear sc0 sc1 sz0 sz1
            try dsimp only
            refine hK.out _ _ ?_ (fun hHeld => ?_)
            · exact fun h => (st_no (by kernel_rfl) h).elim
            clear hK K
            try simp only [Act.put, List.setIfInBounds_toArray, List.set_cons_zero, List.set_cons_succ]
            clear hHeld
            refine wpAnyG_done (by kernel_rfl) ?_ _
            refine NoPanic.normal ?_
            --END rs8
            go_wp2_with fail
            go_roundw
            case rel => exact ⟨k + 1, rfl, hkn, ⟨_, c2, HSB.out.1⟩, HF.out.drew.trans HSB.out.2 fun _ _ h => h⟩
            case measure => simp [intOf]; omega
        · obtain rfl : k = t.n := by omega
          have H3 := Lib.hid (show RdA G q t.n (fOf t.settle) t.steps t.well t.off w2 from RdA.congr ⟨_, c2, hd⟩ fun k hk => fSy_all hk)
          clear hd
          go_wp2_with fail
          go_ret
          exact ⟨rfl, G, ⟨H3.out, HTS.out.settle (by rw [HK.out.2.2.1]; exact HNN.out)⟩, fun _ h => .inl h, HF.out⟩
end
end Go.Proofs.Ytjpelifafmkdpaa.DkW
