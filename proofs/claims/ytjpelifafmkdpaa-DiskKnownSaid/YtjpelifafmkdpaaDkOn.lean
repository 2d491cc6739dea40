/- On of a disk. -/
import Derived.Test.YtjpelifafmkdpaaDkOnM
namespace Go.Proofs.Ytjpelifafmkdpaa.DkW
open Go.RowKit Go.Shelf Mem Rng
set_option linter.unusedVariables false

/-- While the late writes are gone over: j of them are settled. -/
def OnI (F : Nat → Prop) (p ms mn : Nat) (A0 : Option Addr) (c0 kS k j : Nat) (s : DS) (fates : List UInt8) (w wr : World) : Prop :=
  Blk wr p 63 #[.int .i64 (s.n : Int), .map (some ms), .map (some mn), .slice A0 k c0, .int .i64 (s.steps : Int), .int .i64 (-1), .bool true] ∧
    MB wr ms (kS + j) (fated fates 0 (s.L.take j) s.S) ∧ Fr (fun q => q = p ∨ q = ms) w wr
section
variable {F : Nat → Prop} {p : Nat} {s : DS} {w : World}
set_option maxRecDepth 100000 in
set_option maxHeartbeats 8000000 in
theorem on_any (h : DkA F p s w) (A : Option Addr) (fates : List UInt8) (c : Nat) (hA : Bytes w w.heap.size A fates) (hfl : fates.length ≤ 256 ^ 3) : Calls Try.prog 14 #[.pointer (some ⟨p, 0, none⟩), .slice A fates.length c] w (DkOk w F p (s.on fates) (.tuple #[])) := by
  have H1 := Lib.hid (h.less (-1) (by decide))
  obtain ⟨ms, mn, A0, c0, hd⟩ := h
  have h5 := hd.cells.2.2.2.2.2.1
  have z5 := hd.blk.frozen 5
  have h6 : (w.setCell ⟨p, 5, none⟩ (.int .i64 (-1))).cell? ⟨p, 6, none⟩ = some (.bool s.off) := cellSet2 hd.cells.2.2.2.2.2.2 (by decide)
  obtain ⟨n, hn⟩ : ∃ n, fates.length = n := ⟨_, rfl⟩
  rw [hn]
  have HN := Lib.hid (And.intro hn (And.intro hA hfl))
  unfold DS.on
  obtain ⟨b, hb⟩ : ∃ b, s.off = b := ⟨_, rfl⟩
  have HB := Lib.hid hb
  rw [hb] at h6 ⊢
  have HD := Lib.hid hd
  clear hd hn hA hfl hb
  cases b with
  | false =>
    rw [if_neg (by decide)]
    go_enter Try.func14, Try.ntmps14
    go_wp2_with fail
    go_end0
    refine ⟨rfl, F, ?_, fun _ h => .inl h, H1.out.2⟩
    have h1 := H1.out.1
    rw [HB.out] at h1
    exact h1
  | true =>
    rw [if_pos rfl]
    obtain ⟨k, hk⟩ : ∃ k, s.L.length = k := ⟨_, rfl⟩
    have HK := Lib.hid hk
    have h3 : (w.setCell ⟨p, 5, none⟩ (.int .i64 (-1))).cell? ⟨p, 3, none⟩ = some (.slice A0 k c0) := by have := cellSet2 (o' := 5) (u := .int .i64 (-1)) HD.out.cells.2.2.2.1 (by decide); rw [hk] at this; exact this
    clear hk
    go_enter Try.func14, Try.ntmps14
    go_wp2_with fail
    obtain ⟨kS, hmS, hkS⟩ := HD.out.mS
    have f0 : Fr (fun q => q = p) w (w.setCell ⟨p, 5, none⟩ (.int .i64 (-1))) := (Fr.refl (fun q => q = p) w).setCell (p := ⟨p, 5, none⟩) (fun _ => rfl) _
    have hI0 : OnI F p ms mn A0 c0 kS k 0 s fates w (w.setCell ⟨p, 5, none⟩ (.int .i64 (-1))) := by
      refine ⟨?_, hmS.fr f0 HD.out.foot.2.2.2.2.1, f0.mono fun _ _ h => .inl h⟩
      have := HD.out.blk.set_ 5 (.int .i64 (-1))
      rw [HB.out, HK.out] at this
      exact this
    have HI0 := Lib.hid hI0
    have HKS := Lib.hid (show kS + k ≤ s.steps from by rw [← HK.out]; exact hkS)
    clear f0 hI0 hmS hkS h3 h5 z5 h6
    go_loopw [23] (fun i wr => ∃ j : Nat, i = .int .i64 (j : Int) ∧ j ≤ k ∧ OnI F p ms mn A0 c0 kS k j s fates w wr) (fun i _ => k - (intOf i).toNat)
    case atStart => exact ⟨0, rfl, Nat.zero_le _, HI0.out⟩
    case round =>
      obtain ⟨j, rfl, hj, hI⟩ := hrel
      have HI := Lib.hid hI
      clear hI HI0 H1
      obtain ⟨wa, rfl⟩ : ∃ wa : World, wa = wr := ⟨_, rfl⟩
      by_cases hjk : j < k
      · obtain ⟨x, hx⟩ : ∃ x, s.L[j]? = some x := ⟨s.L[j]'(by rw [HK.out]; exact hjk), List.getElem?_eq_getElem _⟩
        have hxw := HD.out.lens.1 x (List.mem_of_getElem? hx)
        obtain ⟨g, rfl, hgF⟩ : ∃ g, A0 = some ⟨g, 0, none⟩ ∧ g ≠ p ∧ g ≠ ms ∧ g < w.heap.size := by
          rcases HD.out.row.form with ⟨_, _, e, _⟩ | ⟨g, e, _, hg, _⟩
          · rw [HK.out] at e; omega
          · have h7 := HD.out.foot.2.2.2.2.2.2 g e
            exact ⟨g, e, h7.2.1, h7.2.2.1, hg⟩
        have hrg : wa.rangeAt g (0 + j * 257) (lcells x) := by
          obtain ⟨g', off, e, hgb, hr⟩ := late_at HD.out.row.cells (fun y hy => (HD.out.lens.1 y hy).1) hx
          injection e with e; injection e with e1 e2; subst e1; subst e2
          exact fun q v hv => (World.cell?_of_block (HI.out.2.2.block g hgb (fun e => e.elim hgF.1 hgF.2.1))).trans (hr q v hv)
        rw [Nat.zero_add] at hrg
        have HX := Lib.hid (And.intro hx (And.intro hxw (And.intro hgF hrg)))
        have hk3 : (k : Int) ≤ 256 ^ 3 := by have h1 := HKS.out; have h2 := HD.out.bound.2.1; omega
        have hji : (j : Int) < (k : Int) := by omega
        have hj0 : (0 : Int) ≤ (j : Int) := by omega
        have hz := zeroL
        clear hx hxw hgF hrg
        by_cases hjn : j < n
        · have hjni : (j : Int) < (n : Int) := by omega
          obtain ⟨fb, fo, rfl, hfb, hfc⟩ := HN.out.2.1.at_ (k := j) (by rw [HN.out.1]; exact hjn)
          obtain ⟨t, ht⟩ : ∃ t, fates[j]? = some t := ⟨fates[j]'(by rw [HN.out.1]; exact hjn), List.getElem?_eq_getElem _⟩
          rw [(List.getElem?_eq_some_iff.1 ht).2] at hfc
          have HFC := Lib.hid (show wa.cell? ⟨fb, fo + j, none⟩ = some (.int .u8 (t.toNat : Int)) from (World.cell?_of_block (HI.out.2.2.block fb hfb (fun e => e.elim (fun e => HD.out.no_byte _ _ (by rw [← e]; exact hfc)) (fun e => by obtain ⟨_, hms, _⟩ := HD.out.mS; have := hms.no_cell (fo + j); rw [← e, hfc] at this; cases this)))).trans hfc)
          have htb := t.toNat_lt
          clear hfc hfb
          by_cases ht5 : t.toNat = 255
          · have HR := Lib.hid (show reach fates j = 256 from by unfold reach; rw [ht]; exact if_pos ht5)
            have HRL := Lib.hid (show 256 ≤ 256 from Nat.le_refl _)
            rw [ht5] at HFC
            clear ht ht5 htb
            go_wp2_with (first
              | ((with_reducible show wpList _ _ _ ((⟨some 27, _, _, _, _, _⟩ : Oper) :: _) _ _); refine wpList_load_mid rfl 65 (.tmp 26) rfl g (j * 257) rfl (lcells x) _ HX.out.2.2.2 Try.underlying65 rfl (by rw [lcells_len HX.out.2.1.1]; exact linfo) ?_)
              | ((with_reducible show wpList _ _ _ ((⟨none, .store 65 (.tmp 5) (.tmp 27), _, _, _, _⟩ : Oper) :: _) _ _); refine wpList_store_new wa rfl 65 (.tmp 5) (.tmp 27) rfl 65 (lc (0, z256)) (lc x) rfl rfl (lsame (y := (0, z256)) HX.out.2.1.1 z256_len).1 (lsame (y := (0, z256)) HX.out.2.1.1 z256_len).2 (lc_one _) ?_; intro w1 hb1 hw1 hs1; have HW := Lib.hid (And.intro hb1 (And.intro hw1 hs1)); have hfw := cellB hw1 HFC.out; clear hb1 hw1 hs1))
            have HFL := Lib.hid (show (fated fates 0 (s.L.take j) s.S x.1).length = 256 from fated_len fates _ 0 _ (fun y hy => (HD.out.lens.1 y (List.mem_of_mem_take hy)).1) HD.out.lens.2.1 x.1)
            have HT := Lib.hid (show w1.drew.cell? ⟨p, 1, none⟩ = some (.map (some ms)) ∧ w1.drew.cell? ⟨wa.heap.size, 0, none⟩ = some (.int .i64 x.1) ∧ MB w1.drew ms (kS + j) (fated fates 0 (s.L.take j) s.S) from ⟨cellB HW.out.2.1 (HI.out.1.cell 1), HW.out.1.cell 0, HI.out.2.1.keep (next HW.out.2.1 (nextN (Mem.start w1) 1))⟩)
            --HELD on11a
            refine wp_region_noPanic ?_
            refine wp_heldG (fun w' => w'.cell? ⟨p, 1, none⟩ = some (.map (some ms)) ∧ w'.cell? ⟨wa.heap.size, 0, none⟩ = some (.int .i64 x.1) ∧ MB w' ms (kS + j) (fated fates 0 (s.L.take j) s.S)) [8] (by kernel_rfl) ?hs0 ?rg0
            case hs0 =>
              exact HT.out
            case rg0 =>
            intro hHeld
            refine wpAnyG_pure (i := 0) (oi := { dst := some 39, op := Op.move (Operand.tmp 0), type := 28, pos := _, after := #[], guard := none }) (v := ?_) rfl (by kernel_rfl) (by kernel_rfl) (by kernel_rfl) (by kernel_rfl) (fun _ _ _ h => h) (Or.inl ⟨by rfl, ?_⟩) (fun _ => by assumption) ?_
            rotate_left
            · intro w hSw
              try dsimp only at hSw
              go_simp
              try with_reducible rfl
            try simp only [Act.put, List.setIfInBounds_toArray, List.set_cons_zero, List.set_cons_succ]
            refine wpAnyG_pure (i := 1) (oi := { dst := some 40, op := Op.nilCheck (Operand.tmp 39), type := 0, pos := _, after := #[{ on := 0, ground := Ground.data }], guard := none }) (v := ?_) rfl (by kernel_rfl) (by kernel_rfl) (by kernel_rfl) (by kernel_rfl) (fun _ _ _ h => h) (Or.inl ⟨by rfl, ?_⟩) (fun _ => by assumption) ?_
            rotate_left
            · intro w hSw
              try dsimp only at hSw
              go_simp
              try with_reducible rfl
            try simp only [Act.put, List.setIfInBounds_toArray, List.set_cons_zero, List.set_cons_succ]
            refine wpAnyG_pure (i := 2) (oi := { dst := some 41, op := Op.fieldAddr 63 (Operand.tmp 40) 1, type := 0, pos := _, after := #[{ on := 1, ground := Ground.data }], guard := none }) (v := ?_) rfl (by kernel_rfl) (by kernel_rfl) (by kernel_rfl) (by kernel_rfl) (fun _ _ _ h => h) (Or.inl ⟨by rfl, ?_⟩) (fun _ => by assumption) ?_
            rotate_left
            · intro w hSw
              try dsimp only at hSw
              go_simp
              try with_reducible rfl
            try simp only [Act.put, List.setIfInBounds_toArray, List.set_cons_zero, List.set_cons_succ]
            refine wpAnyG_take (i := 3) (oi := { dst := some 42, op := Op.load 60 (Operand.tmp 41), type := 60, pos := _, after := #[{ on := 2, ground := Ground.data }], guard := none }) (v := ?_) rfl (by kernel_rfl) (by kernel_rfl) (by kernel_rfl) (by kernel_rfl) (fun _ _ _ h => h) (Or.inl ⟨by rfl, ?_⟩) (by assumption) ?_
            rotate_left
            · intro w hSw
              try dsimp only at hSw
              go_simp
              try with_reducible rfl
            try simp only [Act.put, List.setIfInBounds_toArray, List.set_cons_zero, List.set_cons_succ]
            refine wpAnyG_pure (i := 4) (oi := { dst := some 43, op := Op.fieldAddr 65 (Operand.tmp 5) 0, type := 0, pos := _, after := #[], guard := none }) (v := ?_) rfl (by kernel_rfl) (by kernel_rfl) (by kernel_rfl) (by kernel_rfl) (fun _ _ _ h => h) (Or.inl ⟨by rfl, ?_⟩) (fun _ => by assumption) ?_
            rotate_left
            · intro w hSw
              try dsimp only at hSw
              go_simp
              try with_reducible rfl
            try simp only [Act.put, List.setIfInBounds_toArray, List.set_cons_zero, List.set_cons_succ]
            refine wpAnyG_take (i := 5) (oi := { dst := some 44, op := Op.load 3 (Operand.tmp 43), type := 3, pos := _, after := #[{ on := 4, ground := Ground.data }], guard := none }) (v := ?_) rfl (by kernel_rfl) (by kernel_rfl) (by kernel_rfl) (by kernel_rfl) (fun _ _ _ h => h) (Or.inl ⟨by rfl, ?_⟩) (by assumption) ?_
            rotate_left
            · intro w hSw
              try dsimp only at hSw
              go_simp
              try with_reducible rfl
            try simp only [Act.put, List.setIfInBounds_toArray, List.set_cons_zero, List.set_cons_succ]
            refine wpAnyG_take (i := 6) (oi := { dst := some 45, op := Op.lookup 60 (Operand.tmp 42) (Operand.tmp 44) false, type := 59, pos := _, after := #[{ on := 3, ground := Ground.data }, { on := 5, ground := Ground.data }], guard := none }) (v := ?_) rfl (by kernel_rfl) (by kernel_rfl) (by kernel_rfl) (by kernel_rfl) (fun _ _ _ h => h) (Or.inl ⟨by rfl, ?_⟩) (by assumption) ?_
            rotate_left
            · intro w hSw
              try dsimp only at hSw
              refine exec_lookup 60 (.tmp 42) (.tmp 44) ?_ _ _ ?_ ?_ (.agg (bcells ((fated fates 0 (s.L.take j) s.S) x.1))) (MapB.look (t := 60) (e := 59) hSw.2.2 (Maps.int_keyed Try.underlying3) Try.underlying60 Try.underlying3 (zeroB _) x.1 HX.out.2.1.2)
              · rfl
              · rfl
              · rfl
            try simp only [Act.put, List.setIfInBounds_toArray, List.set_cons_zero, List.set_cons_succ]
            refine wpAnyG_one (i := 7) (o := { dst := some 7, op := Op.alloc 59, type := 0, pos := _, after := #[], guard := none }) (by kernel_rfl) rfl (fun K hK => ?_)
            have hz9 := zeroB
            go_simp
            clear hz9
            try dsimp only
            refine hK.out _ _ ?_ (fun hHeld => ?_)
            · intro _
              try dsimp only
              exact ⟨cellA hHeld.1 _, cellA hHeld.2.1 _, hHeld.2.2.keep (nextA (Mem.start _) _)⟩
            clear hK K
            try simp only [Act.put, List.setIfInBounds_toArray, List.set_cons_zero, List.set_cons_succ]
            have hHeld := hHeld (by kernel_rfl)
            refine wpAnyG_one (i := 8) (o := { dst := none, op := Op.store 59 (Operand.tmp 7) (Operand.tmp 45), type := 0, pos := _, after := #[{ on := 7, ground := Ground.data }, { on := 6, ground := Ground.data }, { on := 0, ground := Ground.phase }, { on := 1, ground := Ground.phase }, { on := 2, ground := Ground.phase }, { on := 3, ground := Ground.phase }, { on := 4, ground := Ground.phase }, { on := 5, ground := Ground.phase }, { on := 6, ground := Ground.phase }, { on := 7, ground := Ground.phase }], guard := none }) (by kernel_rfl) rfl (fun K hK => ?_)
            refine step_store_new w1.drew rfl 59 (.tmp 7) (.tmp 45) rfl 59 (bcells z256) (bcells ((fated fates 0 (s.L.take j) s.S) x.1)) rfl rfl (bsame HFL.out).1 (bsame HFL.out).2 (bcells_one _) ?_
            intro w2 hb2 hw2 hs2
            have H2 := Lib.hid (And.intro hb2 (And.intro hw2 hs2))
            clear hb2 hw2 hs2
            try dsimp only
            refine hK.out _ _ ?_ (fun hHeld => ?_)
            · exact fun h => (st_no (by kernel_rfl) h).elim
            clear hK K
            try simp only [Act.put, List.setIfInBounds_toArray, List.set_cons_zero, List.set_cons_succ]
            clear hHeld
            refine wpAnyG_done (by kernel_rfl) ?_ _
            refine NoPanic.normal ?_
            --END on11a
            go_wp2_with fail
            have HCP := Lib.hid (show (x.2.take 256).length = Nat.min 256 256 ∧ 0 + (x.2.take 256).length ≤ (bcells (fated fates 0 (s.L.take j) s.S x.1)).size ∧ Bytes w2.drew w2.drew.heap.size (some ⟨wa.heap.size, 1, none⟩) (x.2.take 256) from ⟨List.length_take.trans ((congrArg _ HX.out.2.1.1).trans (Nat.min_comm _ _)), by rw [bcells_size, HFL.out, List.length_take, HX.out.2.1.1, Nat.zero_add]; exact Nat.min_le_right _ _, Bytes.take (lc_bytes ((HW.out.1.keep (nextN (Mem.start w1) 1)).keep (next H2.out.2.1 (nextN (Mem.start w2) 1))) (by have h1 := H2.out.2.2; have h2 := HW.out.2.2; have h3 : w2.heap.size = w1.heap.size + 1 := h1; show wa.heap.size < w2.heap.size; omega)) _⟩)
            --HELD on12a
            refine wp_region_noPanic ?_
            refine wp_heldG (fun _ => True) [] (by kernel_rfl) ?hs0 ?rg0
            case hs0 =>
              trivial
            case rg0 =>
            intro hHeld
            refine wpAnyG_pure (i := 0) (oi := { dst := some 46, op := Op.move (Operand.tmp 6), type := 3, pos := _, after := #[], guard := none }) (v := ?_) rfl (by kernel_rfl) (by kernel_rfl) (by kernel_rfl) (by kernel_rfl) (fun _ _ _ h => h) (Or.inl ⟨by rfl, ?_⟩) (fun _ => by assumption) ?_
            rotate_left
            · intro w hSw
              try dsimp only at hSw
              go_simp
              try with_reducible rfl
            try simp only [Act.put, List.setIfInBounds_toArray, List.set_cons_zero, List.set_cons_succ]
            refine wpAnyG_pure (i := 1) (oi := { dst := some 47, op := Op.slice 59 (Operand.tmp 7) none (some (Operand.tmp 46)) none, type := 23, pos := _, after := #[{ on := 0, ground := Ground.data }], guard := none }) (v := ?_) rfl (by kernel_rfl) (by kernel_rfl) (by kernel_rfl) (by kernel_rfl) (fun _ _ _ h => h) (Or.inl ⟨by rfl, ?_⟩) (fun _ => by assumption) ?_
            rotate_left
            · intro w hSw
              try dsimp only at hSw
              go_simp
              try with_reducible rfl
            try simp only [Act.put, List.setIfInBounds_toArray, List.set_cons_zero, List.set_cons_succ]
            refine wpAnyG_pure (i := 2) (oi := { dst := some 48, op := Op.fieldAddr 65 (Operand.tmp 5) 1, type := 0, pos := _, after := #[], guard := none }) (v := ?_) rfl (by kernel_rfl) (by kernel_rfl) (by kernel_rfl) (by kernel_rfl) (fun _ _ _ h => h) (Or.inl ⟨by rfl, ?_⟩) (fun _ => by assumption) ?_
            rotate_left
            · intro w hSw
              try dsimp only at hSw
              go_simp
              try with_reducible rfl
            try simp only [Act.put, List.setIfInBounds_toArray, List.set_cons_zero, List.set_cons_succ]
            refine wpAnyG_pure (i := 3) (oi := { dst := some 49, op := Op.slice 59 (Operand.tmp 48) none none none, type := 23, pos := _, after := #[{ on := 2, ground := Ground.data }], guard := none }) (v := ?_) rfl (by kernel_rfl) (by kernel_rfl) (by kernel_rfl) (by kernel_rfl) (fun _ _ _ h => h) (Or.inl ⟨by rfl, ?_⟩) (fun _ => by assumption) ?_
            rotate_left
            · intro w hSw
              try dsimp only at hSw
              go_simp
              try with_reducible rfl
            try simp only [Act.put, List.setIfInBounds_toArray, List.set_cons_zero, List.set_cons_succ]
            refine wpAnyG_one (i := 4) (o := { dst := some 50, op := Op.call { callee := Callee.builtin Builtin.copy, args := #[Operand.tmp 47, Operand.tmp 49], argTypes := #[23, 23] }, type := 3, pos := _, after := #[{ on := 1, ground := Ground.data }, { on := 3, ground := Ground.data }], guard := none }) (by kernel_rfl) rfl (fun K hK => ?_)
            refine step_copyin w2.drew rfl (.tmp 47) (.tmp 49) rfl w1.heap.size 0 256 256 (some ⟨wa.heap.size, 1, none⟩) 256 256 (x.2.take 256) 59 (bcells ((fated fates 0 (s.L.take j) s.S) x.1)) rfl rfl HCP.out.1 (H2.out.1.keep (nextN (Mem.start w2) 1)) HCP.out.2.1 HCP.out.2.2 ?_
            intro w3 kc hb3 hf3 hs3
            have H3 := Lib.hid (And.intro hb3 (And.intro hf3 hs3))
            clear hb3 hf3 hs3
            try dsimp only
            refine hK.out _ _ ?_ (fun hHeld => ?_)
            · intro _
              try dsimp only
              all_goals trivial
            clear hK K
            try simp only [Act.put, List.setIfInBounds_toArray, List.set_cons_zero, List.set_cons_succ]
            have hHeld := hHeld (by kernel_rfl)
            refine wpAnyG_done (by kernel_rfl) ?_ _
            refine NoPanic.normal ?_
            --END on12a
            go_wp2_with fail
            have hb3 := H3.out.1
            rw [bb_copied HX.out.2.1.1 HRL.out] at hb3
            obtain ⟨nb, hnb⟩ : ∃ nb, x.2.take 256 ++ (fated fates 0 (s.L.take j) s.S x.1).drop 256 = nb := ⟨_, rfl⟩
            rw [hnb] at hb3
            have HNBE := Lib.hid hnb
            clear hnb
            have hw1d := next (nextN (Mem.start w1) 1) (Mem.start _)
            have hwx : Below wa.heap.size wa w2 := next HW.out.2.1 ((next (nextN (Mem.start w1) 1) H2.out.2.1))
            have hf3 : Fr (fun q => q = w1.heap.size) w2 w3.drew := (((Fr.quiet (S := fun q => q = w1.heap.size) (nextN (Mem.start w2) 1)).trans H3.out.2.1 fun _ _ h => h)).drew
            have hms3 : MB w3.drew ms (kS + j) (fated fates 0 (s.L.take j) s.S) := (HI.out.2.1.keep hwx).fr hf3 (fun e => by have h1 := HI.out.2.1.lt; have h2 := HW.out.2.2; have h3 : ms = w1.heap.size := e; omega)
            have HM3 := Lib.hid hms3
            have HNB := Lib.hid (show nb.length = 256 from by rw [← HNBE.out, List.length_append, List.length_take, List.length_drop, HX.out.2.1.1, HFL.out]; have := HRL.out; omega)
            have HKM := Lib.hid (show kS + j < maxLen from by have h1 := HD.out.bound.2.1; have h2 := HKS.out; unfold maxLen; omega)
            have hpw := HI.out.1.lt
            have HT3 := Lib.hid (show w3.drew.cell? ⟨p, 1, none⟩ = some (.map (some ms)) ∧ w3.drew.cell? ⟨wa.heap.size, 0, none⟩ = some (.int .i64 x.1) ∧ Blk w3.drew w1.heap.size 59 (bcells nb) from ⟨cellFr hf3 (cellB hwx (HI.out.1.cell 1)) (fun e => by have h2 := HW.out.2.2; have h3 : p = w1.heap.size := e; omega), cellFr hf3 (cellB (next (nextN (Mem.start w1) 1) H2.out.2.1) (HW.out.1.cell 0)) (fun e => by have h2 := HW.out.2.2; have h3 : wa.heap.size = w1.heap.size := e; omega), hb3.keep (nextN (Mem.start w3) 1)⟩)
            clear hb3 hw1d hms3
            --HELD on13a
            refine wp_region_noPanic ?_
            refine wp_heldG (fun w' => w'.cell? ⟨p, 1, none⟩ = some (.map (some ms)) ∧ w'.cell? ⟨wa.heap.size, 0, none⟩ = some (.int .i64 x.1) ∧ Blk w' w1.heap.size 59 (bcells nb)) [7] (by kernel_rfl) ?hs0 ?rg0
            case hs0 =>
              exact HT3.out
            case rg0 =>
            intro hHeld
            refine wpAnyG_pure (i := 0) (oi := { dst := some 51, op := Op.move (Operand.tmp 0), type := 28, pos := _, after := #[], guard := none }) (v := ?_) rfl (by kernel_rfl) (by kernel_rfl) (by kernel_rfl) (by kernel_rfl) (fun _ _ _ h => h) (Or.inl ⟨by rfl, ?_⟩) (fun _ => by assumption) ?_
            rotate_left
            · intro w hSw
              try dsimp only at hSw
              go_simp
              try with_reducible rfl
            try simp only [Act.put, List.setIfInBounds_toArray, List.set_cons_zero, List.set_cons_succ]
            refine wpAnyG_pure (i := 1) (oi := { dst := some 52, op := Op.nilCheck (Operand.tmp 51), type := 0, pos := _, after := #[{ on := 0, ground := Ground.data }], guard := none }) (v := ?_) rfl (by kernel_rfl) (by kernel_rfl) (by kernel_rfl) (by kernel_rfl) (fun _ _ _ h => h) (Or.inl ⟨by rfl, ?_⟩) (fun _ => by assumption) ?_
            rotate_left
            · intro w hSw
              try dsimp only at hSw
              go_simp
              try with_reducible rfl
            try simp only [Act.put, List.setIfInBounds_toArray, List.set_cons_zero, List.set_cons_succ]
            refine wpAnyG_pure (i := 2) (oi := { dst := some 53, op := Op.fieldAddr 63 (Operand.tmp 52) 1, type := 0, pos := _, after := #[{ on := 1, ground := Ground.data }], guard := none }) (v := ?_) rfl (by kernel_rfl) (by kernel_rfl) (by kernel_rfl) (by kernel_rfl) (fun _ _ _ h => h) (Or.inl ⟨by rfl, ?_⟩) (fun _ => by assumption) ?_
            rotate_left
            · intro w hSw
              try dsimp only at hSw
              go_simp
              try with_reducible rfl
            try simp only [Act.put, List.setIfInBounds_toArray, List.set_cons_zero, List.set_cons_succ]
            refine wpAnyG_take (i := 3) (oi := { dst := some 54, op := Op.load 60 (Operand.tmp 53), type := 60, pos := _, after := #[{ on := 2, ground := Ground.data }], guard := none }) (v := ?_) rfl (by kernel_rfl) (by kernel_rfl) (by kernel_rfl) (by kernel_rfl) (fun _ _ _ h => h) (Or.inl ⟨by rfl, ?_⟩) (by assumption) ?_
            rotate_left
            · intro w hSw
              try dsimp only at hSw
              go_simp
              try with_reducible rfl
            try simp only [Act.put, List.setIfInBounds_toArray, List.set_cons_zero, List.set_cons_succ]
            refine wpAnyG_pure (i := 4) (oi := { dst := some 55, op := Op.fieldAddr 65 (Operand.tmp 5) 0, type := 0, pos := _, after := #[], guard := none }) (v := ?_) rfl (by kernel_rfl) (by kernel_rfl) (by kernel_rfl) (by kernel_rfl) (fun _ _ _ h => h) (Or.inl ⟨by rfl, ?_⟩) (fun _ => by assumption) ?_
            rotate_left
            · intro w hSw
              try dsimp only at hSw
              go_simp
              try with_reducible rfl
            try simp only [Act.put, List.setIfInBounds_toArray, List.set_cons_zero, List.set_cons_succ]
            refine wpAnyG_take (i := 5) (oi := { dst := some 56, op := Op.load 3 (Operand.tmp 55), type := 3, pos := _, after := #[{ on := 4, ground := Ground.data }], guard := none }) (v := ?_) rfl (by kernel_rfl) (by kernel_rfl) (by kernel_rfl) (by kernel_rfl) (fun _ _ _ h => h) (Or.inl ⟨by rfl, ?_⟩) (by assumption) ?_
            rotate_left
            · intro w hSw
              try dsimp only at hSw
              go_simp
              try with_reducible rfl
            try simp only [Act.put, List.setIfInBounds_toArray, List.set_cons_zero, List.set_cons_succ]
            refine wpAnyG_take (i := 6) (oi := { dst := some 57, op := Op.load 59 (Operand.tmp 7), type := 59, pos := _, after := #[], guard := none }) (v := ?_) rfl (by kernel_rfl) (by kernel_rfl) (by kernel_rfl) (by kernel_rfl) (fun _ _ _ h => h) (Or.inl ⟨by rfl, ?_⟩) (by assumption) ?_
            rotate_left
            · intro w hSw
              try dsimp only at hSw
              refine exec_load 59 (.tmp 7) ?_ _ ?_ (.agg (bcells nb)) (load_bb hSw.2.2 HNB.out)
              · rfl
              · rfl
            try simp only [Act.put, List.setIfInBounds_toArray, List.set_cons_zero, List.set_cons_succ]
            refine wpAnyG_one (i := 7) (o := { dst := none, op := Op.mapUpdate 60 (Operand.tmp 54) (Operand.tmp 56) (Operand.tmp 57), type := 0, pos := _, after := #[{ on := 3, ground := Ground.data }, { on := 5, ground := Ground.data }, { on := 6, ground := Ground.data }, { on := 0, ground := Ground.phase }, { on := 1, ground := Ground.phase }, { on := 2, ground := Ground.phase }, { on := 3, ground := Ground.phase }, { on := 4, ground := Ground.phase }, { on := 5, ground := Ground.phase }, { on := 6, ground := Ground.phase }], guard := none }) (by kernel_rfl) rfl (fun K hK => ?_)
            obtain ⟨w4, hmu, hm4, hg4⟩ := MapB.store (t := 60) (e := 59) HM3.out (Maps.int_keyed Try.underlying3) Try.underlying60 Try.underlying3 HKM.out x.1 HX.out.2.1.2 nb
            have H4 := Lib.hid (And.intro hm4 hg4)
            clear hm4 hg4
            go_simp
            clear hmu
            try dsimp only
            refine hK.out _ _ ?_ (fun hHeld => ?_)
            · exact fun h => (st_no (by kernel_rfl) h).elim
            clear hK K
            try simp only [Act.put, List.setIfInBounds_toArray, List.set_cons_zero, List.set_cons_succ]
            clear hHeld
            refine wpAnyG_done (by kernel_rfl) ?_ _
            refine NoPanic.normal ?_
            --END on13a
            go_wp2_with fail
            go_roundw
            case rel =>
              refine ⟨j + 1, by simp, hjk, ?_⟩
              have f34 : Fr (fun q => q = ms) w3.drew w4 := Fr.grown (S := fun q => q = ms) H4.out.2 (fun q hq => by injection hq with hq; exact hq.symm)
              have h2 := HW.out.2.2
              have hpms : ¬ (p = ms) := fun e => HD.out.foot.2.2.2.2.1 e.symm
              refine ⟨((HI.out.1.keep hwx).fr hf3 (fun e => by have h3 : p = w1.heap.size := e; omega)).fr f34 hpms, ?_, ?_⟩
              · have h1 : MB w4 ms (kS + (j + 1)) (upd (fated fates 0 (s.L.take j) s.S) x.1 nb) := H4.out.1
                rw [on_next HX.out.1 HR.out HNBE.out]; exact h1
              · have hws := HI.out.2.2.size
                exact ((HI.out.2.2.trans (Fr.quiet (S := fun q => q = p ∨ q = ms) hwx) fun _ _ h => h).trans hf3 fun q hq e => by have h3 : q = w1.heap.size := e; omega).trans f34 fun q _ e => .inr e
            case measure => simp [intOf]; omega
          · have HR := Lib.hid (show reach fates j = t.toNat from by unfold reach; rw [ht]; exact if_neg ht5)
            have HRL := Lib.hid (show t.toNat ≤ 256 from by omega)
            have ht6 : ((t.toNat : Int) == 255) = false := by simp; omega
            have ht7 : (t.toNat : Int) ≤ 255 := by omega
            have ht8 : (0 : Int) ≤ (t.toNat : Int) := by omega
            have ht9 : (t.toNat : Int) ≤ 256 := by omega
            have ht10 : (t.toNat : Int) ≤ Try.prog.arrayLen 59 := ht9
            clear ht ht5 htb
            go_wp2_with (first
              | ((with_reducible show wpList _ _ _ ((⟨some 27, _, _, _, _, _⟩ : Oper) :: _) _ _); refine wpList_load_mid rfl 65 (.tmp 26) rfl g (j * 257) rfl (lcells x) _ HX.out.2.2.2 Try.underlying65 rfl (by rw [lcells_len HX.out.2.1.1]; exact linfo) ?_)
              | ((with_reducible show wpList _ _ _ ((⟨none, .store 65 (.tmp 5) (.tmp 27), _, _, _, _⟩ : Oper) :: _) _ _); refine wpList_store_new wa rfl 65 (.tmp 5) (.tmp 27) rfl 65 (lc (0, z256)) (lc x) rfl rfl (lsame (y := (0, z256)) HX.out.2.1.1 z256_len).1 (lsame (y := (0, z256)) HX.out.2.1.1 z256_len).2 (lc_one _) ?_; intro w1 hb1 hw1 hs1; have HW := Lib.hid (And.intro hb1 (And.intro hw1 hs1)); have hfw := cellB hw1 HFC.out; clear hb1 hw1 hs1))
            have HFL := Lib.hid (show (fated fates 0 (s.L.take j) s.S x.1).length = 256 from fated_len fates _ 0 _ (fun y hy => (HD.out.lens.1 y (List.mem_of_mem_take hy)).1) HD.out.lens.2.1 x.1)
            have HT := Lib.hid (show w1.drew.cell? ⟨p, 1, none⟩ = some (.map (some ms)) ∧ w1.drew.cell? ⟨wa.heap.size, 0, none⟩ = some (.int .i64 x.1) ∧ MB w1.drew ms (kS + j) (fated fates 0 (s.L.take j) s.S) from ⟨cellB HW.out.2.1 (HI.out.1.cell 1), HW.out.1.cell 0, HI.out.2.1.keep (next HW.out.2.1 (nextN (Mem.start w1) 1))⟩)
            --HELD on11b
            refine wp_region_noPanic ?_
            refine wp_heldG (fun w' => w'.cell? ⟨p, 1, none⟩ = some (.map (some ms)) ∧ w'.cell? ⟨wa.heap.size, 0, none⟩ = some (.int .i64 x.1) ∧ MB w' ms (kS + j) (fated fates 0 (s.L.take j) s.S)) [8] (by kernel_rfl) ?hs0 ?rg0
            case hs0 =>
              exact HT.out
            case rg0 =>
            intro hHeld
            refine wpAnyG_pure (i := 0) (oi := { dst := some 39, op := Op.move (Operand.tmp 0), type := 28, pos := _, after := #[], guard := none }) (v := ?_) rfl (by kernel_rfl) (by kernel_rfl) (by kernel_rfl) (by kernel_rfl) (fun _ _ _ h => h) (Or.inl ⟨by rfl, ?_⟩) (fun _ => by assumption) ?_
            rotate_left
            · intro w hSw
              try dsimp only at hSw
              go_simp
              try with_reducible rfl
            try simp only [Act.put, List.setIfInBounds_toArray, List.set_cons_zero, List.set_cons_succ]
            refine wpAnyG_pure (i := 1) (oi := { dst := some 40, op := Op.nilCheck (Operand.tmp 39), type := 0, pos := _, after := #[{ on := 0, ground := Ground.data }], guard := none }) (v := ?_) rfl (by kernel_rfl) (by kernel_rfl) (by kernel_rfl) (by kernel_rfl) (fun _ _ _ h => h) (Or.inl ⟨by rfl, ?_⟩) (fun _ => by assumption) ?_
            rotate_left
            · intro w hSw
              try dsimp only at hSw
              go_simp
              try with_reducible rfl
            try simp only [Act.put, List.setIfInBounds_toArray, List.set_cons_zero, List.set_cons_succ]
            refine wpAnyG_pure (i := 2) (oi := { dst := some 41, op := Op.fieldAddr 63 (Operand.tmp 40) 1, type := 0, pos := _, after := #[{ on := 1, ground := Ground.data }], guard := none }) (v := ?_) rfl (by kernel_rfl) (by kernel_rfl) (by kernel_rfl) (by kernel_rfl) (fun _ _ _ h => h) (Or.inl ⟨by rfl, ?_⟩) (fun _ => by assumption) ?_
            rotate_left
            · intro w hSw
              try dsimp only at hSw
              go_simp
              try with_reducible rfl
            try simp only [Act.put, List.setIfInBounds_toArray, List.set_cons_zero, List.set_cons_succ]
            refine wpAnyG_take (i := 3) (oi := { dst := some 42, op := Op.load 60 (Operand.tmp 41), type := 60, pos := _, after := #[{ on := 2, ground := Ground.data }], guard := none }) (v := ?_) rfl (by kernel_rfl) (by kernel_rfl) (by kernel_rfl) (by kernel_rfl) (fun _ _ _ h => h) (Or.inl ⟨by rfl, ?_⟩) (by assumption) ?_
            rotate_left
            · intro w hSw
              try dsimp only at hSw
              go_simp
              try with_reducible rfl
            try simp only [Act.put, List.setIfInBounds_toArray, List.set_cons_zero, List.set_cons_succ]
            refine wpAnyG_pure (i := 4) (oi := { dst := some 43, op := Op.fieldAddr 65 (Operand.tmp 5) 0, type := 0, pos := _, after := #[], guard := none }) (v := ?_) rfl (by kernel_rfl) (by kernel_rfl) (by kernel_rfl) (by kernel_rfl) (fun _ _ _ h => h) (Or.inl ⟨by rfl, ?_⟩) (fun _ => by assumption) ?_
            rotate_left
            · intro w hSw
              try dsimp only at hSw
              go_simp
              try with_reducible rfl
            try simp only [Act.put, List.setIfInBounds_toArray, List.set_cons_zero, List.set_cons_succ]
            refine wpAnyG_take (i := 5) (oi := { dst := some 44, op := Op.load 3 (Operand.tmp 43), type := 3, pos := _, after := #[{ on := 4, ground := Ground.data }], guard := none }) (v := ?_) rfl (by kernel_rfl) (by kernel_rfl) (by kernel_rfl) (by kernel_rfl) (fun _ _ _ h => h) (Or.inl ⟨by rfl, ?_⟩) (by assumption) ?_
            rotate_left
            · intro w hSw
              try dsimp only at hSw
              go_simp
              try with_reducible rfl
            try simp only [Act.put, List.setIfInBounds_toArray, List.set_cons_zero, List.set_cons_succ]
            refine wpAnyG_take (i := 6) (oi := { dst := some 45, op := Op.lookup 60 (Operand.tmp 42) (Operand.tmp 44) false, type := 59, pos := _, after := #[{ on := 3, ground := Ground.data }, { on := 5, ground := Ground.data }], guard := none }) (v := ?_) rfl (by kernel_rfl) (by kernel_rfl) (by kernel_rfl) (by kernel_rfl) (fun _ _ _ h => h) (Or.inl ⟨by rfl, ?_⟩) (by assumption) ?_
            rotate_left
            · intro w hSw
              try dsimp only at hSw
              refine exec_lookup 60 (.tmp 42) (.tmp 44) ?_ _ _ ?_ ?_ (.agg (bcells ((fated fates 0 (s.L.take j) s.S) x.1))) (MapB.look (t := 60) (e := 59) hSw.2.2 (Maps.int_keyed Try.underlying3) Try.underlying60 Try.underlying3 (zeroB _) x.1 HX.out.2.1.2)
              · rfl
              · rfl
              · rfl
            try simp only [Act.put, List.setIfInBounds_toArray, List.set_cons_zero, List.set_cons_succ]
            refine wpAnyG_one (i := 7) (o := { dst := some 7, op := Op.alloc 59, type := 0, pos := _, after := #[], guard := none }) (by kernel_rfl) rfl (fun K hK => ?_)
            have hz9 := zeroB
            go_simp
            clear hz9
            try dsimp only
            refine hK.out _ _ ?_ (fun hHeld => ?_)
            · intro _
              try dsimp only
              exact ⟨cellA hHeld.1 _, cellA hHeld.2.1 _, hHeld.2.2.keep (nextA (Mem.start _) _)⟩
            clear hK K
            try simp only [Act.put, List.setIfInBounds_toArray, List.set_cons_zero, List.set_cons_succ]
            have hHeld := hHeld (by kernel_rfl)
            refine wpAnyG_one (i := 8) (o := { dst := none, op := Op.store 59 (Operand.tmp 7) (Operand.tmp 45), type := 0, pos := _, after := #[{ on := 7, ground := Ground.data }, { on := 6, ground := Ground.data }, { on := 0, ground := Ground.phase }, { on := 1, ground := Ground.phase }, { on := 2, ground := Ground.phase }, { on := 3, ground := Ground.phase }, { on := 4, ground := Ground.phase }, { on := 5, ground := Ground.phase }, { on := 6, ground := Ground.phase }, { on := 7, ground := Ground.phase }], guard := none }) (by kernel_rfl) rfl (fun K hK => ?_)
            refine step_store_new w1.drew rfl 59 (.tmp 7) (.tmp 45) rfl 59 (bcells z256) (bcells ((fated fates 0 (s.L.take j) s.S) x.1)) rfl rfl (bsame HFL.out).1 (bsame HFL.out).2 (bcells_one _) ?_
            intro w2 hb2 hw2 hs2
            have H2 := Lib.hid (And.intro hb2 (And.intro hw2 hs2))
            clear hb2 hw2 hs2
            try dsimp only
            refine hK.out _ _ ?_ (fun hHeld => ?_)
            · exact fun h => (st_no (by kernel_rfl) h).elim
            clear hK K
            try simp only [Act.put, List.setIfInBounds_toArray, List.set_cons_zero, List.set_cons_succ]
            clear hHeld
            refine wpAnyG_done (by kernel_rfl) ?_ _
            refine NoPanic.normal ?_
            --END on11b
            go_wp2_with fail
            have HCP := Lib.hid (show (x.2.take t.toNat).length = Nat.min 256 t.toNat ∧ 0 + (x.2.take t.toNat).length ≤ (bcells (fated fates 0 (s.L.take j) s.S x.1)).size ∧ Bytes w2.drew w2.drew.heap.size (some ⟨wa.heap.size, 1, none⟩) (x.2.take t.toNat) from ⟨List.length_take.trans ((congrArg _ HX.out.2.1.1).trans (Nat.min_comm _ _)), by rw [bcells_size, HFL.out, List.length_take, HX.out.2.1.1, Nat.zero_add]; exact Nat.min_le_right _ _, Bytes.take (lc_bytes ((HW.out.1.keep (nextN (Mem.start w1) 1)).keep (next H2.out.2.1 (nextN (Mem.start w2) 1))) (by have h1 := H2.out.2.2; have h2 := HW.out.2.2; have h3 : w2.heap.size = w1.heap.size + 1 := h1; show wa.heap.size < w2.heap.size; omega)) _⟩)
            --HELD on12b
            refine wp_region_noPanic ?_
            refine wp_heldG (fun _ => True) [] (by kernel_rfl) ?hs0 ?rg0
            case hs0 =>
              trivial
            case rg0 =>
            intro hHeld
            refine wpAnyG_pure (i := 0) (oi := { dst := some 46, op := Op.move (Operand.tmp 6), type := 3, pos := _, after := #[], guard := none }) (v := ?_) rfl (by kernel_rfl) (by kernel_rfl) (by kernel_rfl) (by kernel_rfl) (fun _ _ _ h => h) (Or.inl ⟨by rfl, ?_⟩) (fun _ => by assumption) ?_
            rotate_left
            · intro w hSw
              try dsimp only at hSw
              go_simp
              try with_reducible rfl
            try simp only [Act.put, List.setIfInBounds_toArray, List.set_cons_zero, List.set_cons_succ]
            refine wpAnyG_pure (i := 1) (oi := { dst := some 47, op := Op.slice 59 (Operand.tmp 7) none (some (Operand.tmp 46)) none, type := 23, pos := _, after := #[{ on := 0, ground := Ground.data }], guard := none }) (v := ?_) rfl (by kernel_rfl) (by kernel_rfl) (by kernel_rfl) (by kernel_rfl) (fun _ _ _ h => h) (Or.inl ⟨by rfl, ?_⟩) (fun _ => by assumption) ?_
            rotate_left
            · intro w hSw
              try dsimp only at hSw
              go_simp
              try with_reducible rfl
            try simp only [Act.put, List.setIfInBounds_toArray, List.set_cons_zero, List.set_cons_succ]
            refine wpAnyG_pure (i := 2) (oi := { dst := some 48, op := Op.fieldAddr 65 (Operand.tmp 5) 1, type := 0, pos := _, after := #[], guard := none }) (v := ?_) rfl (by kernel_rfl) (by kernel_rfl) (by kernel_rfl) (by kernel_rfl) (fun _ _ _ h => h) (Or.inl ⟨by rfl, ?_⟩) (fun _ => by assumption) ?_
            rotate_left
            · intro w hSw
              try dsimp only at hSw
              go_simp
              try with_reducible rfl
            try simp only [Act.put, List.setIfInBounds_toArray, List.set_cons_zero, List.set_cons_succ]
            refine wpAnyG_pure (i := 3) (oi := { dst := some 49, op := Op.slice 59 (Operand.tmp 48) none none none, type := 23, pos := _, after := #[{ on := 2, ground := Ground.data }], guard := none }) (v := ?_) rfl (by kernel_rfl) (by kernel_rfl) (by kernel_rfl) (by kernel_rfl) (fun _ _ _ h => h) (Or.inl ⟨by rfl, ?_⟩) (fun _ => by assumption) ?_
            rotate_left
            · intro w hSw
              try dsimp only at hSw
              go_simp
              try with_reducible rfl
            try simp only [Act.put, List.setIfInBounds_toArray, List.set_cons_zero, List.set_cons_succ]
            refine wpAnyG_one (i := 4) (o := { dst := some 50, op := Op.call { callee := Callee.builtin Builtin.copy, args := #[Operand.tmp 47, Operand.tmp 49], argTypes := #[23, 23] }, type := 3, pos := _, after := #[{ on := 1, ground := Ground.data }, { on := 3, ground := Ground.data }], guard := none }) (by kernel_rfl) rfl (fun K hK => ?_)
            refine step_copyin w2.drew rfl (.tmp 47) (.tmp 49) rfl w1.heap.size 0 t.toNat 256 (some ⟨wa.heap.size, 1, none⟩) 256 256 (x.2.take t.toNat) 59 (bcells ((fated fates 0 (s.L.take j) s.S) x.1)) rfl rfl HCP.out.1 (H2.out.1.keep (nextN (Mem.start w2) 1)) HCP.out.2.1 HCP.out.2.2 ?_
            intro w3 kc hb3 hf3 hs3
            have H3 := Lib.hid (And.intro hb3 (And.intro hf3 hs3))
            clear hb3 hf3 hs3
            try dsimp only
            refine hK.out _ _ ?_ (fun hHeld => ?_)
            · intro _
              try dsimp only
              all_goals trivial
            clear hK K
            try simp only [Act.put, List.setIfInBounds_toArray, List.set_cons_zero, List.set_cons_succ]
            have hHeld := hHeld (by kernel_rfl)
            refine wpAnyG_done (by kernel_rfl) ?_ _
            refine NoPanic.normal ?_
            --END on12b
            go_wp2_with fail
            have hb3 := H3.out.1
            rw [bb_copied HX.out.2.1.1 HRL.out] at hb3
            obtain ⟨nb, hnb⟩ : ∃ nb, x.2.take t.toNat ++ (fated fates 0 (s.L.take j) s.S x.1).drop t.toNat = nb := ⟨_, rfl⟩
            rw [hnb] at hb3
            have HNBE := Lib.hid hnb
            clear hnb
            have hw1d := next (nextN (Mem.start w1) 1) (Mem.start _)
            have hwx : Below wa.heap.size wa w2 := next HW.out.2.1 ((next (nextN (Mem.start w1) 1) H2.out.2.1))
            have hf3 : Fr (fun q => q = w1.heap.size) w2 w3.drew := (((Fr.quiet (S := fun q => q = w1.heap.size) (nextN (Mem.start w2) 1)).trans H3.out.2.1 fun _ _ h => h)).drew
            have hms3 : MB w3.drew ms (kS + j) (fated fates 0 (s.L.take j) s.S) := (HI.out.2.1.keep hwx).fr hf3 (fun e => by have h1 := HI.out.2.1.lt; have h2 := HW.out.2.2; have h3 : ms = w1.heap.size := e; omega)
            have HM3 := Lib.hid hms3
            have HNB := Lib.hid (show nb.length = 256 from by rw [← HNBE.out, List.length_append, List.length_take, List.length_drop, HX.out.2.1.1, HFL.out]; have := HRL.out; omega)
            have HKM := Lib.hid (show kS + j < maxLen from by have h1 := HD.out.bound.2.1; have h2 := HKS.out; unfold maxLen; omega)
            have hpw := HI.out.1.lt
            have HT3 := Lib.hid (show w3.drew.cell? ⟨p, 1, none⟩ = some (.map (some ms)) ∧ w3.drew.cell? ⟨wa.heap.size, 0, none⟩ = some (.int .i64 x.1) ∧ Blk w3.drew w1.heap.size 59 (bcells nb) from ⟨cellFr hf3 (cellB hwx (HI.out.1.cell 1)) (fun e => by have h2 := HW.out.2.2; have h3 : p = w1.heap.size := e; omega), cellFr hf3 (cellB (next (nextN (Mem.start w1) 1) H2.out.2.1) (HW.out.1.cell 0)) (fun e => by have h2 := HW.out.2.2; have h3 : wa.heap.size = w1.heap.size := e; omega), hb3.keep (nextN (Mem.start w3) 1)⟩)
            clear hb3 hw1d hms3
            --HELD on13b
            refine wp_region_noPanic ?_
            refine wp_heldG (fun w' => w'.cell? ⟨p, 1, none⟩ = some (.map (some ms)) ∧ w'.cell? ⟨wa.heap.size, 0, none⟩ = some (.int .i64 x.1) ∧ Blk w' w1.heap.size 59 (bcells nb)) [7] (by kernel_rfl) ?hs0 ?rg0
            case hs0 =>
              exact HT3.out
            case rg0 =>
            intro hHeld
            refine wpAnyG_pure (i := 0) (oi := { dst := some 51, op := Op.move (Operand.tmp 0), type := 28, pos := _, after := #[], guard := none }) (v := ?_) rfl (by kernel_rfl) (by kernel_rfl) (by kernel_rfl) (by kernel_rfl) (fun _ _ _ h => h) (Or.inl ⟨by rfl, ?_⟩) (fun _ => by assumption) ?_
            rotate_left
            · intro w hSw
              try dsimp only at hSw
              go_simp
              try with_reducible rfl
            try simp only [Act.put, List.setIfInBounds_toArray, List.set_cons_zero, List.set_cons_succ]
            refine wpAnyG_pure (i := 1) (oi := { dst := some 52, op := Op.nilCheck (Operand.tmp 51), type := 0, pos := _, after := #[{ on := 0, ground := Ground.data }], guard := none }) (v := ?_) rfl (by kernel_rfl) (by kernel_rfl) (by kernel_rfl) (by kernel_rfl) (fun _ _ _ h => h) (Or.inl ⟨by rfl, ?_⟩) (fun _ => by assumption) ?_
            rotate_left
            · intro w hSw
              try dsimp only at hSw
              go_simp
              try with_reducible rfl
            try simp only [Act.put, List.setIfInBounds_toArray, List.set_cons_zero, List.set_cons_succ]
            refine wpAnyG_pure (i := 2) (oi := { dst := some 53, op := Op.fieldAddr 63 (Operand.tmp 52) 1, type := 0, pos := _, after := #[{ on := 1, ground := Ground.data }], guard := none }) (v := ?_) rfl (by kernel_rfl) (by kernel_rfl) (by kernel_rfl) (by kernel_rfl) (fun _ _ _ h => h) (Or.inl ⟨by rfl, ?_⟩) (fun _ => by assumption) ?_
            rotate_left
            · intro w hSw
              try dsimp only at hSw
              go_simp
              try with_reducible rfl
            try simp only [Act.put, List.setIfInBounds_toArray, List.set_cons_zero, List.set_cons_succ]
            refine wpAnyG_take (i := 3) (oi := { dst := some 54, op := Op.load 60 (Operand.tmp 53), type := 60, pos := _, after := #[{ on := 2, ground := Ground.data }], guard := none }) (v := ?_) rfl (by kernel_rfl) (by kernel_rfl) (by kernel_rfl) (by kernel_rfl) (fun _ _ _ h => h) (Or.inl ⟨by rfl, ?_⟩) (by assumption) ?_
            rotate_left
            · intro w hSw
              try dsimp only at hSw
              go_simp
              try with_reducible rfl
            try simp only [Act.put, List.setIfInBounds_toArray, List.set_cons_zero, List.set_cons_succ]
            refine wpAnyG_pure (i := 4) (oi := { dst := some 55, op := Op.fieldAddr 65 (Operand.tmp 5) 0, type := 0, pos := _, after := #[], guard := none }) (v := ?_) rfl (by kernel_rfl) (by kernel_rfl) (by kernel_rfl) (by kernel_rfl) (fun _ _ _ h => h) (Or.inl ⟨by rfl, ?_⟩) (fun _ => by assumption) ?_
            rotate_left
            · intro w hSw
              try dsimp only at hSw
              go_simp
              try with_reducible rfl
            try simp only [Act.put, List.setIfInBounds_toArray, List.set_cons_zero, List.set_cons_succ]
            refine wpAnyG_take (i := 5) (oi := { dst := some 56, op := Op.load 3 (Operand.tmp 55), type := 3, pos := _, after := #[{ on := 4, ground := Ground.data }], guard := none }) (v := ?_) rfl (by kernel_rfl) (by kernel_rfl) (by kernel_rfl) (by kernel_rfl) (fun _ _ _ h => h) (Or.inl ⟨by rfl, ?_⟩) (by assumption) ?_
            rotate_left
            · intro w hSw
              try dsimp only at hSw
              go_simp
              try with_reducible rfl
            try simp only [Act.put, List.setIfInBounds_toArray, List.set_cons_zero, List.set_cons_succ]
            refine wpAnyG_take (i := 6) (oi := { dst := some 57, op := Op.load 59 (Operand.tmp 7), type := 59, pos := _, after := #[], guard := none }) (v := ?_) rfl (by kernel_rfl) (by kernel_rfl) (by kernel_rfl) (by kernel_rfl) (fun _ _ _ h => h) (Or.inl ⟨by rfl, ?_⟩) (by assumption) ?_
            rotate_left
            · intro w hSw
              try dsimp only at hSw
              refine exec_load 59 (.tmp 7) ?_ _ ?_ (.agg (bcells nb)) (load_bb hSw.2.2 HNB.out)
              · rfl
              · rfl
            try simp only [Act.put, List.setIfInBounds_toArray, List.set_cons_zero, List.set_cons_succ]
            refine wpAnyG_one (i := 7) (o := { dst := none, op := Op.mapUpdate 60 (Operand.tmp 54) (Operand.tmp 56) (Operand.tmp 57), type := 0, pos := _, after := #[{ on := 3, ground := Ground.data }, { on := 5, ground := Ground.data }, { on := 6, ground := Ground.data }, { on := 0, ground := Ground.phase }, { on := 1, ground := Ground.phase }, { on := 2, ground := Ground.phase }, { on := 3, ground := Ground.phase }, { on := 4, ground := Ground.phase }, { on := 5, ground := Ground.phase }, { on := 6, ground := Ground.phase }], guard := none }) (by kernel_rfl) rfl (fun K hK => ?_)
            obtain ⟨w4, hmu, hm4, hg4⟩ := MapB.store (t := 60) (e := 59) HM3.out (Maps.int_keyed Try.underlying3) Try.underlying60 Try.underlying3 HKM.out x.1 HX.out.2.1.2 nb
            have H4 := Lib.hid (And.intro hm4 hg4)
            clear hm4 hg4
            go_simp
            clear hmu
            try dsimp only
            refine hK.out _ _ ?_ (fun hHeld => ?_)
            · exact fun h => (st_no (by kernel_rfl) h).elim
            clear hK K
            try simp only [Act.put, List.setIfInBounds_toArray, List.set_cons_zero, List.set_cons_succ]
            clear hHeld
            refine wpAnyG_done (by kernel_rfl) ?_ _
            refine NoPanic.normal ?_
            --END on13b
            go_wp2_with fail
            go_roundw
            case rel =>
              refine ⟨j + 1, by simp, hjk, ?_⟩
              have f34 : Fr (fun q => q = ms) w3.drew w4 := Fr.grown (S := fun q => q = ms) H4.out.2 (fun q hq => by injection hq with hq; exact hq.symm)
              have h2 := HW.out.2.2
              have hpms : ¬ (p = ms) := fun e => HD.out.foot.2.2.2.2.1 e.symm
              refine ⟨((HI.out.1.keep hwx).fr hf3 (fun e => by have h3 : p = w1.heap.size := e; omega)).fr f34 hpms, ?_, ?_⟩
              · have h1 : MB w4 ms (kS + (j + 1)) (upd (fated fates 0 (s.L.take j) s.S) x.1 nb) := H4.out.1
                rw [on_next HX.out.1 HR.out HNBE.out]; exact h1
              · have hws := HI.out.2.2.size
                exact ((HI.out.2.2.trans (Fr.quiet (S := fun q => q = p ∨ q = ms) hwx) fun _ _ h => h).trans hf3 fun q hq e => by have h3 : q = w1.heap.size := e; omega).trans f34 fun q _ e => .inr e
            case measure => simp [intOf]; omega
        · have hjni : (n : Int) ≤ (j : Int) := by omega
          have hr0 : reach fates j = 0 := by unfold reach; rw [List.getElem?_eq_none (by rw [HN.out.1]; omega)]
          have HR := Lib.hid hr0
          clear hr0
          go_wp2_with (first
            | ((with_reducible show wpList _ _ _ ((⟨some 27, _, _, _, _, _⟩ : Oper) :: _) _ _); refine wpList_load_mid rfl 65 (.tmp 26) rfl g (j * 257) rfl (lcells x) _ HX.out.2.2.2 Try.underlying65 rfl (by rw [lcells_len HX.out.2.1.1]; exact linfo) ?_)
            | ((with_reducible show wpList _ _ _ ((⟨none, .store 65 (.tmp 5) (.tmp 27), _, _, _, _⟩ : Oper) :: _) _ _); refine wpList_store_new wa rfl 65 (.tmp 5) (.tmp 27) rfl 65 (lc (0, z256)) (lc x) rfl rfl (lsame (y := (0, z256)) HX.out.2.1.1 z256_len).1 (lsame (y := (0, z256)) HX.out.2.1.1 z256_len).2 (lc_one _) ?_; intro w1 hb1 hw1 hs1; have HW := Lib.hid (And.intro hb1 (And.intro hw1 hs1)); clear hb1 hw1 hs1))
          have HFL := Lib.hid (show (fated fates 0 (s.L.take j) s.S x.1).length = 256 from fated_len fates _ 0 _ (fun y hy => (HD.out.lens.1 y (List.mem_of_mem_take hy)).1) HD.out.lens.2.1 x.1)
          have HT := Lib.hid (show w1.drew.cell? ⟨p, 1, none⟩ = some (.map (some ms)) ∧ w1.drew.cell? ⟨wa.heap.size, 0, none⟩ = some (.int .i64 x.1) ∧ MB w1.drew ms (kS + j) (fated fates 0 (s.L.take j) s.S) from ⟨cellB HW.out.2.1 (HI.out.1.cell 1), HW.out.1.cell 0, HI.out.2.1.keep (next HW.out.2.1 (nextN (Mem.start w1) 1))⟩)
          --HELD on11c
          refine wp_region_noPanic ?_
          refine wp_heldG (fun w' => w'.cell? ⟨p, 1, none⟩ = some (.map (some ms)) ∧ w'.cell? ⟨wa.heap.size, 0, none⟩ = some (.int .i64 x.1) ∧ MB w' ms (kS + j) (fated fates 0 (s.L.take j) s.S)) [8] (by kernel_rfl) ?hs0 ?rg0
          case hs0 =>
            exact HT.out
          case rg0 =>
          intro hHeld
          refine wpAnyG_pure (i := 0) (oi := { dst := some 39, op := Op.move (Operand.tmp 0), type := 28, pos := _, after := #[], guard := none }) (v := ?_) rfl (by kernel_rfl) (by kernel_rfl) (by kernel_rfl) (by kernel_rfl) (fun _ _ _ h => h) (Or.inl ⟨by rfl, ?_⟩) (fun _ => by assumption) ?_
          rotate_left
          · intro w hSw
            try dsimp only at hSw
            go_simp
            try with_reducible rfl
          try simp only [Act.put, List.setIfInBounds_toArray, List.set_cons_zero, List.set_cons_succ]
          refine wpAnyG_pure (i := 1) (oi := { dst := some 40, op := Op.nilCheck (Operand.tmp 39), type := 0, pos := _, after := #[{ on := 0, ground := Ground.data }], guard := none }) (v := ?_) rfl (by kernel_rfl) (by kernel_rfl) (by kernel_rfl) (by kernel_rfl) (fun _ _ _ h => h) (Or.inl ⟨by rfl, ?_⟩) (fun _ => by assumption) ?_
          rotate_left
          · intro w hSw
            try dsimp only at hSw
            go_simp
            try with_reducible rfl
          try simp only [Act.put, List.setIfInBounds_toArray, List.set_cons_zero, List.set_cons_succ]
          refine wpAnyG_pure (i := 2) (oi := { dst := some 41, op := Op.fieldAddr 63 (Operand.tmp 40) 1, type := 0, pos := _, after := #[{ on := 1, ground := Ground.data }], guard := none }) (v := ?_) rfl (by kernel_rfl) (by kernel_rfl) (by kernel_rfl) (by kernel_rfl) (fun _ _ _ h => h) (Or.inl ⟨by rfl, ?_⟩) (fun _ => by assumption) ?_
          rotate_left
          · intro w hSw
            try dsimp only at hSw
            go_simp
            try with_reducible rfl
          try simp only [Act.put, List.setIfInBounds_toArray, List.set_cons_zero, List.set_cons_succ]
          refine wpAnyG_take (i := 3) (oi := { dst := some 42, op := Op.load 60 (Operand.tmp 41), type := 60, pos := _, after := #[{ on := 2, ground := Ground.data }], guard := none }) (v := ?_) rfl (by kernel_rfl) (by kernel_rfl) (by kernel_rfl) (by kernel_rfl) (fun _ _ _ h => h) (Or.inl ⟨by rfl, ?_⟩) (by assumption) ?_
          rotate_left
          · intro w hSw
            try dsimp only at hSw
            go_simp
            try with_reducible rfl
          try simp only [Act.put, List.setIfInBounds_toArray, List.set_cons_zero, List.set_cons_succ]
          refine wpAnyG_pure (i := 4) (oi := { dst := some 43, op := Op.fieldAddr 65 (Operand.tmp 5) 0, type := 0, pos := _, after := #[], guard := none }) (v := ?_) rfl (by kernel_rfl) (by kernel_rfl) (by kernel_rfl) (by kernel_rfl) (fun _ _ _ h => h) (Or.inl ⟨by rfl, ?_⟩) (fun _ => by assumption) ?_
          rotate_left
          · intro w hSw
            try dsimp only at hSw
            go_simp
            try with_reducible rfl
          try simp only [Act.put, List.setIfInBounds_toArray, List.set_cons_zero, List.set_cons_succ]
          refine wpAnyG_take (i := 5) (oi := { dst := some 44, op := Op.load 3 (Operand.tmp 43), type := 3, pos := _, after := #[{ on := 4, ground := Ground.data }], guard := none }) (v := ?_) rfl (by kernel_rfl) (by kernel_rfl) (by kernel_rfl) (by kernel_rfl) (fun _ _ _ h => h) (Or.inl ⟨by rfl, ?_⟩) (by assumption) ?_
          rotate_left
          · intro w hSw
            try dsimp only at hSw
            go_simp
            try with_reducible rfl
          try simp only [Act.put, List.setIfInBounds_toArray, List.set_cons_zero, List.set_cons_succ]
          refine wpAnyG_take (i := 6) (oi := { dst := some 45, op := Op.lookup 60 (Operand.tmp 42) (Operand.tmp 44) false, type := 59, pos := _, after := #[{ on := 3, ground := Ground.data }, { on := 5, ground := Ground.data }], guard := none }) (v := ?_) rfl (by kernel_rfl) (by kernel_rfl) (by kernel_rfl) (by kernel_rfl) (fun _ _ _ h => h) (Or.inl ⟨by rfl, ?_⟩) (by assumption) ?_
          rotate_left
          · intro w hSw
            try dsimp only at hSw
            refine exec_lookup 60 (.tmp 42) (.tmp 44) ?_ _ _ ?_ ?_ (.agg (bcells ((fated fates 0 (s.L.take j) s.S) x.1))) (MapB.look (t := 60) (e := 59) hSw.2.2 (Maps.int_keyed Try.underlying3) Try.underlying60 Try.underlying3 (zeroB _) x.1 HX.out.2.1.2)
            · rfl
            · rfl
            · rfl
          try simp only [Act.put, List.setIfInBounds_toArray, List.set_cons_zero, List.set_cons_succ]
          refine wpAnyG_one (i := 7) (o := { dst := some 7, op := Op.alloc 59, type := 0, pos := _, after := #[], guard := none }) (by kernel_rfl) rfl (fun K hK => ?_)
          have hz9 := zeroB
          go_simp
          clear hz9
          try dsimp only
          refine hK.out _ _ ?_ (fun hHeld => ?_)
          · intro _
            try dsimp only
            exact ⟨cellA hHeld.1 _, cellA hHeld.2.1 _, hHeld.2.2.keep (nextA (Mem.start _) _)⟩
          clear hK K
          try simp only [Act.put, List.setIfInBounds_toArray, List.set_cons_zero, List.set_cons_succ]
          have hHeld := hHeld (by kernel_rfl)
          refine wpAnyG_one (i := 8) (o := { dst := none, op := Op.store 59 (Operand.tmp 7) (Operand.tmp 45), type := 0, pos := _, after := #[{ on := 7, ground := Ground.data }, { on := 6, ground := Ground.data }, { on := 0, ground := Ground.phase }, { on := 1, ground := Ground.phase }, { on := 2, ground := Ground.phase }, { on := 3, ground := Ground.phase }, { on := 4, ground := Ground.phase }, { on := 5, ground := Ground.phase }, { on := 6, ground := Ground.phase }, { on := 7, ground := Ground.phase }], guard := none }) (by kernel_rfl) rfl (fun K hK => ?_)
          refine step_store_new w1.drew rfl 59 (.tmp 7) (.tmp 45) rfl 59 (bcells z256) (bcells ((fated fates 0 (s.L.take j) s.S) x.1)) rfl rfl (bsame HFL.out).1 (bsame HFL.out).2 (bcells_one _) ?_
          intro w2 hb2 hw2 hs2
          have H2 := Lib.hid (And.intro hb2 (And.intro hw2 hs2))
          clear hb2 hw2 hs2
          try dsimp only
          refine hK.out _ _ ?_ (fun hHeld => ?_)
          · exact fun h => (st_no (by kernel_rfl) h).elim
          clear hK K
          try simp only [Act.put, List.setIfInBounds_toArray, List.set_cons_zero, List.set_cons_succ]
          clear hHeld
          refine wpAnyG_done (by kernel_rfl) ?_ _
          refine NoPanic.normal ?_
          --END on11c
          go_wp2_with fail
          have HCP := Lib.hid (show (x.2.take 0).length = Nat.min 256 0 ∧ 0 + (x.2.take 0).length ≤ (bcells (fated fates 0 (s.L.take j) s.S x.1)).size ∧ Bytes w2.drew w2.drew.heap.size (some ⟨wa.heap.size, 1, none⟩) (x.2.take 0) from ⟨rfl, by simp, Bytes.nil⟩)
          --HELD on12c
          refine wp_region_noPanic ?_
          refine wp_heldG (fun _ => True) [] (by kernel_rfl) ?hs0 ?rg0
          case hs0 =>
            trivial
          case rg0 =>
          intro hHeld
          refine wpAnyG_pure (i := 0) (oi := { dst := some 46, op := Op.move (Operand.tmp 6), type := 3, pos := _, after := #[], guard := none }) (v := ?_) rfl (by kernel_rfl) (by kernel_rfl) (by kernel_rfl) (by kernel_rfl) (fun _ _ _ h => h) (Or.inl ⟨by rfl, ?_⟩) (fun _ => by assumption) ?_
          rotate_left
          · intro w hSw
            try dsimp only at hSw
            go_simp
            try with_reducible rfl
          try simp only [Act.put, List.setIfInBounds_toArray, List.set_cons_zero, List.set_cons_succ]
          refine wpAnyG_pure (i := 1) (oi := { dst := some 47, op := Op.slice 59 (Operand.tmp 7) none (some (Operand.tmp 46)) none, type := 23, pos := _, after := #[{ on := 0, ground := Ground.data }], guard := none }) (v := ?_) rfl (by kernel_rfl) (by kernel_rfl) (by kernel_rfl) (by kernel_rfl) (fun _ _ _ h => h) (Or.inl ⟨by rfl, ?_⟩) (fun _ => by assumption) ?_
          rotate_left
          · intro w hSw
            try dsimp only at hSw
            go_simp
            try with_reducible rfl
          try simp only [Act.put, List.setIfInBounds_toArray, List.set_cons_zero, List.set_cons_succ]
          refine wpAnyG_pure (i := 2) (oi := { dst := some 48, op := Op.fieldAddr 65 (Operand.tmp 5) 1, type := 0, pos := _, after := #[], guard := none }) (v := ?_) rfl (by kernel_rfl) (by kernel_rfl) (by kernel_rfl) (by kernel_rfl) (fun _ _ _ h => h) (Or.inl ⟨by rfl, ?_⟩) (fun _ => by assumption) ?_
          rotate_left
          · intro w hSw
            try dsimp only at hSw
            go_simp
            try with_reducible rfl
          try simp only [Act.put, List.setIfInBounds_toArray, List.set_cons_zero, List.set_cons_succ]
          refine wpAnyG_pure (i := 3) (oi := { dst := some 49, op := Op.slice 59 (Operand.tmp 48) none none none, type := 23, pos := _, after := #[{ on := 2, ground := Ground.data }], guard := none }) (v := ?_) rfl (by kernel_rfl) (by kernel_rfl) (by kernel_rfl) (by kernel_rfl) (fun _ _ _ h => h) (Or.inl ⟨by rfl, ?_⟩) (fun _ => by assumption) ?_
          rotate_left
          · intro w hSw
            try dsimp only at hSw
            go_simp
            try with_reducible rfl
          try simp only [Act.put, List.setIfInBounds_toArray, List.set_cons_zero, List.set_cons_succ]
          refine wpAnyG_one (i := 4) (o := { dst := some 50, op := Op.call { callee := Callee.builtin Builtin.copy, args := #[Operand.tmp 47, Operand.tmp 49], argTypes := #[23, 23] }, type := 3, pos := _, after := #[{ on := 1, ground := Ground.data }, { on := 3, ground := Ground.data }], guard := none }) (by kernel_rfl) rfl (fun K hK => ?_)
          refine step_copyin w2.drew rfl (.tmp 47) (.tmp 49) rfl w1.heap.size 0 0 256 (some ⟨wa.heap.size, 1, none⟩) 256 256 (x.2.take 0) 59 (bcells ((fated fates 0 (s.L.take j) s.S) x.1)) rfl rfl HCP.out.1 (H2.out.1.keep (nextN (Mem.start w2) 1)) HCP.out.2.1 HCP.out.2.2 ?_
          intro w3 kc hb3 hf3 hs3
          have H3 := Lib.hid (And.intro hb3 (And.intro hf3 hs3))
          clear hb3 hf3 hs3
          try dsimp only
          refine hK.out _ _ ?_ (fun hHeld => ?_)
          · intro _
            try dsimp only
            all_goals trivial
          clear hK K
          try simp only [Act.put, List.setIfInBounds_toArray, List.set_cons_zero, List.set_cons_succ]
          have hHeld := hHeld (by kernel_rfl)
          refine wpAnyG_done (by kernel_rfl) ?_ _
          refine NoPanic.normal ?_
          --END on12c
          go_wp2_with fail
          have hb3 := H3.out.1
          rw [bb_copied HX.out.2.1.1 (by decide)] at hb3
          obtain ⟨nb, hnb⟩ : ∃ nb, x.2.take 0 ++ (fated fates 0 (s.L.take j) s.S x.1).drop 0 = nb := ⟨_, rfl⟩
          rw [hnb] at hb3
          have HNBE := Lib.hid hnb
          clear hnb
          have hw1d := next (nextN (Mem.start w1) 1) (Mem.start _)
          have hwx : Below wa.heap.size wa w2 := next HW.out.2.1 ((next (nextN (Mem.start w1) 1) H2.out.2.1))
          have hf3 : Fr (fun q => q = w1.heap.size) w2 w3.drew := (((Fr.quiet (S := fun q => q = w1.heap.size) (nextN (Mem.start w2) 1)).trans H3.out.2.1 fun _ _ h => h)).drew
          have hms3 : MB w3.drew ms (kS + j) (fated fates 0 (s.L.take j) s.S) := (HI.out.2.1.keep hwx).fr hf3 (fun e => by have h1 := HI.out.2.1.lt; have h2 := HW.out.2.2; have h3 : ms = w1.heap.size := e; omega)
          have HM3 := Lib.hid hms3
          have HNB := Lib.hid (show nb.length = 256 from by rw [← HNBE.out]; simpa using HFL.out)
          have HKM := Lib.hid (show kS + j < maxLen from by have h1 := HD.out.bound.2.1; have h2 := HKS.out; unfold maxLen; omega)
          have hpw := HI.out.1.lt
          have HT3 := Lib.hid (show w3.drew.cell? ⟨p, 1, none⟩ = some (.map (some ms)) ∧ w3.drew.cell? ⟨wa.heap.size, 0, none⟩ = some (.int .i64 x.1) ∧ Blk w3.drew w1.heap.size 59 (bcells nb) from ⟨cellFr hf3 (cellB hwx (HI.out.1.cell 1)) (fun e => by have h2 := HW.out.2.2; have h3 : p = w1.heap.size := e; omega), cellFr hf3 (cellB (next (nextN (Mem.start w1) 1) H2.out.2.1) (HW.out.1.cell 0)) (fun e => by have h2 := HW.out.2.2; have h3 : wa.heap.size = w1.heap.size := e; omega), hb3.keep (nextN (Mem.start w3) 1)⟩)
          clear hb3 hw1d hms3
          --HELD on13c
          refine wp_region_noPanic ?_
          refine wp_heldG (fun w' => w'.cell? ⟨p, 1, none⟩ = some (.map (some ms)) ∧ w'.cell? ⟨wa.heap.size, 0, none⟩ = some (.int .i64 x.1) ∧ Blk w' w1.heap.size 59 (bcells nb)) [7] (by kernel_rfl) ?hs0 ?rg0
          case hs0 =>
            exact HT3.out
          case rg0 =>
          intro hHeld
          refine wpAnyG_pure (i := 0) (oi := { dst := some 51, op := Op.move (Operand.tmp 0), type := 28, pos := _, after := #[], guard := none }) (v := ?_) rfl (by kernel_rfl) (by kernel_rfl) (by kernel_rfl) (by kernel_rfl) (fun _ _ _ h => h) (Or.inl ⟨by rfl, ?_⟩) (fun _ => by assumption) ?_
          rotate_left
          · intro w hSw
            try dsimp only at hSw
            go_simp
            try with_reducible rfl
          try simp only [Act.put, List.setIfInBounds_toArray, List.set_cons_zero, List.set_cons_succ]
          refine wpAnyG_pure (i := 1) (oi := { dst := some 52, op := Op.nilCheck (Operand.tmp 51), type := 0, pos := _, after := #[{ on := 0, ground := Ground.data }], guard := none }) (v := ?_) rfl (by kernel_rfl) (by kernel_rfl) (by kernel_rfl) (by kernel_rfl) (fun _ _ _ h => h) (Or.inl ⟨by rfl, ?_⟩) (fun _ => by assumption) ?_
          rotate_left
          · intro w hSw
            try dsimp only at hSw
            go_simp
            try with_reducible rfl
          try simp only [Act.put, List.setIfInBounds_toArray, List.set_cons_zero, List.set_cons_succ]
          refine wpAnyG_pure (i := 2) (oi := { dst := some 53, op := Op.fieldAddr 63 (Operand.tmp 52) 1, type := 0, pos := _, after := #[{ on := 1, ground := Ground.data }], guard := none }) (v := ?_) rfl (by kernel_rfl) (by kernel_rfl) (by kernel_rfl) (by kernel_rfl) (fun _ _ _ h => h) (Or.inl ⟨by rfl, ?_⟩) (fun _ => by assumption) ?_
          rotate_left
          · intro w hSw
            try dsimp only at hSw
            go_simp
            try with_reducible rfl
          try simp only [Act.put, List.setIfInBounds_toArray, List.set_cons_zero, List.set_cons_succ]
          refine wpAnyG_take (i := 3) (oi := { dst := some 54, op := Op.load 60 (Operand.tmp 53), type := 60, pos := _, after := #[{ on := 2, ground := Ground.data }], guard := none }) (v := ?_) rfl (by kernel_rfl) (by kernel_rfl) (by kernel_rfl) (by kernel_rfl) (fun _ _ _ h => h) (Or.inl ⟨by rfl, ?_⟩) (by assumption) ?_
          rotate_left
          · intro w hSw
            try dsimp only at hSw
            go_simp
            try with_reducible rfl
          try simp only [Act.put, List.setIfInBounds_toArray, List.set_cons_zero, List.set_cons_succ]
          refine wpAnyG_pure (i := 4) (oi := { dst := some 55, op := Op.fieldAddr 65 (Operand.tmp 5) 0, type := 0, pos := _, after := #[], guard := none }) (v := ?_) rfl (by kernel_rfl) (by kernel_rfl) (by kernel_rfl) (by kernel_rfl) (fun _ _ _ h => h) (Or.inl ⟨by rfl, ?_⟩) (fun _ => by assumption) ?_
          rotate_left
          · intro w hSw
            try dsimp only at hSw
            go_simp
            try with_reducible rfl
          try simp only [Act.put, List.setIfInBounds_toArray, List.set_cons_zero, List.set_cons_succ]
          refine wpAnyG_take (i := 5) (oi := { dst := some 56, op := Op.load 3 (Operand.tmp 55), type := 3, pos := _, after := #[{ on := 4, ground := Ground.data }], guard := none }) (v := ?_) rfl (by kernel_rfl) (by kernel_rfl) (by kernel_rfl) (by kernel_rfl) (fun _ _ _ h => h) (Or.inl ⟨by rfl, ?_⟩) (by assumption) ?_
          rotate_left
          · intro w hSw
            try dsimp only at hSw
            go_simp
            try with_reducible rfl
          try simp only [Act.put, List.setIfInBounds_toArray, List.set_cons_zero, List.set_cons_succ]
          refine wpAnyG_take (i := 6) (oi := { dst := some 57, op := Op.load 59 (Operand.tmp 7), type := 59, pos := _, after := #[], guard := none }) (v := ?_) rfl (by kernel_rfl) (by kernel_rfl) (by kernel_rfl) (by kernel_rfl) (fun _ _ _ h => h) (Or.inl ⟨by rfl, ?_⟩) (by assumption) ?_
          rotate_left
          · intro w hSw
            try dsimp only at hSw
            refine exec_load 59 (.tmp 7) ?_ _ ?_ (.agg (bcells nb)) (load_bb hSw.2.2 HNB.out)
            · rfl
            · rfl
          try simp only [Act.put, List.setIfInBounds_toArray, List.set_cons_zero, List.set_cons_succ]
          refine wpAnyG_one (i := 7) (o := { dst := none, op := Op.mapUpdate 60 (Operand.tmp 54) (Operand.tmp 56) (Operand.tmp 57), type := 0, pos := _, after := #[{ on := 3, ground := Ground.data }, { on := 5, ground := Ground.data }, { on := 6, ground := Ground.data }, { on := 0, ground := Ground.phase }, { on := 1, ground := Ground.phase }, { on := 2, ground := Ground.phase }, { on := 3, ground := Ground.phase }, { on := 4, ground := Ground.phase }, { on := 5, ground := Ground.phase }, { on := 6, ground := Ground.phase }], guard := none }) (by kernel_rfl) rfl (fun K hK => ?_)
          obtain ⟨w4, hmu, hm4, hg4⟩ := MapB.store (t := 60) (e := 59) HM3.out (Maps.int_keyed Try.underlying3) Try.underlying60 Try.underlying3 HKM.out x.1 HX.out.2.1.2 nb
          have H4 := Lib.hid (And.intro hm4 hg4)
          clear hm4 hg4
          go_simp
          clear hmu
          try dsimp only
          refine hK.out _ _ ?_ (fun hHeld => ?_)
          · exact fun h => (st_no (by kernel_rfl) h).elim
          clear hK K
          try simp only [Act.put, List.setIfInBounds_toArray, List.set_cons_zero, List.set_cons_succ]
          clear hHeld
          refine wpAnyG_done (by kernel_rfl) ?_ _
          refine NoPanic.normal ?_
          --END on13c
          go_wp2_with fail
          go_roundw
          case rel =>
            refine ⟨j + 1, by simp, hjk, ?_⟩
            have f34 : Fr (fun q => q = ms) w3.drew w4 := Fr.grown (S := fun q => q = ms) H4.out.2 (fun q hq => by injection hq with hq; exact hq.symm)
            have h2 := HW.out.2.2
            have hpms : ¬ (p = ms) := fun e => HD.out.foot.2.2.2.2.1 e.symm
            refine ⟨((HI.out.1.keep hwx).fr hf3 (fun e => by have h3 : p = w1.heap.size := e; omega)).fr f34 hpms, ?_, ?_⟩
            · have h1 : MB w4 ms (kS + (j + 1)) (upd (fated fates 0 (s.L.take j) s.S) x.1 nb) := H4.out.1
              rw [on_next HX.out.1 HR.out HNBE.out]; exact h1
            · have hws := HI.out.2.2.size
              exact ((HI.out.2.2.trans (Fr.quiet (S := fun q => q = p ∨ q = ms) hwx) fun _ _ h => h).trans hf3 fun q hq e => by have h3 : q = w1.heap.size := e; omega).trans f34 fun q _ e => .inr e
          case measure => simp [intOf]; omega
      · obtain rfl : k = j := by omega
        have hc1 : wa.cell? ⟨p, 1, none⟩ = some (.map (some ms)) := HI.out.1.cell 1
        go_wp2_with fail
        refine (mclone_any wa ms (kS + k) _ HI.out.2.1).mono ?_
        rintro e w2 ⟨rfl, hm2, hb2, hs2⟩
        have b0 := HI.out.1.keep hb2
        have z6 := b0.frozen 6
        have c6 : w2.cell? ⟨p, 6, none⟩ = some (.bool true) := b0.cell 6
        have b1 := b0.set_ 6 (.bool false)
        have z3 := b1.frozen 3
        have c3 : (w2.setCell ⟨p, 6, none⟩ (.bool false)).cell? ⟨p, 3, none⟩ = some (.slice A0 k c0) := b1.cell 3
        have b2 := b1.set_ 3 (.slice none 0 0)
        have z2 := b2.frozen 2
        have c2 : ((w2.setCell ⟨p, 6, none⟩ (.bool false)).setCell ⟨p, 3, none⟩ (.slice none 0 0)).cell? ⟨p, 2, none⟩ = some (.map (some mn)) := b2.cell 2
        have H2 := Lib.hid (And.intro hm2 (And.intro hb2 (And.intro hs2 b2)))
        clear hm2 hb2 hs2 b0 b1 b2 hc1
        go_wp2_with fail
        go_end0
        obtain ⟨hm2, hb2, hs2, b2⟩ := H2.out
        obtain ⟨hblk, hms, hfr⟩ := HI.out
        have hd := HD.out
        have eL : s.L.take k = s.L := by rw [← HK.out, List.take_length]
        rw [eL] at hm2 hms
        have f26 : Fr (fun q => q = p) w2 (((w2.setCell ⟨p, 6, none⟩ (.bool false)).setCell ⟨p, 3, none⟩ (.slice none 0 0)).setCell ⟨p, 2, none⟩ (.map (some wa.heap.size))) := (((Fr.refl (fun q => q = p) w2).setCell (p := ⟨p, 6, none⟩) (fun _ => rfl) _).setCell (p := ⟨p, 3, none⟩) (fun _ => rfl) _).setCell (p := ⟨p, 2, none⟩) (fun _ => rfl) _
        have f06 : Fr (fun q => q = p ∨ q = ms) w (((w2.setCell ⟨p, 6, none⟩ (.bool false)).setCell ⟨p, 3, none⟩ (.slice none 0 0)).setCell ⟨p, 2, none⟩ (.map (some wa.heap.size))) := (hfr.trans (Fr.quiet (S := fun q => q = p ∨ q = ms) hb2) fun _ _ h => h).trans f26 fun _ _ h => .inl h
        have hpl := hblk.lt
        have hml := hms.lt
        have hwl := hfr.size
        have hfl := fated_len fates s.L 0 s.S (fun x hx => (hd.lens.1 x hx).1) hd.lens.2.1
        have hks := HKS.out
        refine ⟨rfl, fun q => F q ∨ q = wa.heap.size, ⟨ms, wa.heap.size, none, 0, b2.set_ 2 (.map (some wa.heap.size)), ⟨kS + k, (hms.keep hb2).fr f26 hd.foot.2.2.2.2.1, hks⟩, (hm2.mono hks).fr f26 (by omega), OwnK.nil, ⟨(fun x hx => by cases hx), hfl, hfl⟩, ⟨.inl hd.foot.1, .inl hd.foot.2.1, .inr rfl, by omega, hd.foot.2.2.2.2.1, by omega, (fun g hg => by cases hg)⟩, fun q hq => ?_, hd.bound.1, hd.bound.2.1, Nat.le_succ _, (show (-1 : Int) ≤ -1 from by decide), (show (-1 : Int) ≤ 9223372036854775807 from by decide)⟩, fun q hq => hq.imp id (fun e => by omega), f06.mono fun q _ h => h.elim (fun e => by rw [e]; exact hd.foot.1) (fun e => by rw [e]; exact hd.foot.2.1)⟩
        have h1 := f26.size
        rcases hq with hq | hq
        · have := hd.lt q hq; omega
        · omega
end
end Go.Proofs.Ytjpelifafmkdpaa.DkW
