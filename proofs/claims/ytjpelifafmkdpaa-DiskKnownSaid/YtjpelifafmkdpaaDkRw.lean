/- The document's disk: Write. -/
import Derived.Test.YtjpelifafmkdpaaDkRef5
namespace Go.Proofs.Ytjpelifafmkdpaa.DkW
open Go.RowKit Go.Shelf Mem Rng
set_option linter.unusedVariables false

theorem own_some {w : World} {base K m c : Nat} {T : TypeId} {A : Option Addr} {xs : List Value} (h : OwnK w base T K A m c xs) (hm : 0 < m) : ∃ g, A = some ⟨g, 0, none⟩ ∧ base ≤ g ∧ g < w.heap.size := by
  rcases h.form with ⟨_, _, e, _⟩ | ⟨g, e, h1, h2, _⟩
  · omega
  · exact ⟨g, e, h1, h2⟩
section
variable {G : Nat → Prop} {q : Nat} {s : DS} {w w' : World}
set_option maxRecDepth 100000 in
set_option maxHeartbeats 16000000 in
theorem rwrite_any (h : RdS G q s w) (i : Int) (l : List UInt8) (hs : s.steps + 1 ≤ 256 ^ 3) (hll : l.length ≤ 256 ^ 3) : Calls Try.prog 36 #[.pointer (some ⟨q, 0, none⟩), .int .i64 i, .string (str l)] w (RdOk w G q (s.write i l).1 (.int .i64 (s.write i l).2)) := by
  have HM := Lib.hid (rmay_any h i)
  obtain ⟨len, hlen⟩ : ∃ len, l.length = len := ⟨_, rfl⟩
  have hsz : (str l).size = len := by rw [str_size, hlen]
  have hl3 : (len : Int) ≤ 256 ^ 3 := by omega
  have hml := may_len (s := s) i len
  by_cases h0 : s.may i 0 = 0
  · rw [h0, if_neg (by decide)] at hml
    rw [h0] at HM
    by_cases h256 : 256 < len
    · rw [if_pos h256] at hml
      have HW := Lib.hid (show s.write i l = (s, 3) from by rw [write_no i l (by rw [hlen, hml]; decide), hlen, hml])
      rw [HW.out]
      have H := Lib.hid h
      have hlt : (256 : Int) < (len : Int) := by omega
      obtain ⟨v, hv⟩ : ∃ v, str l = v := ⟨_, rfl⟩
      rw [hv] at hsz ⊢
      clear h hml h0 hv hlen hll
      go_enter Try.func36, Try.ntmps36
      go_wp2_with fail
      refine HM.out.mono ?_
      rintro e w' ⟨rfl, rfl⟩
      go_wp2_with fail
      go_ret
      exact RdOk.same H.out (Mem.start _)
    · rw [if_neg h256] at hml
      rw [write_ok i l (by rw [hlen, hml])]
      have hi : ∃ k : Nat, i = (k : Int) ∧ k < s.n := by
        unfold DS.may at h0
        split at h0
        · cases h0
        · split at h0
          · cases h0
          · exact ⟨i.toNat, by omega, by omega⟩
      obtain ⟨k, rfl, hkn⟩ := hi
      obtain ⟨i1, hi1, hz0, hz1, hz2⟩ := info_parts ltinfo
      have HI1 := Lib.hid (And.intro hi1 (And.intro hz0 (And.intro hz1 hz2)))
      obtain ⟨⟨A, c2, hd⟩, ht⟩ := h
      have HTL := Lib.hid (ht.lay k hkn l (by omega))
      have HSUM := Lib.hid ht.sum
      obtain ⟨g, D, d, rfl, hcs, hc, hl, hgG, hgq⟩ := hd.at_ hkn
      have c0 := hd.cells.1
      have hk0 : (0 : Int) ≤ (k : Int) := by omega
      have hk1 : (k : Int) < (s.n : Int) := by omega
      have hfew := ht.few
      rw [show (fOf s k).2 = latesAt 0 s.L (k : Int) from rfl] at hc hl
      obtain ⟨ls, hls⟩ : ∃ ls, latesAt 0 s.L (k : Int) = ls := ⟨_, rfl⟩
      rw [hls] at hc hl
      obtain ⟨m2, hm2⟩ : ∃ m2, ls.length = m2 := ⟨_, rfl⟩
      rw [hm2] at hc
      obtain ⟨no, hno⟩ : ∃ no, s.L.length = no := ⟨_, rfl⟩
      rw [hno] at HSUM
      have hno3 : (no : Int) ≤ 256 ^ 3 := by omega
      have hno0 : (0 : Int) ≤ (no : Int) := by omega
      have hm3 : m2 + 1 ≤ 256 ^ 3 := by
        have := latesAt_len (k : Int) s.L 0
        rw [hls] at this; omega
      have HLS := Lib.hid (And.intro hm2 (And.intro hno (And.intro hls (hl.cells))))
      have HD := Lib.hid hd
      have HSS := Lib.hid hs
      obtain ⟨nz, hnz⟩ : ∃ nz, 256 - len = nz := ⟨_, rfl⟩
      have hlen256 : (len : Int) ≤ 256 := by omega
      have hnz256 : nz ≤ 256 := by omega
      have hw43 : IntKind.i64.wrap (256 - (len : Int)) = (nz : Int) := by rw [IntWalk.i64_in _ (by omega)]; omega
      have happ := str_app l (List.replicate nz 0)
      rw [show l ++ List.replicate nz 0 = pad l from by unfold pad; rw [hlen, hnz]] at happ
      obtain ⟨v0, hv0⟩ : ∃ v, str (fOf s k).1 = v := ⟨_, rfl⟩
      obtain ⟨v1, hv1⟩ : ∃ v, str l = v := ⟨_, rfl⟩
      obtain ⟨v2, hv2⟩ : ∃ v, str (List.replicate nz 0) = v := ⟨_, rfl⟩
      obtain ⟨v3, hv3⟩ : ∃ v, str (pad l) = v := ⟨_, rfl⟩
      have hcat : ¬ 9223372036854775807 < len + v2.size := by rw [← hv2, str_size, List.length_replicate]; omega
      rw [hv1, hv2, hv3] at happ
      rw [hv1] at hsz ⊢
      rw [hv0] at hcs
      have HV := Lib.hid (And.intro hv2 hv3)
      clear hd ht h0 hml hl hls hno hs hi1 hz0 hz1 hz2 hfew hm2 hll hlen hnz hv0 hv1 hv2 hv3
      go_enter Try.func36, Try.ntmps36
      go_wp2_with fail
      refine HM.out.mono ?_
      rintro e w' ⟨rfl, rfl⟩
      go_wp2_with fail
      obtain ⟨w5, hw5⟩ : ∃ w5 : World, w5 = (w.alloc (.cells #[.string v0, .slice D m2 d] 71)).drew := ⟨_, rfl⟩
      have HB00 := Lib.hid (show Below w.heap.size w w5 from by rw [hw5]; exact nextN (nextA (Mem.start w) _) 1)
      have HB0 := Lib.hid (Mem.start w5)
      have HD5 := Lib.hid (HD.out.keep HB00.out)
      have HLS := Lib.hid (show ls.length = m2 ∧ s.L.length = no ∧ latesAt 0 s.L (k : Int) = ls ∧ Cells w5 w5.heap.size D (ls.flatMap ltc) from ⟨HLS.out.1, HLS.out.2.1, HLS.out.2.2.1, (HLS.out.2.2.2.below HB00.out).up HB00.out.size⟩)
      have hx1 : w5.cell? ⟨w.heap.size, 1, none⟩ = some (.slice D m2 d) := by rw [hw5]; exact (Blk.new w 71 #[.string v0, .slice D m2 d]).cell 1
      have hxl : w.heap.size < w5.heap.size := by rw [hw5]; show _ < (w.alloc _).heap.size; rw [World.size_alloc]; exact Nat.lt_succ_self _
      have hql := HD5.out.blk.lt
      have hq5 := HD5.out.cells.1
      have HTB := Lib.hid (show ∀ w', Below w5.heap.size w5 w' → (w'.cell? ⟨q, 0, none⟩ = some (.slice (some ⟨g, 0, none⟩) s.n c2) ∧ w'.cell? ⟨w.heap.size, 1, none⟩ = some (.slice D m2 d)) from fun w' hb => ⟨cellB hb hq5, cellB hb hx1⟩)
      clear hx1 hxl hql hq5 hcs hc c0
      refine wp_region_noPanic ?_
      refine wp_heldG (fun w' => w'.cell? ⟨q, 0, none⟩ = some (.slice (some ⟨g, 0, none⟩) s.n c2) ∧ w'.cell? ⟨w.heap.size, 1, none⟩ = some (.slice D m2 d)) [23] (by kernel_rfl) ?hs0 ?rg0
      case hs0 => rw [← hw5]; exact HTB.out _ (Mem.start w5)
      case rg0 =>
      intro hHeld
      rw [← hw5] at hHeld ⊢
      clear hw5
      refine wpAnyG_pure (i := 0) (oi := { dst := some 29, op := Op.move (Operand.tmp 0), type := 49, pos := _, after := #[], guard := none }) (v := ?_) rfl (by kernel_rfl) (by kernel_rfl) (by kernel_rfl) (by kernel_rfl) (fun _ _ _ h => h) (Or.inl ⟨by rfl, ?_⟩) (fun _ => by assumption) ?_
      rotate_left
      · intro w hSw
        try dsimp only at hSw
        go_simp
        try with_reducible rfl
      try simp only [Act.put, List.setIfInBounds_toArray, List.set_cons_zero, List.set_cons_succ]
      refine wpAnyG_pure (i := 1) (oi := { dst := some 30, op := Op.nilCheck (Operand.tmp 29), type := 0, pos := _, after := #[{ on := 0, ground := Ground.data }], guard := none }) (v := ?_) rfl (by kernel_rfl) (by kernel_rfl) (by kernel_rfl) (by kernel_rfl) (fun _ _ _ h => h) (Or.inl ⟨by rfl, ?_⟩) (fun _ => by assumption) ?_
      rotate_left
      · intro w hSw
        try dsimp only at hSw
        go_simp
        try with_reducible rfl
      try simp only [Act.put, List.setIfInBounds_toArray, List.set_cons_zero, List.set_cons_succ]
      refine wpAnyG_pure (i := 2) (oi := { dst := some 31, op := Op.fieldAddr 56 (Operand.tmp 30) 0, type := 0, pos := _, after := #[{ on := 1, ground := Ground.data }], guard := none }) (v := ?_) rfl (by kernel_rfl) (by kernel_rfl) (by kernel_rfl) (by kernel_rfl) (fun _ _ _ h => h) (Or.inl ⟨by rfl, ?_⟩) (fun _ => by assumption) ?_
      rotate_left
      · intro w hSw
        try dsimp only at hSw
        go_simp
        try with_reducible rfl
      try simp only [Act.put, List.setIfInBounds_toArray, List.set_cons_zero, List.set_cons_succ]
      refine wpAnyG_take (i := 3) (oi := { dst := some 32, op := Op.load 54 (Operand.tmp 31), type := 54, pos := _, after := #[{ on := 2, ground := Ground.data }], guard := none }) (v := ?_) rfl (by kernel_rfl) (by kernel_rfl) (by kernel_rfl) (by kernel_rfl) (fun _ _ _ h => h) (Or.inl ⟨by rfl, ?_⟩) (by assumption) ?_
      rotate_left
      · intro w hSw
        try dsimp only at hSw
        go_simp
        try with_reducible rfl
      try simp only [Act.put, List.setIfInBounds_toArray, List.set_cons_zero, List.set_cons_succ]
      refine wpAnyG_pure (i := 4) (oi := { dst := some 33, op := Op.move (Operand.tmp 1), type := 3, pos := _, after := #[], guard := none }) (v := ?_) rfl (by kernel_rfl) (by kernel_rfl) (by kernel_rfl) (by kernel_rfl) (fun _ _ _ h => h) (Or.inl ⟨by rfl, ?_⟩) (fun _ => by assumption) ?_
      rotate_left
      · intro w hSw
        try dsimp only at hSw
        go_simp
        try with_reducible rfl
      try simp only [Act.put, List.setIfInBounds_toArray, List.set_cons_zero, List.set_cons_succ]
      refine wpAnyG_pure (i := 6) (oi := { dst := some 35, op := Op.fieldAddr 71 (Operand.tmp 8) 1, type := 0, pos := _, after := #[], guard := none }) (v := ?_) rfl (by kernel_rfl) (by kernel_rfl) (by kernel_rfl) (by kernel_rfl) (fun _ _ _ h => h) (Or.inl ⟨by rfl, ?_⟩) (fun _ => by assumption) ?_
      rotate_left
      · intro w hSw
        try dsimp only at hSw
        go_simp
        try with_reducible rfl
      try simp only [Act.put, List.setIfInBounds_toArray, List.set_cons_zero, List.set_cons_succ]
      refine wpAnyG_take (i := 7) (oi := { dst := some 36, op := Op.load 69 (Operand.tmp 35), type := 69, pos := _, after := #[{ on := 6, ground := Ground.data }], guard := none }) (v := ?_) rfl (by kernel_rfl) (by kernel_rfl) (by kernel_rfl) (by kernel_rfl) (fun _ _ _ h => h) (Or.inl ⟨by rfl, ?_⟩) (by assumption) ?_
      rotate_left
      · intro w hSw
        try dsimp only at hSw
        go_simp
        try with_reducible rfl
      try simp only [Act.put, List.setIfInBounds_toArray, List.set_cons_zero, List.set_cons_succ]
      refine wpAnyG_pure (i := 9) (oi := { dst := some 38, op := Op.move (Operand.tmp 0), type := 49, pos := _, after := #[], guard := none }) (v := ?_) rfl (by kernel_rfl) (by kernel_rfl) (by kernel_rfl) (by kernel_rfl) (fun _ _ _ h => h) (Or.inl ⟨by rfl, ?_⟩) (fun _ => by assumption) ?_
      rotate_left
      · intro w hSw
        try dsimp only at hSw
        go_simp
        try with_reducible rfl
      try simp only [Act.put, List.setIfInBounds_toArray, List.set_cons_zero, List.set_cons_succ]
      refine wpAnyG_pure (i := 11) (oi := { dst := some 40, op := Op.move (Operand.tmp 2), type := 9, pos := _, after := #[], guard := none }) (v := ?_) rfl (by kernel_rfl) (by kernel_rfl) (by kernel_rfl) (by kernel_rfl) (fun _ _ _ h => h) (Or.inl ⟨by rfl, ?_⟩) (fun _ => by assumption) ?_
      rotate_left
      · intro w hSw
        try dsimp only at hSw
        go_simp
        try with_reducible rfl
      try simp only [Act.put, List.setIfInBounds_toArray, List.set_cons_zero, List.set_cons_succ]
      refine wpAnyG_pure (i := 12) (oi := { dst := some 41, op := Op.move (Operand.tmp 2), type := 9, pos := _, after := #[], guard := none }) (v := ?_) rfl (by kernel_rfl) (by kernel_rfl) (by kernel_rfl) (by kernel_rfl) (fun _ _ _ h => h) (Or.inl ⟨by rfl, ?_⟩) (fun _ => by assumption) ?_
      rotate_left
      · intro w hSw
        try dsimp only at hSw
        go_simp
        try with_reducible rfl
      try simp only [Act.put, List.setIfInBounds_toArray, List.set_cons_zero, List.set_cons_succ]
      refine wpAnyG_pure (i := 13) (oi := { dst := some 42, op := Op.call { callee := Callee.builtin Builtin.len, args := #[Operand.tmp 41], argTypes := #[9] }, type := 3, pos := _, after := #[{ on := 12, ground := Ground.data }], guard := none }) (v := ?_) rfl (by kernel_rfl) (by kernel_rfl) (by kernel_rfl) (by kernel_rfl) (fun _ _ _ h => h) (Or.inl ⟨by rfl, ?_⟩) (fun _ => by assumption) ?_
      rotate_left
      · intro w hSw
        try dsimp only at hSw
        go_simp
        try with_reducible rfl
      try simp only [Act.put, List.setIfInBounds_toArray, List.set_cons_zero, List.set_cons_succ]
      refine wpAnyG_pure (i := 14) (oi := { dst := some 43, op := Op.binOp BinOp.sub 3 (Operand.const (Value.int IntKind.i64 256)) (Operand.tmp 42) 3, type := 3, pos := _, after := #[{ on := 13, ground := Ground.data }], guard := none }) (v := ?_) rfl (by kernel_rfl) (by kernel_rfl) (by kernel_rfl) (by kernel_rfl) (fun _ _ _ h => h) (Or.inl ⟨by rfl, ?_⟩) (fun _ => by assumption) ?_
      rotate_left
      · intro w hSw
        try dsimp only at hSw
        go_simp
        try with_reducible rfl
      try simp only [Act.put, List.setIfInBounds_toArray, List.set_cons_zero, List.set_cons_succ]
      refine wpAnyG_two (i := 5) (j := 15) (o := { dst := some 34, op := Op.buildSlice 69 0 #[], type := 69, pos := _, after := #[], guard := none }) (u := { dst := some 44, op := Op.makeSlice 23 (Operand.tmp 43) (Operand.tmp 43), type := 23, pos := _, after := #[{ on := 14, ground := Ground.data }, { on := 14, ground := Ground.data }], guard := none }) (by kernel_rfl) rfl rfl (fun K hK => ?_) (fun K hK => ?_)
      · refine step_nilrow w5 rfl rfl ?_
        intro AA1 w51 ho hb
        have HO1 := Lib.hid (ho.down HB0.out.size)
        have HB1 := Lib.hid (HB0.out.trans (hb.mono HB0.out.size))
        have HL1 := Lib.hid hb
        clear ho hb
        try dsimp only
        refine hK.out _ _ ?_ (fun hHeld => ?_)
        · intro _
          try dsimp only
          exact HTB.out _ HB1.out
        clear hK K
        try simp only [Act.put, List.setIfInBounds_toArray, List.set_cons_zero, List.set_cons_succ]
        have hHeld := hHeld (by kernel_rfl)
        refine wpAnyG_two (i := 8) (j := 15) (o := { dst := some 37, op := Op.call { callee := Callee.builtin Builtin.append, args := #[Operand.tmp 34, Operand.tmp 36], argTypes := #[69, 69] }, type := 69, pos := _, after := #[{ on := 5, ground := Ground.data }, { on := 7, ground := Ground.data }], guard := none }) (u := { dst := some 44, op := Op.makeSlice 23 (Operand.tmp 43) (Operand.tmp 43), type := 23, pos := _, after := #[{ on := 14, ground := Ground.data }, { on := 14, ground := Ground.data }], guard := none }) (by kernel_rfl) rfl rfl (fun K hK => ?_) (fun K hK => ?_)
        · refine step_appK w51 rfl (.tmp 34) (.tmp 36) 69 (by rfl) w5.heap.size 78 i1 _ 2 24 Try.underlying69 HI1.out.1 HI1.out.2.1 HI1.out.2.2.1 HI1.out.2.2.2 (by rfl) (by decide) AA1 0 0 [] (by rfl) HO1.out w5.heap.size D d m2 (ls.flatMap ltc) (by rfl) (HLS.out.2.2.2.below HB1.out) (by rw [ltc_len, HLS.out.1]) (lt_one _) (by unfold maxLen; omega) (by omega) HB1.out.size m2 (Nat.zero_add _).symm ?_
          intro AA2 cc2 w52 ho hb hg _
          rw [List.nil_append] at ho
          have HO2 := Lib.hid ho
          have HB2 := Lib.hid (HB1.out.trans hb)
          have HG2 := Lib.hid hg
          clear ho hb hg
          try dsimp only
          refine hK.out _ _ ?_ (fun hHeld => ?_)
          · intro _
            try dsimp only
            exact HTB.out _ HB2.out
          clear hK K
          try simp only [Act.put, List.setIfInBounds_toArray, List.set_cons_zero, List.set_cons_succ]
          have hHeld := hHeld (by kernel_rfl)
          refine wpAnyG_two (i := 10) (j := 15) (o := { dst := some 39, op := Op.call { callee := Callee.value (Operand.func 29), args := #[Operand.tmp 38], argTypes := #[49] }, type := 3, pos := _, after := #[{ on := 9, ground := Ground.data }, { on := 8, ground := Ground.chain }], guard := none }) (u := { dst := some 44, op := Op.makeSlice 23 (Operand.tmp 43) (Operand.tmp 43), type := 23, pos := _, after := #[{ on := 14, ground := Ground.data }, { on := 14, ground := Ground.data }], guard := none }) (by kernel_rfl) rfl rfl (fun K hK => ?_) (fun K hK => ?_)
          · go_simp
            have hop := ropenA (show RdA G q s.n (fOf s) s.steps s.well s.off w52 from ⟨_, c2, HD5.out.keep HB2.out⟩)
            rw [HSUM.out] at hop
            refine hop.mono ?_
            clear hop
            rintro e w' ⟨rfl, rfl⟩
            try dsimp only
            refine hK.out _ _ ?_ (fun hHeld => ?_)
            · intro _
              try dsimp only
              exact hHeld
            clear hK K
            try simp only [Act.put, List.setIfInBounds_toArray, List.set_cons_zero, List.set_cons_succ]
            have hHeld := hHeld (by kernel_rfl)
            refine wpAnyG_one (i := 15) (o := { dst := some 44, op := Op.makeSlice 23 (Operand.tmp 43) (Operand.tmp 43), type := 23, pos := _, after := #[{ on := 14, ground := Ground.data }, { on := 14, ground := Ground.data }], guard := none }) (by kernel_rfl) rfl (fun K hK => ?_)
            refine step_zeros w52 rfl (.tmp 43) (.tmp 43) rfl nz rfl rfl (by omega) ?_
            intro z w54 hz hb
            have HB4 := Lib.hid (HB2.out.trans (hb.mono HB2.out.size))
            have HO4 := Lib.hid (HO2.out.keep hb)
            have HZ := Lib.hid hz
            clear hz hb
            try dsimp only
            refine hK.out _ _ ?_ (fun hHeld => ?_)
            · intro _
              try dsimp only
              exact HTB.out _ HB4.out
            clear hK K
            try simp only [Act.put, List.setIfInBounds_toArray, List.set_cons_zero, List.set_cons_succ]
            have hHeld := hHeld (by kernel_rfl)
            refine wpAnyG_more (T' := fun w' => (w'.cell? ⟨q, 0, none⟩ = some (.slice (some ⟨g, 0, none⟩) s.n c2) ∧ w'.cell? ⟨w.heap.size, 1, none⟩ = some (.slice D m2 d)) ∧ Blk w' z 5 (Array.replicate nz (.int .u8 0))) (fun _ h => h.1) _ _ _ _ ?_
            have hHeld := And.intro hHeld HZ.out
            refine wpAnyG_take (i := 16) (oi := { dst := some 45, op := Op.convert 23 9 (Operand.tmp 44), type := 9, pos := _, after := #[{ on := 15, ground := Ground.data }], guard := none }) (v := ?_) rfl (by kernel_rfl) (by kernel_rfl) (by kernel_rfl) (by kernel_rfl) (fun _ _ _ h => h) (Or.inl ⟨by rfl, ?_⟩) (by assumption) ?_
            rotate_left
            · intro w hSw
              try dsimp only at hSw
              have hcv := convB (blk_zeros hSw.2) nz nz (List.length_replicate).symm
              rw [HV.out.1] at hcv
              go_simp
              try with_reducible rfl
            try simp only [Act.put, List.setIfInBounds_toArray, List.set_cons_zero, List.set_cons_succ]
            refine wpAnyG_pure (i := 17) (oi := { dst := some 46, op := Op.binOp BinOp.add 9 (Operand.tmp 40) (Operand.tmp 45) 9, type := 9, pos := _, after := #[{ on := 11, ground := Ground.data }, { on := 16, ground := Ground.data }], guard := none }) (v := ?_) rfl (by kernel_rfl) (by kernel_rfl) (by kernel_rfl) (by kernel_rfl) (fun _ _ _ h => h) (Or.inl ⟨by rfl, ?_⟩) (fun _ => by assumption) ?_
            rotate_left
            · intro w hSw
              try dsimp only at hSw
              go_simp
              try with_reducible rfl
            try simp only [Act.put, List.setIfInBounds_toArray, List.set_cons_zero, List.set_cons_succ]
            refine wpAnyG_pure (i := 18) (oi := { dst := some 47, op := Op.build 78 #[(0, Operand.tmp 39), (1, Operand.tmp 46)], type := 78, pos := _, after := #[{ on := 10, ground := Ground.data }, { on := 17, ground := Ground.data }], guard := none }) (v := ?_) rfl (by kernel_rfl) (by kernel_rfl) (by kernel_rfl) (by kernel_rfl) (fun _ _ _ h => h) (Or.inl ⟨by rfl, ?_⟩) (fun _ => by assumption) ?_
            rotate_left
            · intro w hSw
              try dsimp only at hSw
              go_simp
              try with_reducible rfl
            try simp only [Act.put, List.setIfInBounds_toArray, List.set_cons_zero, List.set_cons_succ]
            refine wpAnyG_one (i := 19) (o := { dst := some 48, op := Op.buildSlice 69 1 #[(0, Operand.tmp 47)], type := 69, pos := _, after := #[{ on := 18, ground := Ground.data }], guard := none }) (by kernel_rfl) rfl (fun K hK => ?_)
            go_simp
            try dsimp only
            obtain ⟨w55, hw9⟩ : ∃ w9 : World, w9 = w54.alloc (.cells #[.int .i64 (no : Int), .string v3] 78) := ⟨_, rfl⟩
            have hb : Below w54.heap.size w54 w55 := by rw [hw9]; exact nextA (Mem.start _) _
            have HN := Lib.hid (show Cells w55 w55.heap.size (some ⟨w54.heap.size, 0, none⟩) (ltc (no, pad l)) from by
              rw [hw9, show ltc (no, pad l) = [.int .i64 (no : Int), .string v3] from by rw [← HV.out.2]; rfl]
              exact fun _ => ⟨_, 0, rfl, by rw [World.size_alloc]; exact Nat.lt_succ_self _, fun j v hv => by rw [Nat.zero_add, new_cell, ← hv]; simp⟩)
            have HB5 := Lib.hid (HB4.out.trans (hb.mono HB4.out.size))
            have HO5 := Lib.hid (HO4.out.keep hb)
            have HL5 := Lib.hid hb
            rw [← hw9]
            obtain ⟨wq, hwq⟩ : ∃ wq, w54.heap.size = wq := ⟨_, rfl⟩
            rw [hwq] at HN ⊢
            have HWQ := Lib.hid hwq
            clear hb hw9 hwq
            try dsimp only
            refine hK.out _ _ ?_ (fun hHeld => ?_)
            · intro _
              try dsimp only
              exact ⟨HTB.out _ HB5.out, hHeld.2.keep HL5.out⟩
            clear hK K
            try simp only [Act.put, List.setIfInBounds_toArray, List.set_cons_zero, List.set_cons_succ]
            have hHeld := hHeld (by kernel_rfl)
            refine wpAnyG_one (i := 20) (o := { dst := some 49, op := Op.call { callee := Callee.builtin Builtin.append, args := #[Operand.tmp 37, Operand.tmp 48], argTypes := #[69, 69] }, type := 69, pos := _, after := #[{ on := 8, ground := Ground.data }, { on := 19, ground := Ground.data }, { on := 10, ground := Ground.chain }], guard := none }) (by kernel_rfl) rfl (fun K hK => ?_)
            refine step_appK w55 rfl (.tmp 37) (.tmp 48) 69 (by rfl) w5.heap.size 78 i1 _ 2 24 Try.underlying69 HI1.out.1 HI1.out.2.1 HI1.out.2.2.1 HI1.out.2.2.2 (by rfl) (by decide) AA2 cc2 m2 (ls.flatMap ltc) (by rfl) HO5.out w55.heap.size (some ⟨wq, 0, none⟩) 1 1 (ltc (no, pad l)) (by rfl) HN.out (by rfl) (by intro u hu; exact lt_one [(no, pad l)] u (by simpa using hu)) (by unfold maxLen; omega) (by omega) HB5.out.size (m2 + 1) rfl ?_
            intro A9 c9 w9 ho hb hg _
            have HO9 := Lib.hid ho
            have HB9 := Lib.hid (HB5.out.trans hb)
            have HG9 := Lib.hid hg
            clear ho hb hg
            try dsimp only
            refine hK.out _ _ ?_ (fun hHeld => ?_)
            · intro _
              try dsimp only
              exact ⟨HTB.out _ HB9.out, Blk.appK hHeld.2 HO5.out (by decide) HG9.out⟩
            clear hK K
            try simp only [Act.put, List.setIfInBounds_toArray, List.set_cons_zero, List.set_cons_succ]
            have hHeld := hHeld (by kernel_rfl)
            refine wpAnyG_pure (i := 21) (oi := { dst := some 50, op := Op.indexAddr 54 (Operand.tmp 32) (Operand.tmp 33), type := 0, pos := _, after := #[{ on := 3, ground := Ground.data }, { on := 4, ground := Ground.data }, { on := 0, ground := Ground.phase }, { on := 1, ground := Ground.phase }, { on := 2, ground := Ground.phase }, { on := 3, ground := Ground.phase }, { on := 4, ground := Ground.phase }, { on := 5, ground := Ground.phase }, { on := 6, ground := Ground.phase }, { on := 7, ground := Ground.phase }, { on := 8, ground := Ground.phase }, { on := 9, ground := Ground.phase }, { on := 10, ground := Ground.phase }, { on := 11, ground := Ground.phase }, { on := 12, ground := Ground.phase }, { on := 13, ground := Ground.phase }, { on := 14, ground := Ground.phase }, { on := 15, ground := Ground.phase }, { on := 16, ground := Ground.phase }, { on := 17, ground := Ground.phase }, { on := 18, ground := Ground.phase }, { on := 19, ground := Ground.phase }, { on := 20, ground := Ground.phase }], guard := none }) (v := ?_) rfl (by kernel_rfl) (by kernel_rfl) (by kernel_rfl) (by kernel_rfl) (fun _ _ _ h => h) (Or.inl ⟨by rfl, ?_⟩) (fun _ => by assumption) ?_
            rotate_left
            · intro w hSw
              try dsimp only at hSw
              go_simp
              try with_reducible rfl
            try simp only [Act.put, List.setIfInBounds_toArray, List.set_cons_zero, List.set_cons_succ]
            refine wpAnyG_pure (i := 22) (oi := { dst := some 51, op := Op.fieldAddr 71 (Operand.tmp 50) 1, type := 0, pos := _, after := #[{ on := 21, ground := Ground.data }, { on := 0, ground := Ground.phase }, { on := 1, ground := Ground.phase }, { on := 2, ground := Ground.phase }, { on := 3, ground := Ground.phase }, { on := 4, ground := Ground.phase }, { on := 5, ground := Ground.phase }, { on := 6, ground := Ground.phase }, { on := 7, ground := Ground.phase }, { on := 8, ground := Ground.phase }, { on := 9, ground := Ground.phase }, { on := 10, ground := Ground.phase }, { on := 11, ground := Ground.phase }, { on := 12, ground := Ground.phase }, { on := 13, ground := Ground.phase }, { on := 14, ground := Ground.phase }, { on := 15, ground := Ground.phase }, { on := 16, ground := Ground.phase }, { on := 17, ground := Ground.phase }, { on := 18, ground := Ground.phase }, { on := 19, ground := Ground.phase }, { on := 20, ground := Ground.phase }], guard := none }) (v := ?_) rfl (by kernel_rfl) (by kernel_rfl) (by kernel_rfl) (by kernel_rfl) (fun _ _ _ h => h) (Or.inl ⟨by rfl, ?_⟩) (fun _ => by assumption) ?_
            rotate_left
            · intro w hSw
              try dsimp only at hSw
              go_simp
              try with_reducible rfl
            try simp only [Act.put, List.setIfInBounds_toArray, List.set_cons_zero, List.set_cons_succ]
            refine wpAnyG_one (i := 23) (o := { dst := none, op := Op.store 69 (Operand.tmp 51) (Operand.tmp 49), type := 0, pos := _, after := #[{ on := 22, ground := Ground.data }, { on := 20, ground := Ground.data }, { on := 20, ground := Ground.chain }, { on := 0, ground := Ground.phase }, { on := 1, ground := Ground.phase }, { on := 2, ground := Ground.phase }, { on := 3, ground := Ground.phase }, { on := 4, ground := Ground.phase }, { on := 5, ground := Ground.phase }, { on := 6, ground := Ground.phase }, { on := 7, ground := Ground.phase }, { on := 8, ground := Ground.phase }, { on := 9, ground := Ground.phase }, { on := 10, ground := Ground.phase }, { on := 11, ground := Ground.phase }, { on := 12, ground := Ground.phase }, { on := 13, ground := Ground.phase }, { on := 14, ground := Ground.phase }, { on := 15, ground := Ground.phase }, { on := 16, ground := Ground.phase }, { on := 17, ground := Ground.phase }, { on := 18, ground := Ground.phase }, { on := 19, ground := Ground.phase }, { on := 20, ground := Ground.phase }], guard := none }) (by kernel_rfl) rfl (fun K hK => ?_)
            have HD9 := Lib.hid (HD5.out.keep HB9.out)
            obtain ⟨⟨B8, d8, sc0, sc1⟩, sz0, sz1⟩ := HD9.out.spare hkn
            go_simp
            clear sc0 sc1 sz0 sz1
            try dsimp only
            refine hK.out _ _ ?_ (fun hHeld => ?_)
            · exact fun h => (st_no (by kernel_rfl) h).elim
            clear hK K
            try simp only [Act.put, List.setIfInBounds_toArray, List.set_cons_zero, List.set_cons_succ]
            clear hHeld
            refine wpAnyG_done (by kernel_rfl) ?_ _
            refine NoPanic.normal ?_
            obtain ⟨g9, rfl, hg9, hg9l⟩ := own_some HO9.out (Nat.succ_pos _)
            have hset := HD9.out.setL hkn (ls ++ [(no, pad l)]) (m2 + 1) c9 (by rw [List.length_append, HLS.out.1]; rfl) (by rw [List.length_append, HLS.out.1]; show m2 + 1 ≤ _; omega) hg9l (fun hG => by have h1 := HD5.out.lt g9 hG; omega) (by have := HO9.out.cells; rw [show ls.flatMap ltc ++ ltc (no, pad l) = (ls ++ [(no, pad l)]).flatMap ltc from by simp] at this; exact this)
            have hst := rstep_any (s := s.lay (k : Int) l) (f := fOf (s.lay (k : Int) l)) (n := s.n) ⟨_, c2, hset.1.congr fun j _ => by rw [lay_f, HLS.out.2.2.1, HLS.out.2.1]⟩ HSS.out
            unfold StepOk at hst
            have HSET := Lib.hid hset.2
            have HGG := Lib.hid hg9
            have HST := Lib.hid hst
            clear hset hst hg9 hg9l
            by_cases hw0 : s.well = 0
            · have hE : (s.lay (k : Int) l).step id = ({ s.lay (k : Int) l with steps := s.steps + 1 }.crash, 180) := step_id_gone (s := s.lay (k : Int) l) hw0
              have HE := Lib.hid hE
              rw [show decide ((s.lay (k : Int) l).well ≠ 0) = false from decide_eq_false (fun h => h hw0)] at HST
              go_wp2_with fail
              refine HST.out.mono ?_
              rintro e w10 ⟨rfl, h1, f1⟩
              have H1 := Lib.hid (And.intro h1 f1)
              clear h1 f1
              go_wp2_with fail
              go_ret
              refine ⟨by rw [HE.out]; rfl, _, ⟨by rw [(step_id_keeps (s.lay (k : Int) l)).1]; exact H1.out.1.congr fun j _ => by unfold fOf; rw [(step_id_keeps (s.lay (k : Int) l)).2.1, (step_id_keeps (s.lay (k : Int) l)).2.2.2.1], HTL.out⟩, ?_, fr_comp (fr_comp (Fr.quiet (HB00.out.trans (HB9.out.mono HB00.out.size))) HSET.out fun _ h => .inl h) H1.out.2 fun j hj => hj.imp id fun e => ?_⟩
              · intro j hj
                refine hj.imp id fun e => ?_
                have h1 := HGG.out; have h2 := HB00.out.size; omega
              · have h1 := HGG.out; have h2 := HB00.out.size; omega
            · have HE := Lib.hid (step_id_snd (s := s.lay (k : Int) l) hw0)
              rw [show decide ((s.lay (k : Int) l).well ≠ 0) = true from decide_eq_true hw0] at HST
              go_wp2_with fail
              refine HST.out.mono ?_
              rintro e w10 ⟨rfl, h1, f1⟩
              have H1 := Lib.hid (And.intro h1 f1)
              clear h1 f1
              go_wp2_with fail
              go_ret
              refine ⟨by rw [HE.out]; rfl, _, ⟨by rw [(step_id_keeps (s.lay (k : Int) l)).1]; exact H1.out.1.congr fun j _ => by unfold fOf; rw [(step_id_keeps (s.lay (k : Int) l)).2.1, (step_id_keeps (s.lay (k : Int) l)).2.2.2.1], HTL.out⟩, ?_, fr_comp (fr_comp (Fr.quiet (HB00.out.trans (HB9.out.mono HB00.out.size))) HSET.out fun _ h => .inl h) H1.out.2 fun j hj => hj.imp id fun e => ?_⟩
              · intro j hj
                refine hj.imp id fun e => ?_
                have h1 := HGG.out; have h2 := HB00.out.size; omega
              · have h1 := HGG.out; have h2 := HB00.out.size; omega
          · refine step_zeros w52 rfl (.tmp 43) (.tmp 43) rfl nz rfl rfl (by omega) ?_
            intro z w53 hz hb
            have HB3 := Lib.hid (HB2.out.trans (hb.mono HB2.out.size))
            have HO3 := Lib.hid (HO2.out.keep hb)
            have HZ := Lib.hid hz
            clear hz hb
            try dsimp only
            refine hK.out _ _ ?_ (fun hHeld => ?_)
            · intro _
              try dsimp only
              exact HTB.out _ HB3.out
            clear hK K
            try simp only [Act.put, List.setIfInBounds_toArray, List.set_cons_zero, List.set_cons_succ]
            have hHeld := hHeld (by kernel_rfl)
            refine wpAnyG_more (T' := fun w' => (w'.cell? ⟨q, 0, none⟩ = some (.slice (some ⟨g, 0, none⟩) s.n c2) ∧ w'.cell? ⟨w.heap.size, 1, none⟩ = some (.slice D m2 d)) ∧ Blk w' z 5 (Array.replicate nz (.int .u8 0))) (fun _ h => h.1) _ _ _ _ ?_
            have hHeld := And.intro hHeld HZ.out
            refine wpAnyG_take (i := 16) (oi := { dst := some 45, op := Op.convert 23 9 (Operand.tmp 44), type := 9, pos := _, after := #[{ on := 15, ground := Ground.data }], guard := none }) (v := ?_) rfl (by kernel_rfl) (by kernel_rfl) (by kernel_rfl) (by kernel_rfl) (fun _ _ _ h => h) (Or.inl ⟨by rfl, ?_⟩) (by assumption) ?_
            rotate_left
            · intro w hSw
              try dsimp only at hSw
              have hcv := convB (blk_zeros hSw.2) nz nz (List.length_replicate).symm
              rw [HV.out.1] at hcv
              go_simp
              try with_reducible rfl
            try simp only [Act.put, List.setIfInBounds_toArray, List.set_cons_zero, List.set_cons_succ]
            refine wpAnyG_pure (i := 17) (oi := { dst := some 46, op := Op.binOp BinOp.add 9 (Operand.tmp 40) (Operand.tmp 45) 9, type := 9, pos := _, after := #[{ on := 11, ground := Ground.data }, { on := 16, ground := Ground.data }], guard := none }) (v := ?_) rfl (by kernel_rfl) (by kernel_rfl) (by kernel_rfl) (by kernel_rfl) (fun _ _ _ h => h) (Or.inl ⟨by rfl, ?_⟩) (fun _ => by assumption) ?_
            rotate_left
            · intro w hSw
              try dsimp only at hSw
              go_simp
              try with_reducible rfl
            try simp only [Act.put, List.setIfInBounds_toArray, List.set_cons_zero, List.set_cons_succ]
            refine wpAnyG_one (i := 10) (o := { dst := some 39, op := Op.call { callee := Callee.value (Operand.func 29), args := #[Operand.tmp 38], argTypes := #[49] }, type := 3, pos := _, after := #[{ on := 9, ground := Ground.data }, { on := 8, ground := Ground.chain }], guard := none }) (by kernel_rfl) rfl (fun K hK => ?_)
            go_simp
            have hop := ropenA (show RdA G q s.n (fOf s) s.steps s.well s.off w53 from ⟨_, c2, HD5.out.keep HB3.out⟩)
            rw [HSUM.out] at hop
            refine hop.mono ?_
            clear hop
            rintro e w' ⟨rfl, rfl⟩
            try dsimp only
            refine hK.out _ _ ?_ (fun hHeld => ?_)
            · intro _
              try dsimp only
              exact hHeld
            clear hK K
            try simp only [Act.put, List.setIfInBounds_toArray, List.set_cons_zero, List.set_cons_succ]
            have hHeld := hHeld (by kernel_rfl)
            refine wpAnyG_pure (i := 18) (oi := { dst := some 47, op := Op.build 78 #[(0, Operand.tmp 39), (1, Operand.tmp 46)], type := 78, pos := _, after := #[{ on := 10, ground := Ground.data }, { on := 17, ground := Ground.data }], guard := none }) (v := ?_) rfl (by kernel_rfl) (by kernel_rfl) (by kernel_rfl) (by kernel_rfl) (fun _ _ _ h => h) (Or.inl ⟨by rfl, ?_⟩) (fun _ => by assumption) ?_
            rotate_left
            · intro w hSw
              try dsimp only at hSw
              go_simp
              try with_reducible rfl
            try simp only [Act.put, List.setIfInBounds_toArray, List.set_cons_zero, List.set_cons_succ]
            refine wpAnyG_one (i := 19) (o := { dst := some 48, op := Op.buildSlice 69 1 #[(0, Operand.tmp 47)], type := 69, pos := _, after := #[{ on := 18, ground := Ground.data }], guard := none }) (by kernel_rfl) rfl (fun K hK => ?_)
            go_simp
            try dsimp only
            obtain ⟨w55, hw9⟩ : ∃ w9 : World, w9 = w53.alloc (.cells #[.int .i64 (no : Int), .string v3] 78) := ⟨_, rfl⟩
            have hb : Below w53.heap.size w53 w55 := by rw [hw9]; exact nextA (Mem.start _) _
            have HN := Lib.hid (show Cells w55 w55.heap.size (some ⟨w53.heap.size, 0, none⟩) (ltc (no, pad l)) from by
              rw [hw9, show ltc (no, pad l) = [.int .i64 (no : Int), .string v3] from by rw [← HV.out.2]; rfl]
              exact fun _ => ⟨_, 0, rfl, by rw [World.size_alloc]; exact Nat.lt_succ_self _, fun j v hv => by rw [Nat.zero_add, new_cell, ← hv]; simp⟩)
            have HB5 := Lib.hid (HB3.out.trans (hb.mono HB3.out.size))
            have HO5 := Lib.hid (HO3.out.keep hb)
            have HL5 := Lib.hid hb
            rw [← hw9]
            obtain ⟨wq, hwq⟩ : ∃ wq, w53.heap.size = wq := ⟨_, rfl⟩
            rw [hwq] at HN ⊢
            have HWQ := Lib.hid hwq
            clear hb hw9 hwq
            try dsimp only
            refine hK.out _ _ ?_ (fun hHeld => ?_)
            · intro _
              try dsimp only
              exact ⟨HTB.out _ HB5.out, hHeld.2.keep HL5.out⟩
            clear hK K
            try simp only [Act.put, List.setIfInBounds_toArray, List.set_cons_zero, List.set_cons_succ]
            have hHeld := hHeld (by kernel_rfl)
            refine wpAnyG_one (i := 20) (o := { dst := some 49, op := Op.call { callee := Callee.builtin Builtin.append, args := #[Operand.tmp 37, Operand.tmp 48], argTypes := #[69, 69] }, type := 69, pos := _, after := #[{ on := 8, ground := Ground.data }, { on := 19, ground := Ground.data }, { on := 10, ground := Ground.chain }], guard := none }) (by kernel_rfl) rfl (fun K hK => ?_)
            refine step_appK w55 rfl (.tmp 37) (.tmp 48) 69 (by rfl) w5.heap.size 78 i1 _ 2 24 Try.underlying69 HI1.out.1 HI1.out.2.1 HI1.out.2.2.1 HI1.out.2.2.2 (by rfl) (by decide) AA2 cc2 m2 (ls.flatMap ltc) (by rfl) HO5.out w55.heap.size (some ⟨wq, 0, none⟩) 1 1 (ltc (no, pad l)) (by rfl) HN.out (by rfl) (by intro u hu; exact lt_one [(no, pad l)] u (by simpa using hu)) (by unfold maxLen; omega) (by omega) HB5.out.size (m2 + 1) rfl ?_
            intro A9 c9 w9 ho hb hg _
            have HO9 := Lib.hid ho
            have HB9 := Lib.hid (HB5.out.trans hb)
            have HG9 := Lib.hid hg
            clear ho hb hg
            try dsimp only
            refine hK.out _ _ ?_ (fun hHeld => ?_)
            · intro _
              try dsimp only
              exact ⟨HTB.out _ HB9.out, Blk.appK hHeld.2 HO5.out (by decide) HG9.out⟩
            clear hK K
            try simp only [Act.put, List.setIfInBounds_toArray, List.set_cons_zero, List.set_cons_succ]
            have hHeld := hHeld (by kernel_rfl)
            refine wpAnyG_pure (i := 21) (oi := { dst := some 50, op := Op.indexAddr 54 (Operand.tmp 32) (Operand.tmp 33), type := 0, pos := _, after := #[{ on := 3, ground := Ground.data }, { on := 4, ground := Ground.data }, { on := 0, ground := Ground.phase }, { on := 1, ground := Ground.phase }, { on := 2, ground := Ground.phase }, { on := 3, ground := Ground.phase }, { on := 4, ground := Ground.phase }, { on := 5, ground := Ground.phase }, { on := 6, ground := Ground.phase }, { on := 7, ground := Ground.phase }, { on := 8, ground := Ground.phase }, { on := 9, ground := Ground.phase }, { on := 10, ground := Ground.phase }, { on := 11, ground := Ground.phase }, { on := 12, ground := Ground.phase }, { on := 13, ground := Ground.phase }, { on := 14, ground := Ground.phase }, { on := 15, ground := Ground.phase }, { on := 16, ground := Ground.phase }, { on := 17, ground := Ground.phase }, { on := 18, ground := Ground.phase }, { on := 19, ground := Ground.phase }, { on := 20, ground := Ground.phase }], guard := none }) (v := ?_) rfl (by kernel_rfl) (by kernel_rfl) (by kernel_rfl) (by kernel_rfl) (fun _ _ _ h => h) (Or.inl ⟨by rfl, ?_⟩) (fun _ => by assumption) ?_
            rotate_left
            · intro w hSw
              try dsimp only at hSw
              go_simp
              try with_reducible rfl
            try simp only [Act.put, List.setIfInBounds_toArray, List.set_cons_zero, List.set_cons_succ]
            refine wpAnyG_pure (i := 22) (oi := { dst := some 51, op := Op.fieldAddr 71 (Operand.tmp 50) 1, type := 0, pos := _, after := #[{ on := 21, ground := Ground.data }, { on := 0, ground := Ground.phase }, { on := 1, ground := Ground.phase }, { on := 2, ground := Ground.phase }, { on := 3, ground := Ground.phase }, { on := 4, ground := Ground.phase }, { on := 5, ground := Ground.phase }, { on := 6, ground := Ground.phase }, { on := 7, ground := Ground.phase }, { on := 8, ground := Ground.phase }, { on := 9, ground := Ground.phase }, { on := 10, ground := Ground.phase }, { on := 11, ground := Ground.phase }, { on := 12, ground := Ground.phase }, { on := 13, ground := Ground.phase }, { on := 14, ground := Ground.phase }, { on := 15, ground := Ground.phase }, { on := 16, ground := Ground.phase }, { on := 17, ground := Ground.phase }, { on := 18, ground := Ground.phase }, { on := 19, ground := Ground.phase }, { on := 20, ground := Ground.phase }], guard := none }) (v := ?_) rfl (by kernel_rfl) (by kernel_rfl) (by kernel_rfl) (by kernel_rfl) (fun _ _ _ h => h) (Or.inl ⟨by rfl, ?_⟩) (fun _ => by assumption) ?_
            rotate_left
            · intro w hSw
              try dsimp only at hSw
              go_simp
              try with_reducible rfl
            try simp only [Act.put, List.setIfInBounds_toArray, List.set_cons_zero, List.set_cons_succ]
            refine wpAnyG_one (i := 23) (o := { dst := none, op := Op.store 69 (Operand.tmp 51) (Operand.tmp 49), type := 0, pos := _, after := #[{ on := 22, ground := Ground.data }, { on := 20, ground := Ground.data }, { on := 20, ground := Ground.chain }, { on := 0, ground := Ground.phase }, { on := 1, ground := Ground.phase }, { on := 2, ground := Ground.phase }, { on := 3, ground := Ground.phase }, { on := 4, ground := Ground.phase }, { on := 5, ground := Ground.phase }, { on := 6, ground := Ground.phase }, { on := 7, ground := Ground.phase }, { on := 8, ground := Ground.phase }, { on := 9, ground := Ground.phase }, { on := 10, ground := Ground.phase }, { on := 11, ground := Ground.phase }, { on := 12, ground := Ground.phase }, { on := 13, ground := Ground.phase }, { on := 14, ground := Ground.phase }, { on := 15, ground := Ground.phase }, { on := 16, ground := Ground.phase }, { on := 17, ground := Ground.phase }, { on := 18, ground := Ground.phase }, { on := 19, ground := Ground.phase }, { on := 20, ground := Ground.phase }], guard := none }) (by kernel_rfl) rfl (fun K hK => ?_)
            have HD9 := Lib.hid (HD5.out.keep HB9.out)
            obtain ⟨⟨B8, d8, sc0, sc1⟩, sz0, sz1⟩ := HD9.out.spare hkn
            go_simp
            clear sc0 sc1 sz0 sz1
            try dsimp only
            refine hK.out _ _ ?_ (fun hHeld => ?_)
            · exact fun h => (st_no (by kernel_rfl) h).elim
            clear hK K
            try simp only [Act.put, List.setIfInBounds_toArray, List.set_cons_zero, List.set_cons_succ]
            clear hHeld
            refine wpAnyG_done (by kernel_rfl) ?_ _
            refine NoPanic.normal ?_
            obtain ⟨g9, rfl, hg9, hg9l⟩ := own_some HO9.out (Nat.succ_pos _)
            have hset := HD9.out.setL hkn (ls ++ [(no, pad l)]) (m2 + 1) c9 (by rw [List.length_append, HLS.out.1]; rfl) (by rw [List.length_append, HLS.out.1]; show m2 + 1 ≤ _; omega) hg9l (fun hG => by have h1 := HD5.out.lt g9 hG; omega) (by have := HO9.out.cells; rw [show ls.flatMap ltc ++ ltc (no, pad l) = (ls ++ [(no, pad l)]).flatMap ltc from by simp] at this; exact this)
            have hst := rstep_any (s := s.lay (k : Int) l) (f := fOf (s.lay (k : Int) l)) (n := s.n) ⟨_, c2, hset.1.congr fun j _ => by rw [lay_f, HLS.out.2.2.1, HLS.out.2.1]⟩ HSS.out
            unfold StepOk at hst
            have HSET := Lib.hid hset.2
            have HGG := Lib.hid hg9
            have HST := Lib.hid hst
            clear hset hst hg9 hg9l
            by_cases hw0 : s.well = 0
            · have hE : (s.lay (k : Int) l).step id = ({ s.lay (k : Int) l with steps := s.steps + 1 }.crash, 180) := step_id_gone (s := s.lay (k : Int) l) hw0
              have HE := Lib.hid hE
              rw [show decide ((s.lay (k : Int) l).well ≠ 0) = false from decide_eq_false (fun h => h hw0)] at HST
              go_wp2_with fail
              refine HST.out.mono ?_
              rintro e w10 ⟨rfl, h1, f1⟩
              have H1 := Lib.hid (And.intro h1 f1)
              clear h1 f1
              go_wp2_with fail
              go_ret
              refine ⟨by rw [HE.out]; rfl, _, ⟨by rw [(step_id_keeps (s.lay (k : Int) l)).1]; exact H1.out.1.congr fun j _ => by unfold fOf; rw [(step_id_keeps (s.lay (k : Int) l)).2.1, (step_id_keeps (s.lay (k : Int) l)).2.2.2.1], HTL.out⟩, ?_, fr_comp (fr_comp (Fr.quiet (HB00.out.trans (HB9.out.mono HB00.out.size))) HSET.out fun _ h => .inl h) H1.out.2 fun j hj => hj.imp id fun e => ?_⟩
              · intro j hj
                refine hj.imp id fun e => ?_
                have h1 := HGG.out; have h2 := HB00.out.size; omega
              · have h1 := HGG.out; have h2 := HB00.out.size; omega
            · have HE := Lib.hid (step_id_snd (s := s.lay (k : Int) l) hw0)
              rw [show decide ((s.lay (k : Int) l).well ≠ 0) = true from decide_eq_true hw0] at HST
              go_wp2_with fail
              refine HST.out.mono ?_
              rintro e w10 ⟨rfl, h1, f1⟩
              have H1 := Lib.hid (And.intro h1 f1)
              clear h1 f1
              go_wp2_with fail
              go_ret
              refine ⟨by rw [HE.out]; rfl, _, ⟨by rw [(step_id_keeps (s.lay (k : Int) l)).1]; exact H1.out.1.congr fun j _ => by unfold fOf; rw [(step_id_keeps (s.lay (k : Int) l)).2.1, (step_id_keeps (s.lay (k : Int) l)).2.2.2.1], HTL.out⟩, ?_, fr_comp (fr_comp (Fr.quiet (HB00.out.trans (HB9.out.mono HB00.out.size))) HSET.out fun _ h => .inl h) H1.out.2 fun j hj => hj.imp id fun e => ?_⟩
              · intro j hj
                refine hj.imp id fun e => ?_
                have h1 := HGG.out; have h2 := HB00.out.size; omega
              · have h1 := HGG.out; have h2 := HB00.out.size; omega
        · refine step_zeros w51 rfl (.tmp 43) (.tmp 43) rfl nz rfl rfl (by omega) ?_
          intro z w52 hz hb
          have HB2 := Lib.hid (HB1.out.trans (hb.mono HB1.out.size))
          have HO2 := Lib.hid (HO1.out.keep hb)
          have HZ := Lib.hid hz
          clear hz hb
          try dsimp only
          refine hK.out _ _ ?_ (fun hHeld => ?_)
          · intro _
            try dsimp only
            exact HTB.out _ HB2.out
          clear hK K
          try simp only [Act.put, List.setIfInBounds_toArray, List.set_cons_zero, List.set_cons_succ]
          have hHeld := hHeld (by kernel_rfl)
          refine wpAnyG_more (T' := fun w' => (w'.cell? ⟨q, 0, none⟩ = some (.slice (some ⟨g, 0, none⟩) s.n c2) ∧ w'.cell? ⟨w.heap.size, 1, none⟩ = some (.slice D m2 d)) ∧ Blk w' z 5 (Array.replicate nz (.int .u8 0))) (fun _ h => h.1) _ _ _ _ ?_
          have hHeld := And.intro hHeld HZ.out
          refine wpAnyG_take (i := 16) (oi := { dst := some 45, op := Op.convert 23 9 (Operand.tmp 44), type := 9, pos := _, after := #[{ on := 15, ground := Ground.data }], guard := none }) (v := ?_) rfl (by kernel_rfl) (by kernel_rfl) (by kernel_rfl) (by kernel_rfl) (fun _ _ _ h => h) (Or.inl ⟨by rfl, ?_⟩) (by assumption) ?_
          rotate_left
          · intro w hSw
            try dsimp only at hSw
            have hcv := convB (blk_zeros hSw.2) nz nz (List.length_replicate).symm
            rw [HV.out.1] at hcv
            go_simp
            try with_reducible rfl
          try simp only [Act.put, List.setIfInBounds_toArray, List.set_cons_zero, List.set_cons_succ]
          refine wpAnyG_pure (i := 17) (oi := { dst := some 46, op := Op.binOp BinOp.add 9 (Operand.tmp 40) (Operand.tmp 45) 9, type := 9, pos := _, after := #[{ on := 11, ground := Ground.data }, { on := 16, ground := Ground.data }], guard := none }) (v := ?_) rfl (by kernel_rfl) (by kernel_rfl) (by kernel_rfl) (by kernel_rfl) (fun _ _ _ h => h) (Or.inl ⟨by rfl, ?_⟩) (fun _ => by assumption) ?_
          rotate_left
          · intro w hSw
            try dsimp only at hSw
            go_simp
            try with_reducible rfl
          try simp only [Act.put, List.setIfInBounds_toArray, List.set_cons_zero, List.set_cons_succ]
          refine wpAnyG_one (i := 8) (o := { dst := some 37, op := Op.call { callee := Callee.builtin Builtin.append, args := #[Operand.tmp 34, Operand.tmp 36], argTypes := #[69, 69] }, type := 69, pos := _, after := #[{ on := 5, ground := Ground.data }, { on := 7, ground := Ground.data }], guard := none }) (by kernel_rfl) rfl (fun K hK => ?_)
          refine step_appK w52 rfl (.tmp 34) (.tmp 36) 69 (by rfl) w5.heap.size 78 i1 _ 2 24 Try.underlying69 HI1.out.1 HI1.out.2.1 HI1.out.2.2.1 HI1.out.2.2.2 (by rfl) (by decide) AA1 0 0 [] (by rfl) HO2.out w5.heap.size D d m2 (ls.flatMap ltc) (by rfl) (HLS.out.2.2.2.below HB2.out) (by rw [ltc_len, HLS.out.1]) (lt_one _) (by unfold maxLen; omega) (by omega) HB2.out.size m2 (Nat.zero_add _).symm ?_
          intro AA3 cc3 w53 ho hb hg _
          rw [List.nil_append] at ho
          have HO3 := Lib.hid ho
          have HB3 := Lib.hid (HB2.out.trans hb)
          have HG3 := Lib.hid hg
          clear ho hb hg
          try dsimp only
          refine hK.out _ _ ?_ (fun hHeld => ?_)
          · intro _
            try dsimp only
            exact ⟨HTB.out _ HB3.out, Blk.appK hHeld.2 HO2.out (by decide) HG3.out⟩
          clear hK K
          try simp only [Act.put, List.setIfInBounds_toArray, List.set_cons_zero, List.set_cons_succ]
          have hHeld := hHeld (by kernel_rfl)
          refine wpAnyG_one (i := 10) (o := { dst := some 39, op := Op.call { callee := Callee.value (Operand.func 29), args := #[Operand.tmp 38], argTypes := #[49] }, type := 3, pos := _, after := #[{ on := 9, ground := Ground.data }, { on := 8, ground := Ground.chain }], guard := none }) (by kernel_rfl) rfl (fun K hK => ?_)
          go_simp
          have hop := ropenA (show RdA G q s.n (fOf s) s.steps s.well s.off w53 from ⟨_, c2, HD5.out.keep HB3.out⟩)
          rw [HSUM.out] at hop
          refine hop.mono ?_
          clear hop
          rintro e w' ⟨rfl, rfl⟩
          try dsimp only
          refine hK.out _ _ ?_ (fun hHeld => ?_)
          · intro _
            try dsimp only
            exact hHeld
          clear hK K
          try simp only [Act.put, List.setIfInBounds_toArray, List.set_cons_zero, List.set_cons_succ]
          have hHeld := hHeld (by kernel_rfl)
          refine wpAnyG_pure (i := 18) (oi := { dst := some 47, op := Op.build 78 #[(0, Operand.tmp 39), (1, Operand.tmp 46)], type := 78, pos := _, after := #[{ on := 10, ground := Ground.data }, { on := 17, ground := Ground.data }], guard := none }) (v := ?_) rfl (by kernel_rfl) (by kernel_rfl) (by kernel_rfl) (by kernel_rfl) (fun _ _ _ h => h) (Or.inl ⟨by rfl, ?_⟩) (fun _ => by assumption) ?_
          rotate_left
          · intro w hSw
            try dsimp only at hSw
            go_simp
            try with_reducible rfl
          try simp only [Act.put, List.setIfInBounds_toArray, List.set_cons_zero, List.set_cons_succ]
          refine wpAnyG_one (i := 19) (o := { dst := some 48, op := Op.buildSlice 69 1 #[(0, Operand.tmp 47)], type := 69, pos := _, after := #[{ on := 18, ground := Ground.data }], guard := none }) (by kernel_rfl) rfl (fun K hK => ?_)
          go_simp
          try dsimp only
          obtain ⟨w55, hw9⟩ : ∃ w9 : World, w9 = w53.alloc (.cells #[.int .i64 (no : Int), .string v3] 78) := ⟨_, rfl⟩
          have hb : Below w53.heap.size w53 w55 := by rw [hw9]; exact nextA (Mem.start _) _
          have HN := Lib.hid (show Cells w55 w55.heap.size (some ⟨w53.heap.size, 0, none⟩) (ltc (no, pad l)) from by
            rw [hw9, show ltc (no, pad l) = [.int .i64 (no : Int), .string v3] from by rw [← HV.out.2]; rfl]
            exact fun _ => ⟨_, 0, rfl, by rw [World.size_alloc]; exact Nat.lt_succ_self _, fun j v hv => by rw [Nat.zero_add, new_cell, ← hv]; simp⟩)
          have HB5 := Lib.hid (HB3.out.trans (hb.mono HB3.out.size))
          have HO5 := Lib.hid (HO3.out.keep hb)
          have HL5 := Lib.hid hb
          rw [← hw9]
          obtain ⟨wq, hwq⟩ : ∃ wq, w53.heap.size = wq := ⟨_, rfl⟩
          rw [hwq] at HN ⊢
          have HWQ := Lib.hid hwq
          clear hb hw9 hwq
          try dsimp only
          refine hK.out _ _ ?_ (fun hHeld => ?_)
          · intro _
            try dsimp only
            exact ⟨HTB.out _ HB5.out, hHeld.2.keep HL5.out⟩
          clear hK K
          try simp only [Act.put, List.setIfInBounds_toArray, List.set_cons_zero, List.set_cons_succ]
          have hHeld := hHeld (by kernel_rfl)
          refine wpAnyG_one (i := 20) (o := { dst := some 49, op := Op.call { callee := Callee.builtin Builtin.append, args := #[Operand.tmp 37, Operand.tmp 48], argTypes := #[69, 69] }, type := 69, pos := _, after := #[{ on := 8, ground := Ground.data }, { on := 19, ground := Ground.data }, { on := 10, ground := Ground.chain }], guard := none }) (by kernel_rfl) rfl (fun K hK => ?_)
          refine step_appK w55 rfl (.tmp 37) (.tmp 48) 69 (by rfl) w5.heap.size 78 i1 _ 2 24 Try.underlying69 HI1.out.1 HI1.out.2.1 HI1.out.2.2.1 HI1.out.2.2.2 (by rfl) (by decide) AA3 cc3 m2 (ls.flatMap ltc) (by rfl) HO5.out w55.heap.size (some ⟨wq, 0, none⟩) 1 1 (ltc (no, pad l)) (by rfl) HN.out (by rfl) (by intro u hu; exact lt_one [(no, pad l)] u (by simpa using hu)) (by unfold maxLen; omega) (by omega) HB5.out.size (m2 + 1) rfl ?_
          intro A9 c9 w9 ho hb hg _
          have HO9 := Lib.hid ho
          have HB9 := Lib.hid (HB5.out.trans hb)
          have HG9 := Lib.hid hg
          clear ho hb hg
          try dsimp only
          refine hK.out _ _ ?_ (fun hHeld => ?_)
          · intro _
            try dsimp only
            exact ⟨HTB.out _ HB9.out, Blk.appK hHeld.2 HO5.out (by decide) HG9.out⟩
          clear hK K
          try simp only [Act.put, List.setIfInBounds_toArray, List.set_cons_zero, List.set_cons_succ]
          have hHeld := hHeld (by kernel_rfl)
          refine wpAnyG_pure (i := 21) (oi := { dst := some 50, op := Op.indexAddr 54 (Operand.tmp 32) (Operand.tmp 33), type := 0, pos := _, after := #[{ on := 3, ground := Ground.data }, { on := 4, ground := Ground.data }, { on := 0, ground := Ground.phase }, { on := 1, ground := Ground.phase }, { on := 2, ground := Ground.phase }, { on := 3, ground := Ground.phase }, { on := 4, ground := Ground.phase }, { on := 5, ground := Ground.phase }, { on := 6, ground := Ground.phase }, { on := 7, ground := Ground.phase }, { on := 8, ground := Ground.phase }, { on := 9, ground := Ground.phase }, { on := 10, ground := Ground.phase }, { on := 11, ground := Ground.phase }, { on := 12, ground := Ground.phase }, { on := 13, ground := Ground.phase }, { on := 14, ground := Ground.phase }, { on := 15, ground := Ground.phase }, { on := 16, ground := Ground.phase }, { on := 17, ground := Ground.phase }, { on := 18, ground := Ground.phase }, { on := 19, ground := Ground.phase }, { on := 20, ground := Ground.phase }], guard := none }) (v := ?_) rfl (by kernel_rfl) (by kernel_rfl) (by kernel_rfl) (by kernel_rfl) (fun _ _ _ h => h) (Or.inl ⟨by rfl, ?_⟩) (fun _ => by assumption) ?_
          rotate_left
          · intro w hSw
            try dsimp only at hSw
            go_simp
            try with_reducible rfl
          try simp only [Act.put, List.setIfInBounds_toArray, List.set_cons_zero, List.set_cons_succ]
          refine wpAnyG_pure (i := 22) (oi := { dst := some 51, op := Op.fieldAddr 71 (Operand.tmp 50) 1, type := 0, pos := _, after := #[{ on := 21, ground := Ground.data }, { on := 0, ground := Ground.phase }, { on := 1, ground := Ground.phase }, { on := 2, ground := Ground.phase }, { on := 3, ground := Ground.phase }, { on := 4, ground := Ground.phase }, { on := 5, ground := Ground.phase }, { on := 6, ground := Ground.phase }, { on := 7, ground := Ground.phase }, { on := 8, ground := Ground.phase }, { on := 9, ground := Ground.phase }, { on := 10, ground := Ground.phase }, { on := 11, ground := Ground.phase }, { on := 12, ground := Ground.phase }, { on := 13, ground := Ground.phase }, { on := 14, ground := Ground.phase }, { on := 15, ground := Ground.phase }, { on := 16, ground := Ground.phase }, { on := 17, ground := Ground.phase }, { on := 18, ground := Ground.phase }, { on := 19, ground := Ground.phase }, { on := 20, ground := Ground.phase }], guard := none }) (v := ?_) rfl (by kernel_rfl) (by kernel_rfl) (by kernel_rfl) (by kernel_rfl) (fun _ _ _ h => h) (Or.inl ⟨by rfl, ?_⟩) (fun _ => by assumption) ?_
          rotate_left
          · intro w hSw
            try dsimp only at hSw
            go_simp
            try with_reducible rfl
          try simp only [Act.put, List.setIfInBounds_toArray, List.set_cons_zero, List.set_cons_succ]
          refine wpAnyG_one (i := 23) (o := { dst := none, op := Op.store 69 (Operand.tmp 51) (Operand.tmp 49), type := 0, pos := _, after := #[{ on := 22, ground := Ground.data }, { on := 20, ground := Ground.data }, { on := 20, ground := Ground.chain }, { on := 0, ground := Ground.phase }, { on := 1, ground := Ground.phase }, { on := 2, ground := Ground.phase }, { on := 3, ground := Ground.phase }, { on := 4, ground := Ground.phase }, { on := 5, ground := Ground.phase }, { on := 6, ground := Ground.phase }, { on := 7, ground := Ground.phase }, { on := 8, ground := Ground.phase }, { on := 9, ground := Ground.phase }, { on := 10, ground := Ground.phase }, { on := 11, ground := Ground.phase }, { on := 12, ground := Ground.phase }, { on := 13, ground := Ground.phase }, { on := 14, ground := Ground.phase }, { on := 15, ground := Ground.phase }, { on := 16, ground := Ground.phase }, { on := 17, ground := Ground.phase }, { on := 18, ground := Ground.phase }, { on := 19, ground := Ground.phase }, { on := 20, ground := Ground.phase }], guard := none }) (by kernel_rfl) rfl (fun K hK => ?_)
          have HD9 := Lib.hid (HD5.out.keep HB9.out)
          obtain ⟨⟨B8, d8, sc0, sc1⟩, sz0, sz1⟩ := HD9.out.spare hkn
          go_simp
          clear sc0 sc1 sz0 sz1
          try dsimp only
          refine hK.out _ _ ?_ (fun hHeld => ?_)
          · exact fun h => (st_no (by kernel_rfl) h).elim
          clear hK K
          try simp only [Act.put, List.setIfInBounds_toArray, List.set_cons_zero, List.set_cons_succ]
          clear hHeld
          refine wpAnyG_done (by kernel_rfl) ?_ _
          refine NoPanic.normal ?_
          obtain ⟨g9, rfl, hg9, hg9l⟩ := own_some HO9.out (Nat.succ_pos _)
          have hset := HD9.out.setL hkn (ls ++ [(no, pad l)]) (m2 + 1) c9 (by rw [List.length_append, HLS.out.1]; rfl) (by rw [List.length_append, HLS.out.1]; show m2 + 1 ≤ _; omega) hg9l (fun hG => by have h1 := HD5.out.lt g9 hG; omega) (by have := HO9.out.cells; rw [show ls.flatMap ltc ++ ltc (no, pad l) = (ls ++ [(no, pad l)]).flatMap ltc from by simp] at this; exact this)
          have hst := rstep_any (s := s.lay (k : Int) l) (f := fOf (s.lay (k : Int) l)) (n := s.n) ⟨_, c2, hset.1.congr fun j _ => by rw [lay_f, HLS.out.2.2.1, HLS.out.2.1]⟩ HSS.out
          unfold StepOk at hst
          have HSET := Lib.hid hset.2
          have HGG := Lib.hid hg9
          have HST := Lib.hid hst
          clear hset hst hg9 hg9l
          by_cases hw0 : s.well = 0
          · have hE : (s.lay (k : Int) l).step id = ({ s.lay (k : Int) l with steps := s.steps + 1 }.crash, 180) := step_id_gone (s := s.lay (k : Int) l) hw0
            have HE := Lib.hid hE
            rw [show decide ((s.lay (k : Int) l).well ≠ 0) = false from decide_eq_false (fun h => h hw0)] at HST
            go_wp2_with fail
            refine HST.out.mono ?_
            rintro e w10 ⟨rfl, h1, f1⟩
            have H1 := Lib.hid (And.intro h1 f1)
            clear h1 f1
            go_wp2_with fail
            go_ret
            refine ⟨by rw [HE.out]; rfl, _, ⟨by rw [(step_id_keeps (s.lay (k : Int) l)).1]; exact H1.out.1.congr fun j _ => by unfold fOf; rw [(step_id_keeps (s.lay (k : Int) l)).2.1, (step_id_keeps (s.lay (k : Int) l)).2.2.2.1], HTL.out⟩, ?_, fr_comp (fr_comp (Fr.quiet (HB00.out.trans (HB9.out.mono HB00.out.size))) HSET.out fun _ h => .inl h) H1.out.2 fun j hj => hj.imp id fun e => ?_⟩
            · intro j hj
              refine hj.imp id fun e => ?_
              have h1 := HGG.out; have h2 := HB00.out.size; omega
            · have h1 := HGG.out; have h2 := HB00.out.size; omega
          · have HE := Lib.hid (step_id_snd (s := s.lay (k : Int) l) hw0)
            rw [show decide ((s.lay (k : Int) l).well ≠ 0) = true from decide_eq_true hw0] at HST
            go_wp2_with fail
            refine HST.out.mono ?_
            rintro e w10 ⟨rfl, h1, f1⟩
            have H1 := Lib.hid (And.intro h1 f1)
            clear h1 f1
            go_wp2_with fail
            go_ret
            refine ⟨by rw [HE.out]; rfl, _, ⟨by rw [(step_id_keeps (s.lay (k : Int) l)).1]; exact H1.out.1.congr fun j _ => by unfold fOf; rw [(step_id_keeps (s.lay (k : Int) l)).2.1, (step_id_keeps (s.lay (k : Int) l)).2.2.2.1], HTL.out⟩, ?_, fr_comp (fr_comp (Fr.quiet (HB00.out.trans (HB9.out.mono HB00.out.size))) HSET.out fun _ h => .inl h) H1.out.2 fun j hj => hj.imp id fun e => ?_⟩
            · intro j hj
              refine hj.imp id fun e => ?_
              have h1 := HGG.out; have h2 := HB00.out.size; omega
            · have h1 := HGG.out; have h2 := HB00.out.size; omega
      · refine step_zeros w5 rfl (.tmp 43) (.tmp 43) rfl nz rfl rfl (by omega) ?_
        intro z w51 hz hb
        have HB1 := Lib.hid (HB0.out.trans (hb.mono HB0.out.size))
        have HZ := Lib.hid hz
        clear hz hb
        try dsimp only
        refine hK.out _ _ ?_ (fun hHeld => ?_)
        · intro _
          try dsimp only
          exact HTB.out _ HB1.out
        clear hK K
        try simp only [Act.put, List.setIfInBounds_toArray, List.set_cons_zero, List.set_cons_succ]
        have hHeld := hHeld (by kernel_rfl)
        refine wpAnyG_more (T' := fun w' => (w'.cell? ⟨q, 0, none⟩ = some (.slice (some ⟨g, 0, none⟩) s.n c2) ∧ w'.cell? ⟨w.heap.size, 1, none⟩ = some (.slice D m2 d)) ∧ Blk w' z 5 (Array.replicate nz (.int .u8 0))) (fun _ h => h.1) _ _ _ _ ?_
        have hHeld := And.intro hHeld HZ.out
        refine wpAnyG_take (i := 16) (oi := { dst := some 45, op := Op.convert 23 9 (Operand.tmp 44), type := 9, pos := _, after := #[{ on := 15, ground := Ground.data }], guard := none }) (v := ?_) rfl (by kernel_rfl) (by kernel_rfl) (by kernel_rfl) (by kernel_rfl) (fun _ _ _ h => h) (Or.inl ⟨by rfl, ?_⟩) (by assumption) ?_
        rotate_left
        · intro w hSw
          try dsimp only at hSw
          have hcv := convB (blk_zeros hSw.2) nz nz (List.length_replicate).symm
          rw [HV.out.1] at hcv
          go_simp
          try with_reducible rfl
        try simp only [Act.put, List.setIfInBounds_toArray, List.set_cons_zero, List.set_cons_succ]
        refine wpAnyG_pure (i := 17) (oi := { dst := some 46, op := Op.binOp BinOp.add 9 (Operand.tmp 40) (Operand.tmp 45) 9, type := 9, pos := _, after := #[{ on := 11, ground := Ground.data }, { on := 16, ground := Ground.data }], guard := none }) (v := ?_) rfl (by kernel_rfl) (by kernel_rfl) (by kernel_rfl) (by kernel_rfl) (fun _ _ _ h => h) (Or.inl ⟨by rfl, ?_⟩) (fun _ => by assumption) ?_
        rotate_left
        · intro w hSw
          try dsimp only at hSw
          go_simp
          try with_reducible rfl
        try simp only [Act.put, List.setIfInBounds_toArray, List.set_cons_zero, List.set_cons_succ]
        refine wpAnyG_one (i := 5) (o := { dst := some 34, op := Op.buildSlice 69 0 #[], type := 69, pos := _, after := #[], guard := none }) (by kernel_rfl) rfl (fun K hK => ?_)
        refine step_nilrow w51 rfl rfl ?_
        intro AA2 w52 ho hb
        have HO2 := Lib.hid (ho.down HB1.out.size)
        have HB2 := Lib.hid (HB1.out.trans (hb.mono HB1.out.size))
        have HL2 := Lib.hid hb
        clear ho hb
        try dsimp only
        refine hK.out _ _ ?_ (fun hHeld => ?_)
        · intro _
          try dsimp only
          exact ⟨HTB.out _ HB2.out, hHeld.2.keep HL2.out⟩
        clear hK K
        try simp only [Act.put, List.setIfInBounds_toArray, List.set_cons_zero, List.set_cons_succ]
        have hHeld := hHeld (by kernel_rfl)
        refine wpAnyG_one (i := 8) (o := { dst := some 37, op := Op.call { callee := Callee.builtin Builtin.append, args := #[Operand.tmp 34, Operand.tmp 36], argTypes := #[69, 69] }, type := 69, pos := _, after := #[{ on := 5, ground := Ground.data }, { on := 7, ground := Ground.data }], guard := none }) (by kernel_rfl) rfl (fun K hK => ?_)
        refine step_appK w52 rfl (.tmp 34) (.tmp 36) 69 (by rfl) w5.heap.size 78 i1 _ 2 24 Try.underlying69 HI1.out.1 HI1.out.2.1 HI1.out.2.2.1 HI1.out.2.2.2 (by rfl) (by decide) AA2 0 0 [] (by rfl) HO2.out w5.heap.size D d m2 (ls.flatMap ltc) (by rfl) (HLS.out.2.2.2.below HB2.out) (by rw [ltc_len, HLS.out.1]) (lt_one _) (by unfold maxLen; omega) (by omega) HB2.out.size m2 (Nat.zero_add _).symm ?_
        intro AA3 cc3 w53 ho hb hg _
        rw [List.nil_append] at ho
        have HO3 := Lib.hid ho
        have HB3 := Lib.hid (HB2.out.trans hb)
        have HG3 := Lib.hid hg
        clear ho hb hg
        try dsimp only
        refine hK.out _ _ ?_ (fun hHeld => ?_)
        · intro _
          try dsimp only
          exact ⟨HTB.out _ HB3.out, Blk.appK hHeld.2 HO2.out (by decide) HG3.out⟩
        clear hK K
        try simp only [Act.put, List.setIfInBounds_toArray, List.set_cons_zero, List.set_cons_succ]
        have hHeld := hHeld (by kernel_rfl)
        refine wpAnyG_one (i := 10) (o := { dst := some 39, op := Op.call { callee := Callee.value (Operand.func 29), args := #[Operand.tmp 38], argTypes := #[49] }, type := 3, pos := _, after := #[{ on := 9, ground := Ground.data }, { on := 8, ground := Ground.chain }], guard := none }) (by kernel_rfl) rfl (fun K hK => ?_)
        go_simp
        have hop := ropenA (show RdA G q s.n (fOf s) s.steps s.well s.off w53 from ⟨_, c2, HD5.out.keep HB3.out⟩)
        rw [HSUM.out] at hop
        refine hop.mono ?_
        clear hop
        rintro e w' ⟨rfl, rfl⟩
        try dsimp only
        refine hK.out _ _ ?_ (fun hHeld => ?_)
        · intro _
          try dsimp only
          exact hHeld
        clear hK K
        try simp only [Act.put, List.setIfInBounds_toArray, List.set_cons_zero, List.set_cons_succ]
        have hHeld := hHeld (by kernel_rfl)
        refine wpAnyG_pure (i := 18) (oi := { dst := some 47, op := Op.build 78 #[(0, Operand.tmp 39), (1, Operand.tmp 46)], type := 78, pos := _, after := #[{ on := 10, ground := Ground.data }, { on := 17, ground := Ground.data }], guard := none }) (v := ?_) rfl (by kernel_rfl) (by kernel_rfl) (by kernel_rfl) (by kernel_rfl) (fun _ _ _ h => h) (Or.inl ⟨by rfl, ?_⟩) (fun _ => by assumption) ?_
        rotate_left
        · intro w hSw
          try dsimp only at hSw
          go_simp
          try with_reducible rfl
        try simp only [Act.put, List.setIfInBounds_toArray, List.set_cons_zero, List.set_cons_succ]
        refine wpAnyG_one (i := 19) (o := { dst := some 48, op := Op.buildSlice 69 1 #[(0, Operand.tmp 47)], type := 69, pos := _, after := #[{ on := 18, ground := Ground.data }], guard := none }) (by kernel_rfl) rfl (fun K hK => ?_)
        go_simp
        try dsimp only
        obtain ⟨w55, hw9⟩ : ∃ w9 : World, w9 = w53.alloc (.cells #[.int .i64 (no : Int), .string v3] 78) := ⟨_, rfl⟩
        have hb : Below w53.heap.size w53 w55 := by rw [hw9]; exact nextA (Mem.start _) _
        have HN := Lib.hid (show Cells w55 w55.heap.size (some ⟨w53.heap.size, 0, none⟩) (ltc (no, pad l)) from by
          rw [hw9, show ltc (no, pad l) = [.int .i64 (no : Int), .string v3] from by rw [← HV.out.2]; rfl]
          exact fun _ => ⟨_, 0, rfl, by rw [World.size_alloc]; exact Nat.lt_succ_self _, fun j v hv => by rw [Nat.zero_add, new_cell, ← hv]; simp⟩)
        have HB5 := Lib.hid (HB3.out.trans (hb.mono HB3.out.size))
        have HO5 := Lib.hid (HO3.out.keep hb)
        have HL5 := Lib.hid hb
        rw [← hw9]
        obtain ⟨wq, hwq⟩ : ∃ wq, w53.heap.size = wq := ⟨_, rfl⟩
        rw [hwq] at HN ⊢
        have HWQ := Lib.hid hwq
        clear hb hw9 hwq
        try dsimp only
        refine hK.out _ _ ?_ (fun hHeld => ?_)
        · intro _
          try dsimp only
          exact ⟨HTB.out _ HB5.out, hHeld.2.keep HL5.out⟩
        clear hK K
        try simp only [Act.put, List.setIfInBounds_toArray, List.set_cons_zero, List.set_cons_succ]
        have hHeld := hHeld (by kernel_rfl)
        refine wpAnyG_one (i := 20) (o := { dst := some 49, op := Op.call { callee := Callee.builtin Builtin.append, args := #[Operand.tmp 37, Operand.tmp 48], argTypes := #[69, 69] }, type := 69, pos := _, after := #[{ on := 8, ground := Ground.data }, { on := 19, ground := Ground.data }, { on := 10, ground := Ground.chain }], guard := none }) (by kernel_rfl) rfl (fun K hK => ?_)
        refine step_appK w55 rfl (.tmp 37) (.tmp 48) 69 (by rfl) w5.heap.size 78 i1 _ 2 24 Try.underlying69 HI1.out.1 HI1.out.2.1 HI1.out.2.2.1 HI1.out.2.2.2 (by rfl) (by decide) AA3 cc3 m2 (ls.flatMap ltc) (by rfl) HO5.out w55.heap.size (some ⟨wq, 0, none⟩) 1 1 (ltc (no, pad l)) (by rfl) HN.out (by rfl) (by intro u hu; exact lt_one [(no, pad l)] u (by simpa using hu)) (by unfold maxLen; omega) (by omega) HB5.out.size (m2 + 1) rfl ?_
        intro A9 c9 w9 ho hb hg _
        have HO9 := Lib.hid ho
        have HB9 := Lib.hid (HB5.out.trans hb)
        have HG9 := Lib.hid hg
        clear ho hb hg
        try dsimp only
        refine hK.out _ _ ?_ (fun hHeld => ?_)
        · intro _
          try dsimp only
          exact ⟨HTB.out _ HB9.out, Blk.appK hHeld.2 HO5.out (by decide) HG9.out⟩
        clear hK K
        try simp only [Act.put, List.setIfInBounds_toArray, List.set_cons_zero, List.set_cons_succ]
        have hHeld := hHeld (by kernel_rfl)
        refine wpAnyG_pure (i := 21) (oi := { dst := some 50, op := Op.indexAddr 54 (Operand.tmp 32) (Operand.tmp 33), type := 0, pos := _, after := #[{ on := 3, ground := Ground.data }, { on := 4, ground := Ground.data }, { on := 0, ground := Ground.phase }, { on := 1, ground := Ground.phase }, { on := 2, ground := Ground.phase }, { on := 3, ground := Ground.phase }, { on := 4, ground := Ground.phase }, { on := 5, ground := Ground.phase }, { on := 6, ground := Ground.phase }, { on := 7, ground := Ground.phase }, { on := 8, ground := Ground.phase }, { on := 9, ground := Ground.phase }, { on := 10, ground := Ground.phase }, { on := 11, ground := Ground.phase }, { on := 12, ground := Ground.phase }, { on := 13, ground := Ground.phase }, { on := 14, ground := Ground.phase }, { on := 15, ground := Ground.phase }, { on := 16, ground := Ground.phase }, { on := 17, ground := Ground.phase }, { on := 18, ground := Ground.phase }, { on := 19, ground := Ground.phase }, { on := 20, ground := Ground.phase }], guard := none }) (v := ?_) rfl (by kernel_rfl) (by kernel_rfl) (by kernel_rfl) (by kernel_rfl) (fun _ _ _ h => h) (Or.inl ⟨by rfl, ?_⟩) (fun _ => by assumption) ?_
        rotate_left
        · intro w hSw
          try dsimp only at hSw
          go_simp
          try with_reducible rfl
        try simp only [Act.put, List.setIfInBounds_toArray, List.set_cons_zero, List.set_cons_succ]
        refine wpAnyG_pure (i := 22) (oi := { dst := some 51, op := Op.fieldAddr 71 (Operand.tmp 50) 1, type := 0, pos := _, after := #[{ on := 21, ground := Ground.data }, { on := 0, ground := Ground.phase }, { on := 1, ground := Ground.phase }, { on := 2, ground := Ground.phase }, { on := 3, ground := Ground.phase }, { on := 4, ground := Ground.phase }, { on := 5, ground := Ground.phase }, { on := 6, ground := Ground.phase }, { on := 7, ground := Ground.phase }, { on := 8, ground := Ground.phase }, { on := 9, ground := Ground.phase }, { on := 10, ground := Ground.phase }, { on := 11, ground := Ground.phase }, { on := 12, ground := Ground.phase }, { on := 13, ground := Ground.phase }, { on := 14, ground := Ground.phase }, { on := 15, ground := Ground.phase }, { on := 16, ground := Ground.phase }, { on := 17, ground := Ground.phase }, { on := 18, ground := Ground.phase }, { on := 19, ground := Ground.phase }, { on := 20, ground := Ground.phase }], guard := none }) (v := ?_) rfl (by kernel_rfl) (by kernel_rfl) (by kernel_rfl) (by kernel_rfl) (fun _ _ _ h => h) (Or.inl ⟨by rfl, ?_⟩) (fun _ => by assumption) ?_
        rotate_left
        · intro w hSw
          try dsimp only at hSw
          go_simp
          try with_reducible rfl
        try simp only [Act.put, List.setIfInBounds_toArray, List.set_cons_zero, List.set_cons_succ]
        refine wpAnyG_one (i := 23) (o := { dst := none, op := Op.store 69 (Operand.tmp 51) (Operand.tmp 49), type := 0, pos := _, after := #[{ on := 22, ground := Ground.data }, { on := 20, ground := Ground.data }, { on := 20, ground := Ground.chain }, { on := 0, ground := Ground.phase }, { on := 1, ground := Ground.phase }, { on := 2, ground := Ground.phase }, { on := 3, ground := Ground.phase }, { on := 4, ground := Ground.phase }, { on := 5, ground := Ground.phase }, { on := 6, ground := Ground.phase }, { on := 7, ground := Ground.phase }, { on := 8, ground := Ground.phase }, { on := 9, ground := Ground.phase }, { on := 10, ground := Ground.phase }, { on := 11, ground := Ground.phase }, { on := 12, ground := Ground.phase }, { on := 13, ground := Ground.phase }, { on := 14, ground := Ground.phase }, { on := 15, ground := Ground.phase }, { on := 16, ground := Ground.phase }, { on := 17, ground := Ground.phase }, { on := 18, ground := Ground.phase }, { on := 19, ground := Ground.phase }, { on := 20, ground := Ground.phase }], guard := none }) (by kernel_rfl) rfl (fun K hK => ?_)
        have HD9 := Lib.hid (HD5.out.keep HB9.out)
        obtain ⟨⟨B8, d8, sc0, sc1⟩, sz0, sz1⟩ := HD9.out.spare hkn
        go_simp
        clear sc0 sc1 sz0 sz1
        try dsimp only
        refine hK.out _ _ ?_ (fun hHeld => ?_)
        · exact fun h => (st_no (by kernel_rfl) h).elim
        clear hK K
        try simp only [Act.put, List.setIfInBounds_toArray, List.set_cons_zero, List.set_cons_succ]
        clear hHeld
        refine wpAnyG_done (by kernel_rfl) ?_ _
        refine NoPanic.normal ?_
        obtain ⟨g9, rfl, hg9, hg9l⟩ := own_some HO9.out (Nat.succ_pos _)
        have hset := HD9.out.setL hkn (ls ++ [(no, pad l)]) (m2 + 1) c9 (by rw [List.length_append, HLS.out.1]; rfl) (by rw [List.length_append, HLS.out.1]; show m2 + 1 ≤ _; omega) hg9l (fun hG => by have h1 := HD5.out.lt g9 hG; omega) (by have := HO9.out.cells; rw [show ls.flatMap ltc ++ ltc (no, pad l) = (ls ++ [(no, pad l)]).flatMap ltc from by simp] at this; exact this)
        have hst := rstep_any (s := s.lay (k : Int) l) (f := fOf (s.lay (k : Int) l)) (n := s.n) ⟨_, c2, hset.1.congr fun j _ => by rw [lay_f, HLS.out.2.2.1, HLS.out.2.1]⟩ HSS.out
        unfold StepOk at hst
        have HSET := Lib.hid hset.2
        have HGG := Lib.hid hg9
        have HST := Lib.hid hst
        clear hset hst hg9 hg9l
        by_cases hw0 : s.well = 0
        · have hE : (s.lay (k : Int) l).step id = ({ s.lay (k : Int) l with steps := s.steps + 1 }.crash, 180) := step_id_gone (s := s.lay (k : Int) l) hw0
          have HE := Lib.hid hE
          rw [show decide ((s.lay (k : Int) l).well ≠ 0) = false from decide_eq_false (fun h => h hw0)] at HST
          go_wp2_with fail
          refine HST.out.mono ?_
          rintro e w10 ⟨rfl, h1, f1⟩
          have H1 := Lib.hid (And.intro h1 f1)
          clear h1 f1
          go_wp2_with fail
          go_ret
          refine ⟨by rw [HE.out]; rfl, _, ⟨by rw [(step_id_keeps (s.lay (k : Int) l)).1]; exact H1.out.1.congr fun j _ => by unfold fOf; rw [(step_id_keeps (s.lay (k : Int) l)).2.1, (step_id_keeps (s.lay (k : Int) l)).2.2.2.1], HTL.out⟩, ?_, fr_comp (fr_comp (Fr.quiet (HB00.out.trans (HB9.out.mono HB00.out.size))) HSET.out fun _ h => .inl h) H1.out.2 fun j hj => hj.imp id fun e => ?_⟩
          · intro j hj
            refine hj.imp id fun e => ?_
            have h1 := HGG.out; have h2 := HB00.out.size; omega
          · have h1 := HGG.out; have h2 := HB00.out.size; omega
        · have HE := Lib.hid (step_id_snd (s := s.lay (k : Int) l) hw0)
          rw [show decide ((s.lay (k : Int) l).well ≠ 0) = true from decide_eq_true hw0] at HST
          go_wp2_with fail
          refine HST.out.mono ?_
          rintro e w10 ⟨rfl, h1, f1⟩
          have H1 := Lib.hid (And.intro h1 f1)
          clear h1 f1
          go_wp2_with fail
          go_ret
          refine ⟨by rw [HE.out]; rfl, _, ⟨by rw [(step_id_keeps (s.lay (k : Int) l)).1]; exact H1.out.1.congr fun j _ => by unfold fOf; rw [(step_id_keeps (s.lay (k : Int) l)).2.1, (step_id_keeps (s.lay (k : Int) l)).2.2.2.1], HTL.out⟩, ?_, fr_comp (fr_comp (Fr.quiet (HB00.out.trans (HB9.out.mono HB00.out.size))) HSET.out fun _ h => .inl h) H1.out.2 fun j hj => hj.imp id fun e => ?_⟩
          · intro j hj
            refine hj.imp id fun e => ?_
            have h1 := HGG.out; have h2 := HB00.out.size; omega
          · have h1 := HGG.out; have h2 := HB00.out.size; omega
  · have HW := Lib.hid (show s.write i l = (s, s.may i 0) from by
      rw [if_pos h0] at hml
      rw [write_no i l (by rw [hlen, hml]; exact h0), hlen, hml])
    rw [HW.out]
    have H := Lib.hid h
    obtain ⟨x, hx⟩ : ∃ x, s.may i 0 = x := ⟨_, rfl⟩
    rw [hx] at h0 HM ⊢
    have h1 : (x == 0) = false := by simp [h0]
    obtain ⟨v, hv⟩ : ∃ v, str l = v := ⟨_, rfl⟩
    rw [hv] at hsz ⊢
    clear h hml hx hv hlen hll
    go_enter Try.func36, Try.ntmps36
    go_wp2_with fail
    refine HM.out.mono ?_
    rintro e w' ⟨rfl, rfl⟩
    go_wp2_with fail
    go_ret
    exact RdOk.same H.out (Mem.start _)
end
end Go.Proofs.Ytjpelifafmkdpaa.DkW
