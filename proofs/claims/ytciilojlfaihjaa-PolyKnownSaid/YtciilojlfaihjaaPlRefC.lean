/- The document's product of polynomials. -/
import Derived.Test.YtciilojlfaihjaaPlRefB
import Derived.Test.YtciilojlfaihjaaHeld
import Derived.Test.YtciilojlfaihjaaAppz
namespace Go.Proofs.Ytciilojlfaihjaa.PlW
open Go.RowKit Mem Gf FdW Pl Rng
set_option linter.unusedVariables false

theorem sh_sc_succ (i : Nat) (c : UInt8) {b : List UInt8} {k : Nat} (hk : k < b.length) : sh i (sc c (b.take (k + 1))) = sh i (sc c (b.take k)) ++ [mul c (cf b k)] := by
  rw [List.take_succ_eq_append_getElem hk, sh, sh, sc, sc, List.map_append, List.append_assoc, cf_lt hk]; rfl
theorem sh_sc_len (i : Nat) (c : UInt8) {b : List UInt8} {k : Nat} (hk : k ≤ b.length) : (sh i (sc c (b.take k))).length = i + k := by simp [sh, sc]; omega
/-- What has been summed when i rows are done. -/
def mulT (a b : List UInt8) (i : Nat) : List UInt8 := trim (mulP (a.take i) b)
theorem mulT_zero (a b : List UInt8) : mulT a b 0 = [] := rfl
theorem mulT_succ {a b : List UInt8} {i : Nat} (hi : i < a.length) : trim (add (mulT a b i) (sh i (sc (cf a i) b))) = mulT a b (i + 1) := trim_congr (mul_step hi (trim_eqv _))
theorem mulT_all (a b : List UInt8) : mulT a b a.length = trim (mulP a b) := by rw [mulT, List.take_length]
theorem mulT_len (a b : List UInt8) (i : Nat) : (mulT a b i).length ≤ a.length + b.length := by
  have h1 := len_mul_le (a.take i) b
  have h2 := len_le (a.take i)
  have h3 := len_le b
  have h4 : (mulT a b i).length = len (mulP (a.take i) b) := rfl
  rw [List.length_take] at h2
  omega

set_option maxRecDepth 100000 in
set_option maxHeartbeats 2000000 in
theorem rpMul_any (w : World) (A : Option Addr) (a : List UInt8) (n ca : Nat) (hn : n = a.length) (B : Option Addr) (b : List UInt8) (m cb : Nat) (hm : m = b.length) (hl : (a.length : Int) + (b.length : Int) ≤ 1000) (hA : Bytes w w.heap.size A a) (hB : Bytes w w.heap.size B b) :
    Calls Try.prog 23 #[.slice A n ca, .slice B m cb] w (NewOk w (trim (mulP a b))) := by
  obtain ⟨i0, hi0, hz0, hz1, hz2⟩ := info_parts u8info
  subst hn; subst hm
  have HA := Lib.hid hA
  have HB := Lib.hid hB
  have HL := Lib.hid hl
  clear hA hB
  go_enter Try.func23, Try.ntmps23
  go_wp2_with fail
  go_loopw [5, 6] (fun s i wr => ∃ (j : Nat) (O : Option Addr) (co : Nat), i = .int .i64 (j : Int) ∧ s = .slice O (mulT a b j).length co ∧ j ≤ a.length ∧ Mem.Own wr w.heap.size 5 O co ((mulT a b j).map u8v) ∧ Below w.heap.size w wr) (fun _ i _ => a.length - (intOf i).toNat)
  case atStart => exact ⟨0, none, 0, rfl, rfl, Nat.zero_le _, Own.nil, Below.refl _ _⟩
  case round =>
    obtain ⟨j, O, co, rfl, rfl, hj, ho, hb⟩ := hrel
    obtain ⟨wo, rfl⟩ : ∃ wo : World, wo = wr := ⟨_, rfl⟩
    have HR := Lib.hid (And.intro ho hb)
    clear ho hb
    by_cases hja : j < a.length
    · have hj9 : (j : Int) ≤ 1000 := by omega
      have hai : (j : Int) < (a.length : Int) := by omega
      have HMS := Lib.hid (mulT_succ (b := b) hja)
      have HML := Lib.hid (mulT_len a b j)
      have HJA := Lib.hid hja
      have hOz := own_made wo (Array.replicate j (Value.int .u8 0)) 5 (by simp [maxLen]; omega) (Nat.le_refl wo.heap.size)
      rw [Array.toList_replicate] at hOz
      have HZ := Lib.hid (show Mem.Own (wo.alloc (.cells (Array.replicate j (Value.int .u8 0)) 5)) wo.heap.size 5 (some ⟨wo.heap.size, 0, none⟩) j ((sh j (sc (cf a j) (b.take 0))).map u8v) from by
        have e : (sh j (sc (cf a j) (b.take 0))).map u8v = List.replicate j (Value.int .u8 0) := by simp [sh, sc, u8v]
        rw [e]; simpa using hOz)
      have HZB := Lib.hid (nextA (Mem.start wo) (.cells (Array.replicate j (Value.int .u8 0)) 5))
      clear hOz hja hj
      go_wp2_with ((with_reducible show wpList _ _ _ ((⟨some 16, _, _, _, _, _⟩ : Oper) :: _) _ _); refine wpList_mk rfl _ _ _ rfl 5 i0 1 (.int .u8 0) Try.underlying22 hi0 hz0 hz1 hz2 rfl _ j rfl rfl rfl (by omega) (by unfold maxLen; omega) j rfl ?_)
      generalize wo.alloc (.cells (Array.replicate j (Value.int .u8 0)) 5) = w1 at *
      go_loopw [7, 8] (fun s i wr => ∃ (k : Nat) (R : Option Addr) (cr : Nat), i = .int .i64 (k : Int) ∧ s = .slice R (j + k) cr ∧ k ≤ b.length ∧ Mem.Own wr wo.heap.size 5 R cr ((sh j (sc (cf a j) (b.take k))).map u8v) ∧ Below wo.heap.size wo wr) (fun _ i _ => b.length - (intOf i).toNat)
      case atStart => exact ⟨0, some ⟨wo.heap.size, 0, none⟩, j, rfl, rfl, Nat.zero_le _, HZ.out, HZB.out⟩
      case round =>
        obtain ⟨k, R, cr, rfl, rfl, hk, hor, hbr⟩ := hrel
        have HI := Lib.hid (And.intro hor hbr)
        clear hor hbr
        by_cases hkb : k < b.length
        · have hki : (k : Int) < (b.length : Int) := by omega
          have HBW := Lib.hid (HR.out.2.trans (HI.out.2.mono HR.out.2.size))
          obtain ⟨g1, o1', rfl, hg1, hca⟩ := (HA.out.below HBW.out).at_ (k := j) HJA.out
          obtain ⟨g2, o2', rfl, hg2, hcb⟩ := (HB.out.below HBW.out).at_ (k := k) hkb
          rw [← cf_lt HJA.out] at hca
          rw [← cf_lt hkb] at hcb
          have HSS := Lib.hid (sh_sc_succ j (cf a j) hkb)
          have HSL := Lib.hid (sh_sc_len j (cf a j) hk)
          have HKB := Lib.hid hkb
          clear hkb hk
          obtain ⟨x, hx⟩ : ∃ x, cf a j = x := ⟨_, rfl⟩
          obtain ⟨y, hy⟩ : ∃ y, cf b k = y := ⟨_, rfl⟩
          rw [hx] at hca
          rw [hy] at hcb
          have HXY := Lib.hid (And.intro hx hy)
          clear hx hy
          go_wp2_with fail
          --HELD
          refine wp_region_noPanic ?_
          refine wp_region_held_drew (S := fun w' => w'.cell? ⟨g1, o1' + j, none⟩ = some (.int .u8 (x.toNat : Int)) ∧ w'.cell? ⟨g2, o2' + k, none⟩ = some (.int .u8 (y.toNat : Int))) (by kernel_rfl) ?hs0 ?rg0
          case hs0 =>
            exact ⟨hca, hcb⟩
          case rg0 =>
          intro hHeld
          refine wpAnyH_take (i := 0) (oi := { dst := some 23, op := Op.move (Operand.tmp 7), type := 22, pos := _, after := #[], guard := none }) (v := ?_) rfl (by kernel_rfl) (by kernel_rfl) (by kernel_rfl) (fun _ _ _ h => h) (Or.inl ⟨by rfl, ?_⟩) (by assumption) ?_
          rotate_left
          · intro w hSw
            try dsimp only at hSw
            go_simp
            try with_reducible rfl
          try simp only [Act.put, List.setIfInBounds_toArray, List.set_cons_zero, List.set_cons_succ]
          refine wpAnyH_take (i := 1) (oi := { dst := some 24, op := Op.move (Operand.tmp 0), type := 22, pos := _, after := #[], guard := none }) (v := ?_) rfl (by kernel_rfl) (by kernel_rfl) (by kernel_rfl) (fun _ _ _ h => h) (Or.inl ⟨by rfl, ?_⟩) (by assumption) ?_
          rotate_left
          · intro w hSw
            try dsimp only at hSw
            go_simp
            try with_reducible rfl
          try simp only [Act.put, List.setIfInBounds_toArray, List.set_cons_zero, List.set_cons_succ]
          refine wpAnyH_take (i := 2) (oi := { dst := some 25, op := Op.move (Operand.tmp 6), type := 3, pos := _, after := #[], guard := none }) (v := ?_) rfl (by kernel_rfl) (by kernel_rfl) (by kernel_rfl) (fun _ _ _ h => h) (Or.inl ⟨by rfl, ?_⟩) (by assumption) ?_
          rotate_left
          · intro w hSw
            try dsimp only at hSw
            go_simp
            try with_reducible rfl
          try simp only [Act.put, List.setIfInBounds_toArray, List.set_cons_zero, List.set_cons_succ]
          refine wpAnyH_take (i := 3) (oi := { dst := some 26, op := Op.indexAddr 22 (Operand.tmp 24) (Operand.tmp 25), type := 0, pos := _, after := #[{ on := 1, ground := Ground.data }, { on := 2, ground := Ground.data }], guard := none }) (v := ?_) rfl (by kernel_rfl) (by kernel_rfl) (by kernel_rfl) (fun _ _ _ h => h) (Or.inl ⟨by rfl, ?_⟩) (by assumption) ?_
          rotate_left
          · intro w hSw
            try dsimp only at hSw
            go_simp
            try with_reducible rfl
          try simp only [Act.put, List.setIfInBounds_toArray, List.set_cons_zero, List.set_cons_succ]
          refine wpAnyH_take (i := 4) (oi := { dst := some 27, op := Op.load 5 (Operand.tmp 26), type := 5, pos := _, after := #[{ on := 3, ground := Ground.data }], guard := none }) (v := ?_) rfl (by kernel_rfl) (by kernel_rfl) (by kernel_rfl) (fun _ _ _ h => h) (Or.inl ⟨by rfl, ?_⟩) (by assumption) ?_
          rotate_left
          · intro w hSw
            try dsimp only at hSw
            go_simp
            try with_reducible rfl
          try simp only [Act.put, List.setIfInBounds_toArray, List.set_cons_zero, List.set_cons_succ]
          refine wpAnyH_take (i := 5) (oi := { dst := some 28, op := Op.move (Operand.tmp 1), type := 22, pos := _, after := #[], guard := none }) (v := ?_) rfl (by kernel_rfl) (by kernel_rfl) (by kernel_rfl) (fun _ _ _ h => h) (Or.inl ⟨by rfl, ?_⟩) (by assumption) ?_
          rotate_left
          · intro w hSw
            try dsimp only at hSw
            go_simp
            try with_reducible rfl
          try simp only [Act.put, List.setIfInBounds_toArray, List.set_cons_zero, List.set_cons_succ]
          refine wpAnyH_take (i := 6) (oi := { dst := some 29, op := Op.move (Operand.tmp 8), type := 3, pos := _, after := #[], guard := none }) (v := ?_) rfl (by kernel_rfl) (by kernel_rfl) (by kernel_rfl) (fun _ _ _ h => h) (Or.inl ⟨by rfl, ?_⟩) (by assumption) ?_
          rotate_left
          · intro w hSw
            try dsimp only at hSw
            go_simp
            try with_reducible rfl
          try simp only [Act.put, List.setIfInBounds_toArray, List.set_cons_zero, List.set_cons_succ]
          refine wpAnyH_take (i := 7) (oi := { dst := some 30, op := Op.indexAddr 22 (Operand.tmp 28) (Operand.tmp 29), type := 0, pos := _, after := #[{ on := 5, ground := Ground.data }, { on := 6, ground := Ground.data }], guard := none }) (v := ?_) rfl (by kernel_rfl) (by kernel_rfl) (by kernel_rfl) (fun _ _ _ h => h) (Or.inl ⟨by rfl, ?_⟩) (by assumption) ?_
          rotate_left
          · intro w hSw
            try dsimp only at hSw
            go_simp
            try with_reducible rfl
          try simp only [Act.put, List.setIfInBounds_toArray, List.set_cons_zero, List.set_cons_succ]
          refine wpAnyH_take (i := 8) (oi := { dst := some 31, op := Op.load 5 (Operand.tmp 30), type := 5, pos := _, after := #[{ on := 7, ground := Ground.data }], guard := none }) (v := ?_) rfl (by kernel_rfl) (by kernel_rfl) (by kernel_rfl) (fun _ _ _ h => h) (Or.inl ⟨by rfl, ?_⟩) (by assumption) ?_
          rotate_left
          · intro w hSw
            try dsimp only at hSw
            go_simp
            try with_reducible rfl
          try simp only [Act.put, List.setIfInBounds_toArray, List.set_cons_zero, List.set_cons_succ]
          refine wpAnyH_ready (rs := [9]) (by kernel_rfl) (by simp) ?_
          refine AllReadyH.cons (o := { dst := some 32, op := Op.call { callee := Callee.value (Operand.func 38), args := #[Operand.tmp 27, Operand.tmp 31], argTypes := #[5, 5] }, type := 5, pos := _, after := #[{ on := 4, ground := Ground.data }, { on := 8, ground := Ground.data }], guard := none }) rfl (fun K hK => ?_) AllReadyH.nil
          go_simp
          refine (refMul_any _ _ x y rfl rfl _).mono ?_
          rintro e w2 ⟨rfl, rfl⟩
          try dsimp only
          refine hK.out _ _ ?_ (fun hHeld => ?_)
          · try dsimp only
            exact hHeld
          clear hK K
          try simp only [Act.put, List.setIfInBounds_toArray, List.set_cons_zero, List.set_cons_succ]
          refine wpAnyH_ready (rs := [10]) (by kernel_rfl) (by simp) ?_
          refine AllReadyH.cons (o := { dst := some 33, op := Op.buildSlice 22 1 #[(0, Operand.tmp 32)], type := 22, pos := _, after := #[{ on := 9, ground := Ground.data }], guard := none }) rfl (fun K hK => ?_) AllReadyH.nil
          have hbs := build1 wr.drew ((mul x y).toNat : Int)
          go_simp
          try dsimp only
          refine hK.out _ _ ?_ (fun hHeld => ?_)
          · try dsimp only
            exact ⟨((nextA (Mem.start wr.drew) _).cell (alive hHeld.1)).trans hHeld.1, ((nextA (Mem.start wr.drew) _).cell (alive hHeld.2)).trans hHeld.2⟩
          clear hK K
          try simp only [Act.put, List.setIfInBounds_toArray, List.set_cons_zero, List.set_cons_succ]
          refine wpAnyH_ready (rs := [11]) (by kernel_rfl) (by simp) ?_
          refine AllReadyH.cons (o := { dst := some 34, op := Op.call { callee := Callee.builtin Builtin.append, args := #[Operand.tmp 23, Operand.tmp 33], argTypes := #[22, 22] }, type := 22, pos := _, after := #[{ on := 0, ground := Ground.data }, { on := 10, ground := Ground.data }, { on := 9, ground := Ground.chain }], guard := none }) rfl (fun K hK => ?_) AllReadyH.nil
          refine step_app _ rfl _ _ _ rfl wo.heap.size 5 i0 _ 1 Try.underlying22 hi0 hz0 hz1 hz2 rfl R cr (j + k) _ rfl (by rw [List.length_map]; exact HSL.out.symm) ((HI.out.1.drewN 1).alloc _) (wr.heap.size + 1) (some ⟨wr.heap.size, 0, none⟩) 1 1 [.int .u8 ((mul x y).toNat : Int)] rfl rfl (cells_one wr.drew _ _ _ (by show wr.heap.size < _; omega)) (fun u hu => by simp at hu; subst hu; rfl) (by rw [List.length_map, HSL.out]; simp [maxLen]; omega) (by rw [List.length_map, HSL.out]; simp; omega) (by have := HI.out.2.size; simp; omega) (j + (k + 1)) (by omega) ?_
          intro A1 c1 w2 ho1 hb1 _ _
          have HO1 := Lib.hid (And.intro ho1 hb1)
          clear ho1 hb1
          try dsimp only
          refine hK.out _ _ ?_ (fun hHeld => ?_)
          · try dsimp only
            have hlt := HR.out.2.size
            exact ⟨(HO1.out.2.cell (p := ⟨g1, _, none⟩) (by show g1 < _; omega)).trans hHeld.1, (HO1.out.2.cell (p := ⟨g2, _, none⟩) (by show g2 < _; omega)).trans hHeld.2⟩
          clear hK K
          try simp only [Act.put, List.setIfInBounds_toArray, List.set_cons_zero, List.set_cons_succ]
          refine wpAnyH_take (i := 12) (oi := { dst := some 7, op := Op.assign (Operand.tmp 34), type := 22, pos := _, after := #[{ on := 11, ground := Ground.data }, { on := 11, ground := Ground.chain }, { on := 0, ground := Ground.phase }, { on := 1, ground := Ground.phase }, { on := 2, ground := Ground.phase }, { on := 3, ground := Ground.phase }, { on := 4, ground := Ground.phase }, { on := 5, ground := Ground.phase }, { on := 6, ground := Ground.phase }, { on := 7, ground := Ground.phase }, { on := 8, ground := Ground.phase }, { on := 9, ground := Ground.phase }, { on := 10, ground := Ground.phase }, { on := 11, ground := Ground.phase }], guard := none }) (v := ?_) rfl (by kernel_rfl) (by kernel_rfl) (by kernel_rfl) (fun _ _ _ h => h) (Or.inl ⟨by rfl, ?_⟩) (by assumption) ?_
          rotate_left
          · intro w hSw
            try dsimp only at hSw
            go_simp
            try with_reducible rfl
          try simp only [Act.put, List.setIfInBounds_toArray, List.set_cons_zero, List.set_cons_succ]
          refine wpAnyH_done (by kernel_rfl) ?_ _
          refine NoPanic.normal ?_
          go_wp2_with fail
          go_roundw
          case rel =>
            refine ⟨k + 1, A1, c1, by simp, rfl, HKB.out, ?_, HI.out.2.trans (((nextN (Mem.start wr) 1).mono HI.out.2.size).trans (((nextA (Mem.start wr.drew) _).mono HI.out.2.size).trans HO1.out.2))⟩
            rw [HSS.out]
            have h := HO1.out.1
            rw [List.map_append, HXY.out.1, HXY.out.2]
            rw [HXY.out.1] at h
            exact h
          case measure => simp [intOf]; have := HKB.out; omega
          --END
        · obtain rfl : k = b.length := by omega
          have hnki : ¬ (b.length : Int) < (b.length : Int) := by omega
          have HT := Lib.hid (show sh j (sc (cf a j) (b.take b.length)) = sh j (sc (cf a j) b) from by rw [List.take_length])
          have HTL := Lib.hid (show (sh j (sc (cf a j) b)).length = j + b.length from by simp [sh, sc])
          clear hk hkb
          generalize cf a j = x at *
          go_wp2_with fail
          refine (rpAdd_any wr O (mulT a b j) _ co rfl R (sh j (sc x b)) (j + b.length) cr HTL.out.symm (by have := HML.out; omega) (by rw [HTL.out]; omega) ((HR.out.1.bytes.below HI.out.2).up HI.out.2.size) (by rw [HT.out] at HI; exact HI.out.1.bytes)).mono ?_
          rintro e w3 ⟨O3, c3, rfl, ho3, hb3⟩
          rw [HMS.out] at ho3 ⊢
          have H3 := Lib.hid (And.intro ho3 hb3)
          clear ho3 hb3
          go_wp2_with fail
          go_roundw
          case rel => exact ⟨j + 1, O3, c3, rfl, rfl, HJA.out, H3.out.1.down (Nat.le_trans HR.out.2.size HI.out.2.size), (HR.out.2.trans (HI.out.2.mono HR.out.2.size)).trans (H3.out.2.mono (Nat.le_trans HR.out.2.size HI.out.2.size))⟩
          case measure => simp [intOf]; have := HJA.out; omega
    · obtain rfl : j = a.length := by omega
      have HE := Lib.hid (mulT_all a b)
      generalize mulT a b a.length = o1 at *
      go_wp2_with fail
      go_ret
      refine ⟨O, co, by rw [← HE.out]; rfl, ?_, HR.out.2⟩
      rw [← HE.out]; exact HR.out.1
end Go.Proofs.Ytciilojlfaihjaa.PlW
