/- The law ShareKnown, walked. -/
import Derived.Test.YtlmcmcafbepjmaaShKm
namespace Go.Proofs.Ytlmcmcafbepjmaa.ShW
open Go.RowKit Go.Shelf Mem Fds Bv Rng
set_option linter.unusedVariables false

set_option maxRecDepth 100000 in
set_option maxHeartbeats 16000000 in
theorem known_any (w : World) : Calls Try.prog 7 #[] w fun z w' => z = .returned (.bool true) ∧ Below w.heap.size w w' := by
  have hcv := fun (w : World) (C : Array Value) (n c : Nat) => Lib.run_convert_bytes_const (P := Try.prog) w 22 5 C n c Try.underlying22 Try.underlying5
  have k0 := kst0 w
  obtain ⟨w3, hw3⟩ : ∃ x : World, ((w.alloc (.cells #[.int .u8 97, .int .u8 114, .int .u8 109] 5 (3, 4))).alloc (.cells #[.int .u8 1, .int .u8 2, .int .u8 3, .int .u8 4, .int .u8 5] 5)).alloc (.cells (onec w.heap.size (w.heap.size + 1)) 24) = x := ⟨_, rfl⟩
  rw [hw3] at k0
  have hs3 : w3.heap.size = w.heap.size + 3 := by rw [← hw3]; simp
  have HW3 := Lib.hid hw3
  have H3 := Lib.hid (And.intro k0 hs3)
  clear hw3 hs3 k0
  go_enter Try.func7, Try.ntmps7
  go_wp2_with fail
  clear hcv
  rw [show ((w.alloc (.cells #[.int .u8 97, .int .u8 114, .int .u8 109] 5 (3, 4))).alloc (.cells #[.int .u8 1, .int .u8 2, .int .u8 3, .int .u8 4, .int .u8 5] 5)).alloc (.cells #[.slice (some ⟨w.heap.size, 0, none⟩) 3 3, .int .i64 1099511627783, .int .i64 9, .slice (some ⟨w.heap.size + 1, 0, none⟩) 5 5] 24) = w3 from HW3.out]
  refine (plain_any w3 _ _ _ _ _ _ _ _).mono ?_
  rintro z w4 ⟨rfl, hb⟩
  have H4 := Lib.hid (show Below w.heap.size w w4 ∧ Blk w4 (w.heap.size + 1 + 1) 24 (onec w.heap.size (w.heap.size + 1)) ∧ Bytes w4 w4.heap.size (some ⟨w.heap.size, 0, none⟩) [97, 114, 109] ∧ Bytes w4 w4.heap.size (some ⟨w.heap.size + 1, 0, none⟩) [1, 2, 3, 4, 5] from by
    have h := H3.out
    rw [← h.2] at h
    exact ⟨next h.1.1 hb, h.1.2.1.keep hb, (h.1.2.2.1.below hb).up hb.size, (h.1.2.2.2.below hb).up hb.size⟩)
  clear hb HW3 H3
  go_wp2_with fail
  refine (rput_any w4 s1 (by decide) (some ⟨w.heap.size, 0, none⟩) (some ⟨w.heap.size + 1, 0, none⟩) 3 3 5 5 rfl rfl H4.out.2.2.1 H4.out.2.2.2).mono ?_
  rintro z w5 ⟨h1, _, hb⟩
  obtain ⟨A, c, rfl, ho⟩ := h1 s1_may
  rw [s1_len]
  have hoc := ho.le
  rw [List.length_map, s1_len] at hoc
  have H5 := Lib.hid (show Kst w w5 w.heap.size (w.heap.size + 1) (w.heap.size + 1 + 1) A c from ⟨next H4.out.1 hb, H4.out.2.1.keep hb, (H4.out.2.2.1.below hb).up hb.size, (H4.out.2.2.2.below hb).up hb.size, ho.bytes, hoc, ho.max⟩)
  clear h1 hb ho hoc H4
  obtain ⟨gk, hgk⟩ : ∃ x, w.heap.size = x := ⟨_, rfl⟩
  rw [hgk] at H5 ⊢
  have HGK := Lib.hid hgk
  clear hgk
  go_wp2_with fail
  go_loopw [4] (fun x wr => ∃ i : Nat, x = .int .i64 (i : Int) ∧ i ≤ 26 ∧ Kst w wr gk (gk + 1) (gk + 1 + 1) A c) (fun x _ => 26 - (intOf x).toNat)
  case atStart => exact ⟨0, rfl, by omega, H5.out⟩
  case round =>
    obtain ⟨i, rfl, hi, h⟩ := hrel
    obtain ⟨w6, rfl⟩ : ∃ x : World, x = wr := ⟨_, rfl⟩
    have H6 := Lib.hid h
    clear h
    by_cases hi26 : i < 26
    · have hii : (i : Int) < 26 := by omega
      have hi0 : (0 : Int) ≤ (i : Int) := by omega
      have hbl := Bytes.new w6 bys 5 (0, 0) #[.int .u8 1, .int .u8 2, .int .u8 128, .int .u8 255] rfl (w6.heap.size + 1) (by omega)
      obtain ⟨w7, hw7⟩ : ∃ x : World, w6.alloc (.cells #[.int .u8 1, .int .u8 2, .int .u8 128, .int .u8 255] 5) = x := ⟨_, rfl⟩
      have h67 : Below w6.heap.size w6 w7 := by rw [← hw7]; exact nextA (Mem.start w6) _
      rw [hw7, show w6.heap.size + 1 = w7.heap.size from by rw [← hw7, World.size_alloc]] at hbl
      have H7 := Lib.hid (And.intro (H6.out.keep h67) hbl)
      have HW7 := Lib.hid hw7
      clear hbl h67 hw7
      go_wp2_with fail
      obtain ⟨gl, hgl⟩ : ∃ x, w6.heap.size = x := ⟨_, rfl⟩
      rw [hgl] at H7 ⊢
      have HGL := Lib.hid hgl
      clear hgl
      go_loopw [38] (fun x wr => ∃ j : Nat, x = .int .i64 (j : Int) ∧ j ≤ 4 ∧ Kst w wr gk (gk + 1) (gk + 1 + 1) A c ∧ Bytes wr wr.heap.size (some ⟨gl, 0, none⟩) bys) (fun x _ => 4 - (intOf x).toNat)
      case atStart => exact ⟨0, rfl, by omega, by rw [HW7.out]; exact H7.out.1, by rw [HW7.out]; exact H7.out.2⟩
      case round =>
        obtain ⟨j, rfl, hj, hk, hby⟩ := hrel
        obtain ⟨w8, rfl⟩ : ∃ x : World, x = wr := ⟨_, rfl⟩
        have H8 := Lib.hid (And.intro hk hby)
        by_cases hj4 : j < 4
        · have hjj : (j : Int) < 4 := by omega
          have hj0 : (0 : Int) ≤ (j : Int) := by omega
          have hcy := byte_at hby (j := j) (show j < 4 from hj4)
          rw [Nat.zero_add] at hcy
          obtain ⟨y, hy⟩ : ∃ y, bys.getD j 0 = y := ⟨_, rfl⟩
          rw [hy] at hcy
          have hk5 := convB hk.p 26 c s1_len.symm
          obtain ⟨xa, hxa⟩ : ∃ x, s1.put[i]'(by rw [s1_len]; exact hi26) = x := ⟨_, rfl⟩
          obtain ⟨xy, hxy⟩ : ∃ x, xa ^^^ y = x := ⟨_, rfl⟩
          have hxor := xor_u8 xa y
          rw [hxy] at hxor
          have HXA := Lib.hid hxa
          clear hk hby hy hxa hxy
          go_wp2_with ((with_reducible show wpList _ _ _ ((⟨some 44, _, _, _, _, _⟩ : Oper) :: _) _ _); refine wpList_bytesOfB _ (by rfl) 9 22 _ rfl 5 Try.underlying9 Try.underlying22 Try.underlying5 s1.put (by rw [s1_len]; decide) rfl ?_; intro ck w9 hck hr hbl hs; rw [s1_len]; (have HR := Lib.hid (And.intro hr (And.intro hbl hs))); (obtain ⟨q, e, _, _, hcc, hzz, hset⟩ := hr.row.at_ (k := i) (by rw [List.length_map, s1_len]; exact hi26)); (injection e with e); (injection e with e _); subst e; (have hcd : w9.cell? ⟨w8.heap.size, i, none⟩ = some (.int .u8 (xa.toNat : Int)) := by rw [hcc, List.getElem_map, HXA.out]; rfl); (have HSET := Lib.hid hset); clear hcc hset hr hbl hs hck hk5)
--REST
          obtain ⟨w10, hw10⟩ : ∃ x : World, w9.setCell ⟨w8.heap.size, i, none⟩ (.int .u8 (xy.toNat : Int)) = x := ⟨_, rfl⟩
          have hb10 : Below w8.heap.size w8 w10 := by rw [← hw10]; exact HR.out.2.1.setCell (p := ⟨w8.heap.size, i, none⟩) (Nat.le_refl _) _
          have hxb : Bytes w10 w10.heap.size (some ⟨w8.heap.size, 0, none⟩) (s1.put.set i xy) := by rw [← hw10]; have := (HSET.out (.int .u8 (xy.toNat : Int))).cells; unfold Bytes; rwa [List.map_set]
          have HX := Lib.hid hxb
          have HCK := Lib.hid (show 26 ≤ ck ∧ ck ≤ maxLen from by obtain ⟨cur, fz, _, _, h3, _, h5, h6⟩ := HR.out.1; rw [List.length_map, s1_len] at h5; exact ⟨h5, h6⟩)
          have HL := Lib.hid (show (s1.put.set i xy).length = 26 from by rw [List.length_set, s1_len])
          obtain ⟨xl, hxl⟩ : ∃ x, s1.put.set i xy = x := ⟨_, rfl⟩
          rw [hxl] at HX HL
          have H10 := Lib.hid (And.intro (H8.out.1.keep hb10) ((H8.out.2.below hb10).up hb10.size))
          obtain ⟨gx, hgx⟩ : ∃ x, w8.heap.size = x := ⟨_, rfl⟩
          rw [hw10]
          rw [hgx] at HX ⊢
          clear hw10 hb10 hxb hxl hgx HSET HR HXA hcd hzz hxor hcy
          refine (getLawC _ xl 26 ck HL.out HCK.out.1 HCK.out.2 HX.out).mono ?_
          rintro z w11 ⟨rfl, hb⟩
          have H11 := Lib.hid (And.intro (H10.out.1.keep hb) ((H10.out.2.below hb).up hb.size))
          have HX2 := Lib.hid ((HX.out.below hb).up hb.size)
          obtain ⟨c0, c1, c2, c3⟩ := cells4 H11.out.1.box
          clear hb
          go_wp2_with fail
          refine (backLawC H11.out.1.arg (i : Int) (by omega) y (i : Int) (by omega) _ xl 26 ck HL.out HCK.out.1 HCK.out.2 HX2.out).mono ?_
          rintro z w12 ⟨rfl, hb⟩
          have H12 := Lib.hid (And.intro (H11.out.1.keep hb) ((H11.out.2.below hb).up hb.size))
          clear hb c0 c1 c2 c3
          go_wp2_with fail
          go_roundw
          case rel => exact ⟨j + 1, by simp, by omega, H12.out.1, H12.out.2⟩
          case measure => simp [intOf]; omega
        · obtain rfl : j = 4 := by omega
          have hic : (i : Int) ≤ (c : Int) := by have := hk.cap; omega
          have HI := Lib.hid (show i ≤ c ∧ c ≤ maxLen from ⟨by omega, hk.cap.2⟩)
          clear hk hby
          go_wp2_with fail
          refine (getLawC A (s1.put.take i) i c (by rw [List.length_take, s1_len]; omega) HI.out.1 HI.out.2 (H8.out.1.p.take i)).mono ?_
          rintro z w12 ⟨rfl, hb⟩
          have H12 := Lib.hid (H8.out.1.keep hb)
          clear hb
          go_wp2_with fail
          go_roundw
          case rel => exact ⟨i + 1, by simp, by omega, H12.out⟩
          case measure => simp [intOf]; omega
    · obtain rfl : i = 26 := by omega
      rw [show ((26 : Nat) : Int) = 26 from rfl]
      have hcn := cells_nums w6
      obtain ⟨w7, hw7⟩ : ∃ x : World, w6.alloc (.cells (nums.map (Value.int .i64)).toArray 3) = x := ⟨_, rfl⟩
      have h67 : Below w6.heap.size w6 w7 := by rw [← hw7]; exact nextA (Mem.start w6) _
      rw [hw7] at hcn
      have H7 := Lib.hid (And.intro (H6.out.keep h67) hcn)
      have HW7 := Lib.hid (show w6.alloc (.cells #[.int .i64 (-4611686018427387904), .int .i64 (-1), .int .i64 0, .int .i64 1, .int .i64 63, .int .i64 64, .int .i64 65, .int .i64 254, .int .i64 255, .int .i64 256, .int .i64 4611686018427387904] 3) = w7 from hw7)
      clear hcn h67 hw7
      go_wp2_with fail
      obtain ⟨gn, hgn⟩ : ∃ x, w6.heap.size = x := ⟨_, rfl⟩
      rw [hgn] at H7 ⊢
      clear hgn
      rw [HW7.out]
      go_loopw [74] (fun x wr => ∃ j : Nat, x = .int .i64 (j : Int) ∧ j ≤ 11 ∧ Kst w wr gk (gk + 1) (gk + 1 + 1) A c ∧ Cells wr wr.heap.size (some ⟨gn, 0, none⟩) (nums.map (Value.int .i64))) (fun x _ => 11 - (intOf x).toNat)
      case atStart => exact ⟨0, rfl, by omega, H7.out.1, H7.out.2⟩
      case round =>
        obtain ⟨j, rfl, hj, hk, hn⟩ := hrel
        obtain ⟨w20, rfl⟩ : ∃ x : World, x = wr := ⟨_, rfl⟩
        have H20 := Lib.hid (And.intro hk hn)
        by_cases hj11 : j < 11
        · have hjj : (j : Int) < 11 := by omega
          have hj0 : (0 : Int) ≤ (j : Int) := by omega
          obtain ⟨n, hcn, hn1, hn2⟩ := num_at hn hj11
          obtain ⟨m7, hm7⟩ : ∃ x, n.tmod 7 = x := ⟨_, rfl⟩
          have hm71 : m7 < 7 := by rw [← hm7]; exact Int.tmod_lt_of_pos _ (by decide)
          have hm72 : -7 < m7 := by rw [← hm7]; exact Int.lt_tmod_of_pos n (show (0 : Int) < 7 by decide)
          have HQ := Lib.hid (show ∀ W, Below w20.heap.size w20 W → Blk W (gk + 1 + 1) 24 (onec gk (gk + 1)) from fun W hW => H20.out.1.box.keep hW)
          clear hk hn
          go_wp2_with fail
          refine wp_region_noPanic ?_
          refine wp_heldG (fun w' => Below w20.heap.size w20 w') [] (by kernel_rfl) ?hs0 ?rg0
          case hs0 => exact nextN (Mem.start w20) 1
          case rg0 =>
          intro hHeld
          refine wpAnyG_take (i := 0) (oi := { dst := some 78, op := Op.load 24 (Operand.tmp 1), type := 24, pos := _, after := #[], guard := none }) (v := ?_) rfl (by kernel_rfl) (by kernel_rfl) (by kernel_rfl) (by kernel_rfl) (fun _ _ _ h => h) (Or.inl ⟨by rfl, ?_⟩) (by assumption) ?_
          rotate_left
          · intro w hSw
            refine exec_load 24 (.tmp 1) ?_ _ ?_ (.agg (onec gk (gk + 1))) (load_sh (HQ.out _ hSw))
            · rfl
            · rfl
          try simp only [Act.put, List.setIfInBounds_toArray, List.set_cons_zero, List.set_cons_succ]
          refine wpAnyG_take (i := 1) (oi := { dst := some 79, op := Op.load 24 (Operand.tmp 1), type := 24, pos := _, after := #[{ on := 6, ground := Ground.gcOnly Departure.lateStores }], guard := none }) (v := ?_) rfl (by kernel_rfl) (by kernel_rfl) (by kernel_rfl) (by kernel_rfl) (fun _ _ _ h => h) (Or.inl ⟨by rfl, ?_⟩) (by assumption) ?_
          rotate_left
          · intro w hSw
            refine exec_load 24 (.tmp 1) ?_ _ ?_ (.agg (onec gk (gk + 1))) (load_sh (HQ.out _ hSw))
            · rfl
            · rfl
          try simp only [Act.put, List.setIfInBounds_toArray, List.set_cons_zero, List.set_cons_succ]
          refine wpAnyG_take (i := 2) (oi := { dst := some 80, op := Op.load 24 (Operand.tmp 1), type := 24, pos := _, after := #[{ on := 7, ground := Ground.gcOnly Departure.lateStores }], guard := none }) (v := ?_) rfl (by kernel_rfl) (by kernel_rfl) (by kernel_rfl) (by kernel_rfl) (fun _ _ _ h => h) (Or.inl ⟨by rfl, ?_⟩) (by assumption) ?_
          rotate_left
          · intro w hSw
            refine exec_load 24 (.tmp 1) ?_ _ ?_ (.agg (onec gk (gk + 1))) (load_sh (HQ.out _ hSw))
            · rfl
            · rfl
          try simp only [Act.put, List.setIfInBounds_toArray, List.set_cons_zero, List.set_cons_succ]
          refine wpAnyG_new3 (i := 3) (j := 4) (k := 5) (d := 10) (e := 11) (f := 12) (o := { dst := some 10, op := Op.alloc 24, type := 0, pos := _, after := #[], guard := none }) (u := { dst := some 11, op := Op.alloc 24, type := 0, pos := _, after := #[], guard := none }) (v := { dst := some 12, op := Op.alloc 24, type := 0, pos := _, after := #[], guard := none }) shnew rfl rfl rfl ⟨rfl, rfl, rfl⟩ ⟨rfl, rfl, rfl⟩ ⟨rfl, rfl, rfl⟩ (by decide) (by decide) (by decide) (by decide) (by decide) (by decide) (fun w2 hb => next hHeld hb) (by kernel_rfl) (by kernel_rfl) (by kernel_rfl) (by kernel_rfl) (by kernel_rfl) (by kernel_rfl) (by kernel_rfl) ?_
          intro gs gt gu w22n hle_gs hle_gt hle_gu hne_gs_gt hne_gs_gu hne_gt_gu B_gs B_gt B_gu hb
          have KB := Lib.hid (next hHeld hb)
          try simp only [Act.put, List.setIfInBounds_toArray, List.set_cons_zero, List.set_cons_succ]
          have LE_gs := Lib.hid (Nat.le_trans hHeld.size hle_gs)
          have HB_gs := Lib.hid B_gs
          have LE_gt := Lib.hid (Nat.le_trans hHeld.size hle_gt)
          have HB_gt := Lib.hid B_gt
          have LE_gu := Lib.hid (Nat.le_trans hHeld.size hle_gu)
          have HB_gu := Lib.hid B_gu
          have HN_gs_gt := Lib.hid hne_gs_gt
          have HN_gs_gu := Lib.hid hne_gs_gu
          have HN_gt_gu := Lib.hid hne_gt_gu
          clear hHeld hb hle_gs hle_gt hle_gu hne_gs_gt hne_gs_gu hne_gt_gu B_gs B_gt B_gu
          refine wpAnyG_one (i := 6) (o := { dst := none, op := Op.store 24 (Operand.tmp 10) (Operand.tmp 78), type := 0, pos := _, after := #[{ on := 3, ground := Ground.data }, { on := 0, ground := Ground.data }, { on := 0, ground := Ground.phase }, { on := 1, ground := Ground.textOnly Departure.lateStores }, { on := 2, ground := Ground.textOnly Departure.lateStores }, { on := 3, ground := Ground.phase }, { on := 4, ground := Ground.phase }, { on := 5, ground := Ground.phase }], guard := none }) (by kernel_rfl) rfl (fun K hK => ?_)
          refine step_store4 w22n rfl (.tmp 10) (.tmp 78) rfl gs _ _ _ _ _ _ _ _ rfl rfl HB_gs.out (sh_one _ _ _ _ _ _ _ _) ?_
          intro w22n0 hB hf
          replace KB := Lib.hid (KB.out.trans (hf.below (Nat.le_trans (Nat.le_of_lt (by have := HB_gs.out.lt; have := LE_gs.out; omega)) (Nat.le_refl _)) (fun k e => by rw [e]; exact LE_gs.out)))
          refine hK.out _ _ (fun _ => KB.out) (fun hHeld => ?_)
          clear hHeld
          clear hK K
          try simp only [Act.put, List.setIfInBounds_toArray, List.set_cons_zero, List.set_cons_succ]
          replace HB_gt := Lib.hid (HB_gt.out.fr hf (fun e => HN_gs_gt.out e.symm))
          replace HB_gu := Lib.hid (HB_gu.out.fr hf (fun e => HN_gs_gu.out e.symm))
          replace HB_gs := Lib.hid hB
          clear hB hf
          refine wpAnyG_one (i := 7) (o := { dst := none, op := Op.store 24 (Operand.tmp 11) (Operand.tmp 79), type := 0, pos := _, after := #[{ on := 4, ground := Ground.data }, { on := 1, ground := Ground.data }, { on := 6, ground := Ground.chain }, { on := 0, ground := Ground.phase }, { on := 1, ground := Ground.phase }, { on := 2, ground := Ground.textOnly Departure.lateStores }, { on := 3, ground := Ground.phase }, { on := 4, ground := Ground.phase }, { on := 5, ground := Ground.phase }, { on := 6, ground := Ground.phase }], guard := none }) (by kernel_rfl) rfl (fun K hK => ?_)
          refine step_store4 w22n0 rfl (.tmp 11) (.tmp 79) rfl gt _ _ _ _ _ _ _ _ rfl rfl HB_gt.out (sh_one _ _ _ _ _ _ _ _) ?_
          intro w22n01 hB hf
          replace KB := Lib.hid (KB.out.trans (hf.below (Nat.le_trans (Nat.le_of_lt (by have := HB_gt.out.lt; have := LE_gt.out; omega)) (Nat.le_refl _)) (fun k e => by rw [e]; exact LE_gt.out)))
          refine hK.out _ _ (fun _ => KB.out) (fun hHeld => ?_)
          clear hHeld
          clear hK K
          try simp only [Act.put, List.setIfInBounds_toArray, List.set_cons_zero, List.set_cons_succ]
          replace HB_gs := Lib.hid (HB_gs.out.fr hf (fun e => HN_gs_gt.out e))
          replace HB_gu := Lib.hid (HB_gu.out.fr hf (fun e => HN_gt_gu.out e.symm))
          replace HB_gt := Lib.hid hB
          clear hB hf
          refine wpAnyG_one (i := 8) (o := { dst := none, op := Op.store 24 (Operand.tmp 12) (Operand.tmp 80), type := 0, pos := _, after := #[{ on := 5, ground := Ground.data }, { on := 2, ground := Ground.data }, { on := 7, ground := Ground.chain }, { on := 0, ground := Ground.phase }, { on := 1, ground := Ground.phase }, { on := 2, ground := Ground.phase }, { on := 3, ground := Ground.phase }, { on := 4, ground := Ground.phase }, { on := 5, ground := Ground.phase }, { on := 6, ground := Ground.phase }, { on := 7, ground := Ground.phase }], guard := none }) (by kernel_rfl) rfl (fun K hK => ?_)
          refine step_store4 w22n01 rfl (.tmp 12) (.tmp 80) rfl gu _ _ _ _ _ _ _ _ rfl rfl HB_gu.out (sh_one _ _ _ _ _ _ _ _) ?_
          intro w22n012 hB hf
          replace KB := Lib.hid (KB.out.trans (hf.below (Nat.le_trans (Nat.le_of_lt (by have := HB_gu.out.lt; have := LE_gu.out; omega)) (Nat.le_refl _)) (fun k e => by rw [e]; exact LE_gu.out)))
          refine hK.out _ _ (fun _ => KB.out) (fun hHeld => ?_)
          clear hHeld
          clear hK K
          try simp only [Act.put, List.setIfInBounds_toArray, List.set_cons_zero, List.set_cons_succ]
          replace HB_gs := Lib.hid (HB_gs.out.fr hf (fun e => HN_gs_gu.out e))
          replace HB_gt := Lib.hid (HB_gt.out.fr hf (fun e => HN_gt_gu.out e))
          replace HB_gu := Lib.hid hB
          clear hB hf
          refine wpAnyG_done (by kernel_rfl) ?_ _
          refine NoPanic.normal ?_
          obtain ⟨w22, hwx⟩ : ∃ x : World, w22n012 = x := ⟨_, rfl⟩
          rw [hwx] at KB HB_gs HB_gt HB_gu ⊢
          clear hwx
          have cgs0 := HB_gs.out.cell 0
          have cgs1 := HB_gs.out.cell 1
          have cgs2 := HB_gs.out.cell 2
          have cgs3 := HB_gs.out.cell 3
          have cgt0 := HB_gt.out.cell 0
          have cgt1 := HB_gt.out.cell 1
          have cgt2 := HB_gt.out.cell 2
          have cgt3 := HB_gt.out.cell 3
          have cgu0 := HB_gu.out.cell 0
          have cgu1 := HB_gu.out.cell 1
          have cgu2 := HB_gu.out.cell 2
          have cgu3 := HB_gu.out.cell 3
          simp only [List.getElem?_toArray, List.getElem?_cons_succ, List.getElem?_cons_zero] at cgs0 cgs1 cgs2 cgs3 cgt0 cgt1 cgt2 cgt3 cgu0 cgu1 cgu2 cgu3
          have fgs := HB_gs.out.frozen 1
          have fgt := HB_gt.out.frozen 2
          have fgu0 := HB_gu.out.frozen 0
          have fgu3 := HB_gu.out.frozen 3
          have n1 := HN_gs_gt.out
          have n2 := HN_gs_gu.out
          have n3 := HN_gt_gu.out
          have m1 := Ne.symm n1
          have m2 := Ne.symm n2
          have m3 := Ne.symm n3
          have hB1 := (HB_gs.out.set_ 1 (.int .i64 n)).far (p := ⟨gt, 2, none⟩) m1 (.int .i64 n)
          have hB2 := (HB_gt.out.far (p := ⟨gs, 1, none⟩) n1 (.int .i64 n)).set_ 2 (.int .i64 n)
          have hB3 := (HB_gu.out.far (p := ⟨gs, 1, none⟩) n2 (.int .i64 n)).far (p := ⟨gt, 2, none⟩) n3 (.int .i64 n)
          have hK := (KB.out.setCell (p := ⟨gs, 1, none⟩) LE_gs.out (.int .i64 n)).setCell (p := ⟨gt, 2, none⟩) LE_gt.out (.int .i64 n)
          have HB1 := Lib.hid (show Blk ((w22.setCell ⟨gs, 1, none⟩ (.int .i64 n)).setCell ⟨gt, 2, none⟩ (.int .i64 n)) gs 24 #[.slice (some ⟨gk, 0, none⟩) 3 3, .int .i64 n, .int .i64 9, .slice (some ⟨gk + 1, 0, none⟩) 5 5] from hB1)
          have HB2 := Lib.hid (show Blk ((w22.setCell ⟨gs, 1, none⟩ (.int .i64 n)).setCell ⟨gt, 2, none⟩ (.int .i64 n)) gt 24 #[.slice (some ⟨gk, 0, none⟩) 3 3, .int .i64 1099511627783, .int .i64 n, .slice (some ⟨gk + 1, 0, none⟩) 5 5] from hB2)
          have HB3 := Lib.hid (show Blk ((w22.setCell ⟨gs, 1, none⟩ (.int .i64 n)).setCell ⟨gt, 2, none⟩ (.int .i64 n)) gu 24 #[.slice (some ⟨gk, 0, none⟩) 3 3, .int .i64 1099511627783, .int .i64 9, .slice (some ⟨gk + 1, 0, none⟩) 5 5] from hB3)
          have HK := Lib.hid hK
          clear hB1 hB2 hB3 hK
          rcases Int.lt_or_le n 0 with hng | hng
          · have d1 : decide (0 ≤ n) = false := decide_eq_false (by omega)
            go_wp2_with fail
            clear cgs0 cgs1 cgs2 cgs3 cgt0 cgt1 cgt2 cgt3 cgu0 cgu1 cgu2 cgu3 fgs fgt fgu0 fgu3 n1 n2 n3 m1 m2 m3
            obtain ⟨wt0, hwt⟩ : ∃ x : World, (w22.setCell ⟨gs, 1, none⟩ (.int .i64 n)).setCell ⟨gt, 2, none⟩ (.int .i64 n) = x := ⟨_, rfl⟩
            rw [hwt] at HB1 HB2 HB3 HK ⊢
            clear hwt
            have HT0 := Lib.hid (show Tst w wt0 gk (gk + 1) (gk + 1 + 1) A c gs gt gu n gn s1 (some ⟨gk, 0, none⟩) 3 (some ⟨gk + 1, 0, none⟩) 5 from ⟨H20.out.1.keep HK.out, HB1.out, HB2.out, HB3.out, (H20.out.1.keep HK.out).arg, ⟨hn1, hn2⟩, (H20.out.2.below HK.out).up HK.out.size⟩)
            clear HB1 HB2 HB3 HK HB_gs HB_gt HB_gu KB H20 HQ
            refine (putLawC HT0.out.as).mono ?_
            rintro z wt1 ⟨rfl, hb⟩
            have HT1 := Lib.hid (HT0.out.keep hb)
            clear hb 
            obtain ⟨p0, p1, p2, p3⟩ := cells4 (HT1.out.bt)
            go_wp2_with fail
            refine (putLawC HT1.out.at_).mono ?_
            rintro z wt2 ⟨rfl, hb⟩
            have HT2 := Lib.hid (HT1.out.keep hb)
            clear hb p0 p1 p2 p3
            obtain ⟨p0, p1, p2, p3⟩ := cells4 (HT2.out.bu)
            go_wp2_with fail
            refine (putLawC HT2.out.au).mono ?_
            rintro z wt3 ⟨rfl, hb⟩
            have HT3 := Lib.hid (HT2.out.keep hb)
            clear hb p0 p1 p2 p3
            obtain ⟨p0, p1, p2, p3⟩ := cells4 (HT3.out.bs)
            obtain ⟨q0, q1, q2, q3⟩ := cells4 (HT3.out.bt)
            obtain ⟨r0, r1, r2, r3⟩ := cells4 (HT3.out.bu)
            go_wp2_with fail
            refine (orderLawC HT3.out.as HT3.out.at_ HT3.out.au).mono ?_
            rintro z wt4 ⟨rfl, hb⟩
            have HT4 := Lib.hid (HT3.out.keep hb)
            clear hb p0 p1 p2 p3 q0 q1 q2 q3 r0 r1 r2 r3
            obtain ⟨p0, p1, p2, p3⟩ := cells4 (HT4.out.bu)
            obtain ⟨q0, q1, q2, q3⟩ := cells4 (HT4.out.k.box)
            obtain ⟨r0, r1, r2, r3⟩ := cells4 (HT4.out.bs)
            go_wp2_with fail
            refine (orderLawC HT4.out.au HT4.out.k.arg HT4.out.as).mono ?_
            rintro z wt5 ⟨rfl, hb⟩
            have HT5 := Lib.hid (HT4.out.keep hb)
            clear hb p0 p1 p2 p3 q0 q1 q2 q3 r0 r1 r2 r3
            obtain ⟨p0, p1, p2, p3⟩ := cells4 (HT5.out.bu)
            go_wp2_with fail
            refine (backLawC HT5.out.au m7 (by omega) 1 3 (by omega) none [] 0 0 rfl (Nat.le_refl _) (Nat.zero_le _) Bytes.nil).mono ?_
            rintro z wt6 ⟨rfl, hb⟩
            have HT6 := Lib.hid (HT5.out.keep hb)
            clear hb p0 p1 p2 p3
            go_wp2_with fail
            go_roundw
            case rel => exact ⟨j + 1, by simp, by omega, HT6.out.k, HT6.out.nums⟩
            case measure => simp [intOf]; omega
          · rcases Int.lt_or_le n 300 with hn3 | hn3
            · obtain ⟨kn, rfl⟩ : ∃ kn : Nat, n = (kn : Int) := ⟨n.toNat, by omega⟩
              obtain ⟨i0, hi0, hz0, hz1, hz2⟩ := info_parts u8inf2
              have hmin := fun W => run_min90 kn W
              obtain ⟨km, hkm⟩ : ∃ x, Nat.min kn 90 = x := ⟨_, rfl⟩
              simp only [hkm] at hmin
              have hkm9 : km ≤ 90 := by rw [← hkm]; exact Nat.min_le_right _ _
              have hkn3 : kn < 300 := by omega
              clear hkm
              have HKM := Lib.hid (And.intro hkm9 hkn3)
              obtain ⟨wq, hwq⟩ : ∃ x : World, (w22.setCell ⟨gs, 1, none⟩ (.int .i64 (kn : Int))).setCell ⟨gt, 2, none⟩ (.int .i64 (kn : Int)) = x := ⟨_, rfl⟩
              have HWQ := Lib.hid hwq
              rw [hwq] at HB1 HB2 HB3 HK
              have bz := zero_row wq km
              have HZ1 := Lib.hid bz
              clear hwq bz
              obtain ⟨ga, hga⟩ : ∃ x, wq.heap.size = x := ⟨_, rfl⟩
              have HGA := Lib.hid hga
              clear hga
              have hgl := And.intro HB1.out.lt (And.intro HB2.out.lt HB3.out.lt)
              rw [HGA.out] at hgl
              have HGL := Lib.hid hgl
              clear hgl
              go_wp2_with first
                | ((with_reducible show wpList _ _ _ ((⟨some 93, _, _, _, _, _⟩ : Oper) :: _) _ _); refine wpList_mk rfl _ _ _ rfl 5 i0 1 (.int .u8 0) Try.underlying22 hi0 hz0 hz1 hz2 rfl _ km rfl rfl rfl (by omega) (by unfold maxLen; omega) km rfl ?_; rw [HWQ.out]; (obtain ⟨wa, hwa⟩ : ∃ x : World, wq.alloc (.cells (Array.replicate km (.int .u8 0)) 5) = x := ⟨_, rfl⟩); rw [hwa, HGA.out]; (have hba : Below wq.heap.size wq wa := by rw [← hwa]; exact nextA (Mem.start wq) _); (have HBA := Lib.hid hba); (have hz := HZ1.out); rw [hwa, HGA.out] at hz; (have HZA := Lib.hid (show Bytes wa (ga + 1) (some ⟨ga, 0, none⟩) (List.replicate km 0) ∧ wa.heap.size = ga + 1 from ⟨hz, by rw [← hwa, World.size_alloc, HGA.out]⟩)); clear cgs0 cgs1 cgs2 cgs3 cgt0 cgt1 cgt2 cgt3 cgu0 cgu1 cgu2 cgu3 fgs fgt fgu0 fgu3 hz; (obtain ⟨u0, u1, u2, u3⟩ := cells4 (HB3.out.keep hba)); (have z0 := (HB3.out.keep hba).frozen 0); clear hba hwa)
                | ((with_reducible show wpList _ _ _ ((⟨some 96, _, _, _, _, _⟩ : Oper) :: _) _ _); refine wpList_mk rfl _ _ _ rfl 5 i0 1 (.int .u8 0) Try.underlying22 hi0 hz0 hz1 hz2 rfl _ kn rfl rfl rfl (by omega) (by unfold maxLen; omega) kn rfl ?_; (have HY := Lib.hid (second_row HBA.out HZA.out.1 HZA.out.2 HGA.out HB1.out HB2.out HB3.out n2 n3 HGL.out.1 HGL.out.2.1 HGL.out.2.2 km kn)); (obtain ⟨wb, hwb⟩ : ∃ x : World, (wa.setCell ⟨gu, 0, none⟩ (.slice (some ⟨ga, 0, none⟩) km km)).alloc (.cells (Array.replicate kn (.int .u8 0)) 5) = x := ⟨_, rfl⟩); (have hsz : (wa.setCell ⟨gu, 0, none⟩ (.slice (some ⟨ga, 0, none⟩) km km)).heap.size = ga + 1 := by simpa using HZA.out.2); rw [hsz, hwb]; rw [hwb] at HY; clear u0 u1 u2 u3 z0 hsz hwb; (obtain ⟨u0, u1, u2, u3⟩ := cells4 (show Blk wb gu 24 #[.slice (some ⟨ga, 0, none⟩) km km, .int .i64 1099511627783, .int .i64 9, .slice (some ⟨gk + 1, 0, none⟩) 5 5] from HY.out.bu)); (have z0 := HY.out.bu.frozen 3); (obtain ⟨s0, sv1, s2, s3⟩ := cells4 HY.out.bs))
              have hT0 := HY.out.bu.set_ 3 (.slice (some ⟨ga + 1, 0, none⟩) kn kn)
              have hF : Fr (fun k => k = gu) wb (wb.setCell ⟨gu, 3, none⟩ (.slice (some ⟨ga + 1, 0, none⟩) kn kn)) := Fr.setCell (p := ⟨gu, 3, none⟩) (Fr.refl (fun k => k = gu) wb) (fun _ => rfl) _
              obtain ⟨wt0, hwt⟩ : ∃ x : World, wb.setCell ⟨gu, 3, none⟩ (.slice (some ⟨ga + 1, 0, none⟩) kn kn) = x := ⟨_, rfl⟩
              rw [hwt] at hT0 hF ⊢
              have hbT : Below w20.heap.size w20 wt0 := (HK.out.trans (HY.out.fr.below HK.out.size (fun q e => by rw [e]; exact LE_gu.out))).trans (hF.below (Nat.le_trans HK.out.size HY.out.fr.size) (fun q e => by rw [e]; exact LE_gu.out))
              have HT0 := Lib.hid (show Tst w wt0 gk (gk + 1) (gk + 1 + 1) A c gs gt gu (kn : Int) gn ⟨List.replicate km 0, 1099511627783, 9, List.replicate kn 0⟩ (some ⟨ga, 0, none⟩) km (some ⟨ga + 1, 0, none⟩) kn from ⟨H20.out.1.keep hbT, HY.out.bs.fr hF n2, HY.out.bt.fr hF n3, hT0, ⟨⟨by simp, by simp, rfl, rfl, Bytes.up (bytes_blk HY.out.z1 hF (fun e => by have := HGL.out; omega) (Nat.le_refl _)) hF.size, Bytes.up (bytes_blk HY.out.z2 hF (fun e => by have := HGL.out; omega) (Nat.le_refl _)) hF.size⟩, by unfold maxLen; have := HKM.out; omega, by omega, by omega⟩, ⟨hn1, hn2⟩, (H20.out.2.below hbT).up hbT.size⟩)
              clear u0 u1 u2 u3 z0 s0 sv1 s2 s3 hT0 hF hwt hbT n1 n2 n3 m1 m2 m3 HY
              clear HB1 HB2 HB3 HK HB_gs HB_gt HB_gu KB H20 HQ
              refine (putLawC HT0.out.as).mono ?_
              rintro z wt1 ⟨rfl, hb⟩
              have HT1 := Lib.hid (HT0.out.keep hb)
              clear hb 
              obtain ⟨p0, p1, p2, p3⟩ := cells4 (HT1.out.bt)
              go_wp2_with fail
              refine (putLawC HT1.out.at_).mono ?_
              rintro z wt2 ⟨rfl, hb⟩
              have HT2 := Lib.hid (HT1.out.keep hb)
              clear hb p0 p1 p2 p3
              obtain ⟨p0, p1, p2, p3⟩ := cells4 (HT2.out.bu)
              go_wp2_with fail
              refine (putLawC HT2.out.au).mono ?_
              rintro z wt3 ⟨rfl, hb⟩
              have HT3 := Lib.hid (HT2.out.keep hb)
              clear hb p0 p1 p2 p3
              obtain ⟨p0, p1, p2, p3⟩ := cells4 (HT3.out.bs)
              obtain ⟨q0, q1, q2, q3⟩ := cells4 (HT3.out.bt)
              obtain ⟨r0, r1, r2, r3⟩ := cells4 (HT3.out.bu)
              go_wp2_with fail
              refine (orderLawC HT3.out.as HT3.out.at_ HT3.out.au).mono ?_
              rintro z wt4 ⟨rfl, hb⟩
              have HT4 := Lib.hid (HT3.out.keep hb)
              clear hb p0 p1 p2 p3 q0 q1 q2 q3 r0 r1 r2 r3
              obtain ⟨p0, p1, p2, p3⟩ := cells4 (HT4.out.bu)
              obtain ⟨q0, q1, q2, q3⟩ := cells4 (HT4.out.k.box)
              obtain ⟨r0, r1, r2, r3⟩ := cells4 (HT4.out.bs)
              go_wp2_with fail
              refine (orderLawC HT4.out.au HT4.out.k.arg HT4.out.as).mono ?_
              rintro z wt5 ⟨rfl, hb⟩
              have HT5 := Lib.hid (HT4.out.keep hb)
              clear hb p0 p1 p2 p3 q0 q1 q2 q3 r0 r1 r2 r3
              obtain ⟨p0, p1, p2, p3⟩ := cells4 (HT5.out.bu)
              go_wp2_with fail
              refine (backLawC HT5.out.au m7 (by omega) 1 3 (by omega) none [] 0 0 rfl (Nat.le_refl _) (Nat.zero_le _) Bytes.nil).mono ?_
              rintro z wt6 ⟨rfl, hb⟩
              have HT6 := Lib.hid (HT5.out.keep hb)
              clear hb p0 p1 p2 p3
              go_wp2_with fail
              go_roundw
              case rel => exact ⟨j + 1, by simp, by omega, HT6.out.k, HT6.out.nums⟩
              case measure => simp [intOf]; omega
            · have d1 : decide (n < 300) = false := decide_eq_false (by omega)
              go_wp2_with fail
              clear cgs0 cgs1 cgs2 cgs3 cgt0 cgt1 cgt2 cgt3 cgu0 cgu1 cgu2 cgu3 fgs fgt fgu0 fgu3 n1 n2 n3 m1 m2 m3
              obtain ⟨wt0, hwt⟩ : ∃ x : World, (w22.setCell ⟨gs, 1, none⟩ (.int .i64 n)).setCell ⟨gt, 2, none⟩ (.int .i64 n) = x := ⟨_, rfl⟩
              rw [hwt] at HB1 HB2 HB3 HK ⊢
              clear hwt
              have HT0 := Lib.hid (show Tst w wt0 gk (gk + 1) (gk + 1 + 1) A c gs gt gu n gn s1 (some ⟨gk, 0, none⟩) 3 (some ⟨gk + 1, 0, none⟩) 5 from ⟨H20.out.1.keep HK.out, HB1.out, HB2.out, HB3.out, (H20.out.1.keep HK.out).arg, ⟨hn1, hn2⟩, (H20.out.2.below HK.out).up HK.out.size⟩)
              clear HB1 HB2 HB3 HK HB_gs HB_gt HB_gu KB H20 HQ
              refine (putLawC HT0.out.as).mono ?_
              rintro z wt1 ⟨rfl, hb⟩
              have HT1 := Lib.hid (HT0.out.keep hb)
              clear hb 
              obtain ⟨p0, p1, p2, p3⟩ := cells4 (HT1.out.bt)
              go_wp2_with fail
              refine (putLawC HT1.out.at_).mono ?_
              rintro z wt2 ⟨rfl, hb⟩
              have HT2 := Lib.hid (HT1.out.keep hb)
              clear hb p0 p1 p2 p3
              obtain ⟨p0, p1, p2, p3⟩ := cells4 (HT2.out.bu)
              go_wp2_with fail
              refine (putLawC HT2.out.au).mono ?_
              rintro z wt3 ⟨rfl, hb⟩
              have HT3 := Lib.hid (HT2.out.keep hb)
              clear hb p0 p1 p2 p3
              obtain ⟨p0, p1, p2, p3⟩ := cells4 (HT3.out.bs)
              obtain ⟨q0, q1, q2, q3⟩ := cells4 (HT3.out.bt)
              obtain ⟨r0, r1, r2, r3⟩ := cells4 (HT3.out.bu)
              go_wp2_with fail
              refine (orderLawC HT3.out.as HT3.out.at_ HT3.out.au).mono ?_
              rintro z wt4 ⟨rfl, hb⟩
              have HT4 := Lib.hid (HT3.out.keep hb)
              clear hb p0 p1 p2 p3 q0 q1 q2 q3 r0 r1 r2 r3
              obtain ⟨p0, p1, p2, p3⟩ := cells4 (HT4.out.bu)
              obtain ⟨q0, q1, q2, q3⟩ := cells4 (HT4.out.k.box)
              obtain ⟨r0, r1, r2, r3⟩ := cells4 (HT4.out.bs)
              go_wp2_with fail
              refine (orderLawC HT4.out.au HT4.out.k.arg HT4.out.as).mono ?_
              rintro z wt5 ⟨rfl, hb⟩
              have HT5 := Lib.hid (HT4.out.keep hb)
              clear hb p0 p1 p2 p3 q0 q1 q2 q3 r0 r1 r2 r3
              obtain ⟨p0, p1, p2, p3⟩ := cells4 (HT5.out.bu)
              go_wp2_with fail
              refine (backLawC HT5.out.au m7 (by omega) 1 3 (by omega) none [] 0 0 rfl (Nat.le_refl _) (Nat.zero_le _) Bytes.nil).mono ?_
              rintro z wt6 ⟨rfl, hb⟩
              have HT6 := Lib.hid (HT5.out.keep hb)
              clear hb p0 p1 p2 p3
              go_wp2_with fail
              go_roundw
              case rel => exact ⟨j + 1, by simp, by omega, HT6.out.k, HT6.out.nums⟩
              case measure => simp [intOf]; omega
        · obtain rfl : j = 11 := by omega
          rw [show ((11 : Nat) : Int) = 11 from rfl]
          obtain ⟨i0, hi0, hz0, hz1, hz2⟩ := info_parts u8inf2
          obtain ⟨c0, c1, c2, c3⟩ := cells4 H20.out.1.box
          obtain ⟨gb, hgb⟩ : ∃ x, w20.heap.size = x := ⟨_, rfl⟩
          obtain ⟨w21, hw21⟩ : ∃ x : World, w20.alloc (.cells (onec gk (gk + 1)) 24) = x := ⟨_, rfl⟩
          obtain ⟨gz, hgz⟩ : ∃ x, w21.heap.size = x := ⟨_, rfl⟩
          have HAP := Lib.hid (kst_apart H20.out.1 hgb (gz := gz) (by rw [← hgz, ← hw21, World.size_alloc, hgb]))
          have HBS := Lib.hid (big_start H20.out.1 hw21 hgb hgz)
          have HGB := Lib.hid hgb
          have HGZ := Lib.hid hgz
          have HW21 := Lib.hid (show w20.alloc (.cells #[.slice (some ⟨gk, 0, none⟩) 3 3, .int .i64 1099511627783, .int .i64 9, .slice (some ⟨gk + 1, 0, none⟩) 5 5] 24) = w21 from hw21)
          obtain ⟨w22, hw22⟩ : ∃ x : World, w21.alloc (.cells (Array.replicate 65537 (.int .u8 0)) 5) = x := ⟨_, rfl⟩
          have HW22 := Lib.hid hw22
          rw [hw22] at HBS
          clear hk hn hgb hgz hw21 hw22
          go_wp2_with ((with_reducible show wpList _ _ _ ((⟨some 134, _, _, _, _, _⟩ : Oper) :: _) _ _); refine wpList_mk rfl _ _ _ rfl 5 i0 1 (.int .u8 0) Try.underlying22 hi0 hz0 hz1 hz2 rfl 65537 65537 rfl rfl rfl (by decide) (by unfold maxLen; decide) 65537 rfl ?_; rw [HW21.out, HW22.out, HGZ.out, HGB.out]; clear c0 c1 c2 c3; (obtain ⟨c0, c1, c2, c3⟩ := cells4 (show Blk w22 gb 24 #[.slice (some ⟨gk, 0, none⟩) 3 3, .int .i64 1099511627783, .int .i64 9, .slice (some ⟨gk + 1, 0, none⟩) 5 5] from HBS.out.2.2.1)); (have z3 := HBS.out.2.2.1.frozen 3))
          obtain ⟨w23, hw23⟩ : ∃ x : World, w22.setCell ⟨gb, 3, none⟩ (.slice (some ⟨gz, 0, none⟩) 65537 65537) = x := ⟨_, rfl⟩
          have hbig := HBS.out.2.2.2
          rw [hw23] at hbig ⊢
          have H23 := Lib.hid hbig
          clear hbig hw23 c0 c1 c2 c3 z3 HBS HW22 HW21 H20 H7
          refine (putC (H23.out.ltr (Nat.le_refl _)) (by decide) 3 65537).mono ?_
          rintro z w24 ⟨_, h2, hb⟩
          obtain rfl := h2 (by rw [bg_may]; rfl)
          have H24 := Lib.hid (H23.out.keep hb)
          clear h2 hb
          obtain ⟨c0, c1, c2, c3⟩ := cells4 H24.out.b
          have z3 := H24.out.b.frozen 3
          go_wp2_with fail
          obtain ⟨w25, hw25⟩ : ∃ x : World, w24.setCell ⟨gb, 3, none⟩ (.slice (some ⟨gz, 0, none⟩) 65536 65537) = x := ⟨_, rfl⟩
          have hbig := big_cut H24.out HAP.out.1 HAP.out.2.1 HAP.out.2.2 65536
          rw [hw25] at hbig ⊢
          have H25 := Lib.hid hbig
          clear hbig hw25 c0 c1 c2 c3 z3
          refine (putC (H25.out.ltr (by decide)) (by decide) 3 65537).mono ?_
          rintro z w26 ⟨h1, _, hb⟩
          obtain ⟨A1, a1, rfl, ho⟩ := h1 (by rw [bg_may]; rfl)
          rw [bg_len]
          have hoc := ho.le
          rw [List.length_map, bg_len] at hoc
          have HLT := Lib.hid (H25.out.ltr (by decide))
          have H26 := Lib.hid (And.intro (H25.out.keep hb) (And.intro ho.bytes hoc))
          clear h1 hb ho hoc
          go_wp2_with fail
          refine (get_any w26 _ (bg 65536).put 65557 a1 (bg_len _) (by decide) H26.out.2.2 H26.out.2.1).mono ?_
          rintro z w27 hp
          obtain ⟨A2, a2, B2, b2, rfl, hk1, hk2, hbl⟩ := getS_at (.inl ⟨rfl, share_put (by rw [bg_may]; rfl) (by decide)⟩) hp
          rw [HLT.out.n, HLT.out.m, HLT.out.v, HLT.out.e]
          have H27 := Lib.hid (And.intro (H26.out.1.keep hbl) (And.intro hk1 hk2))
          clear hp hbl hk1 hk2
          obtain ⟨w28, hwx⟩ : ∃ x : World, w27.alloc (.cells #[.slice A2 3 a2, .int .i64 1099511627783, .int .i64 9, .slice B2 65536 b2] 24) = x := ⟨_, rfl⟩
          have hbl : Below w27.heap.size w27 w28 := by rw [← hwx]; exact nextA (Mem.start w27) _
          have HV := Lib.hid (show Blk w28 w27.heap.size 24 #[.slice A2 3 a2, .int .i64 1099511627783, .int .i64 9, .slice B2 65536 b2] from by rw [← hwx]; exact Blk.new w27 _ _)
          have H28 := Lib.hid (And.intro (H27.out.1.keep hbl) (And.intro (H27.out.2.1.keep hbl) (H27.out.2.2.keep hbl)))
          have HWX := Lib.hid hwx
          obtain ⟨x0, x1, x2, x3⟩ := cells4 H28.out.1.b
          obtain ⟨u0, u1, u2, u3⟩ := cells4 HV.out
          rw [← hwx] at x0 x1 x2 x3 u0 u1 u2 u3
          clear hbl hwx
          go_wp2_with fail
          rw [HWX.out]
          have HLU := Lib.hid (show Ltr w28 (bg 65536) A2 3 1099511627783 9 B2 65536 from ⟨HLT.out.n, HLT.out.m, HLT.out.v, HLT.out.e, H28.out.2.1.bytes, H28.out.2.2.bytes⟩)
          refine (sameC HLU.out (H28.out.1.ltr (by decide)) (by decide) (by decide) a2 b2 3 65537 true (same_self _)).mono ?_
          rintro z w29 ⟨rfl, hbl⟩
          have H29 := Lib.hid (H28.out.1.keep hbl)
          clear hbl x0 x1 x2 x3 u0 u1 u2 u3 HV HWX HLU
          go_wp2_with fail
          refine (works_any _).mono ?_
          rintro z w30 ⟨rfl, hbl⟩
          have H30 := Lib.hid (next H29.out.k.below hbl)
          clear hbl
          go_wp2_with fail
          go_ret
          exact ⟨rfl, H30.out⟩
end Go.Proofs.Ytlmcmcafbepjmaa.ShW
