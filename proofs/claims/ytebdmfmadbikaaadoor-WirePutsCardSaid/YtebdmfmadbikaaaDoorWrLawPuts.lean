/- The law WirePuts, walked. Printed by genwputs.py (raw numbers of the seat). -/
import Derived.Test.YtebdmfmadbikaaaDoorWrDoc5
import Derived.Test.YtebdmfmadbikaaaDoorWrBox
namespace Go.Proofs.YtebdmfmadbikaaaDoor.WiW
open Go.RowKit Go.Shelf Mem Fds FdW Wi Rng
set_option linter.unusedVariables false
set_option linter.unusedSimpArgs false

theorem putp_yes (w : World) (m : Msg) (s : Sl) (x : List UInt8) (hT : HasT w) (hI : MIn w w.heap.size m s) (hm : may m = true) (hx : Wi.bytes m = x) : Calls Tryd.prog 14 #[.agg (mv m s)] w fun e w' => ∃ A c, e = .returned (.tuple #[.slice A x.length c, .int .i64 0]) ∧ Mem.Own w' w.heap.size 5 A c (x.map u8v) ∧ Below w.heap.size w w' := by
  refine (Put_any w m s hT hI).mono fun e w' h => ?_
  unfold PutR at h
  rw [if_pos hm, hx] at h
  exact h
theorem putp_no (w : World) (m : Msg) (s : Sl) (hT : HasT w) (hI : MIn w w.heap.size m s) (hm : may m = false) : Calls Tryd.prog 14 #[.agg (mv m s)] w fun e w' => e = .returned (.tuple #[.slice none 0 0, .int .i64 2]) ∧ Below w.heap.size w w' := by
  refine (Put_any w m s hT hI).mono fun e w' h => ?_
  unfold PutR at h
  rw [if_neg (by rw [hm]; simp)] at h
  exact h
set_option maxRecDepth 100000 in
set_option maxHeartbeats 16000000 in
theorem puts_n (w : World) (hT : HasT w) (m : Msg) (s : Sl) (hm : MIn0 w w.heap.size m s) (hf : few m = true) (hmm : may m = false) :
    Calls Tryd.prog 3 #[.agg (mv m s)] w fun e w' => e = .returned (.bool true) ∧ Below w.heap.size w w' := by
  obtain ⟨bx, hbx⟩ : ∃ bx, w.heap.size = bx := ⟨_, rfl⟩
  obtain ⟨w1, hw1⟩ : ∃ x : World, w.alloc (.cells (mv m s) 27) = x := ⟨_, rfl⟩
  have H1 := Lib.hid (show Bx w bx m s w1 by
    rw [← hw1, ← hbx]
    exact ⟨Blk.new w _ _, nextA (Mem.start w) _⟩)
  have HI := Lib.hid (And.intro hT hm)
  have HF := Lib.hid hf
  have HM := Lib.hid (hm.small hf)
  have HMM := Lib.hid (And.intro hmm trivial)
  clear hmm
  have ca0 := H1.out.1.cell 0
  have ca1 := H1.out.1.cell 1
  have ca2 := H1.out.1.cell 2
  have ca3 := H1.out.1.cell 3
  have ca4 := H1.out.1.cell 4
  have ca5 := H1.out.1.cell 5
  have ca6 := H1.out.1.cell 6
  have ca7 := H1.out.1.cell 7
  have ca8 := H1.out.1.cell 8
  have ca9 := H1.out.1.cell 9
  have ca10 := H1.out.1.cell 10
  have ca11 := H1.out.1.cell 11
  have ca12 := H1.out.1.cell 12
  have ca13 := H1.out.1.cell 13
  simp [mv] at ca0 ca1 ca2 ca3 ca4 ca5 ca6 ca7 ca8 ca9 ca10 ca11 ca12 ca13
  clear hT hm hf
  go_enter Tryd.func3, Tryd.ntmps3
  go_wp2_with fail
  refine (few_any w1 m s (HI.out.2.keep H1.out.2)).mono ?_
  rintro e w2 ⟨rfl, hb⟩
  rw [HF.out]
  have H2 := Lib.hid (H1.out.keep hb)
  clear hb ca0 ca1 ca2 ca3 ca4 ca5 ca6 ca7 ca8 ca9 ca10 ca11 ca12 ca13 hw1 hbx
  have cb0 := H2.out.1.cell 0
  have cb1 := H2.out.1.cell 1
  have cb2 := H2.out.1.cell 2
  have cb3 := H2.out.1.cell 3
  have cb4 := H2.out.1.cell 4
  have cb5 := H2.out.1.cell 5
  have cb6 := H2.out.1.cell 6
  have cb7 := H2.out.1.cell 7
  have cb8 := H2.out.1.cell 8
  have cb9 := H2.out.1.cell 9
  have cb10 := H2.out.1.cell 10
  have cb11 := H2.out.1.cell 11
  have cb12 := H2.out.1.cell 12
  have cb13 := H2.out.1.cell 13
  simp [mv] at cb0 cb1 cb2 cb3 cb4 cb5 cb6 cb7 cb8 cb9 cb10 cb11 cb12 cb13
  go_wp2_with fail
  refine (plain_any w2 m s (HM.out.keep H2.out.2)).mono ?_
  rintro e w3 ⟨A3, c3, rfl, hp, hb⟩
  have H3 := Lib.hid (And.intro (H2.out.keep hb) hp)
  clear hb hp cb0 cb1 cb2 cb3 cb4 cb5 cb6 cb7 cb8 cb9 cb10 cb11 cb12 cb13
  go_wp2_with fail
  refine (rmay_any w3 m A3 c3 s.na s.nc H3.out.2).mono ?_
  rintro e w4 ⟨rfl, hb⟩
  rw [HMM.out.1]
  have H4 := Lib.hid (H3.out.1.keep hb)
  clear hb
  go_wp2_with fail
  go_loopw [5] (fun t wr => ∃ j : Nat, t = .int .i64 (j : Int) ∧ j ≤ 2 ∧ Bx w bx m s wr) (fun t _ => 2 - (intOf t).toNat)
  case atStart => exact ⟨0, rfl, by decide, H4.out⟩
  case round =>
    obtain ⟨j, rfl, hj, hB⟩ := hrel
    have HR := Lib.hid hB
    clear hB
    by_cases hj2 : j < 2
    · have h1 : (j : Int) < 2 := by omega
      have h0 : (0 : Int) ≤ (j : Int) := by omega
      have ce0 := HR.out.1.cell 0
      have ce1 := HR.out.1.cell 1
      have ce2 := HR.out.1.cell 2
      have ce3 := HR.out.1.cell 3
      have ce4 := HR.out.1.cell 4
      have ce5 := HR.out.1.cell 5
      have ce6 := HR.out.1.cell 6
      have ce7 := HR.out.1.cell 7
      have ce8 := HR.out.1.cell 8
      have ce9 := HR.out.1.cell 9
      have ce10 := HR.out.1.cell 10
      have ce11 := HR.out.1.cell 11
      have ce12 := HR.out.1.cell 12
      have ce13 := HR.out.1.cell 13
      simp [mv] at ce0 ce1 ce2 ce3 ce4 ce5 ce6 ce7 ce8 ce9 ce10 ce11 ce12 ce13
      go_wp2_with fail
      refine (putp_no wr m s (HI.out.1.keep HR.out.2) (HM.out.keep HR.out.2) HMM.out.1).mono ?_
      rintro e w5 ⟨rfl, hb⟩
      have H5 := Lib.hid (HR.out.keep hb)
      have es : (convert 25 9 (.slice none 0 0)).run Tryd.prog w5 = .ok (.string { data := #[] }) w5 := run_str (P := Tryd.prog) w5 25 5 Tryd.underlying25 Tryd.underlying5 (Bytes.nil (w := w5) (B := 0) (A := none)) 0 9 Tryd.underlying9
      clear hb ce0 ce1 ce2 ce3 ce4 ce5 ce6 ce7 ce8 ce9 ce10 ce11 ce12 ce13
      go_wp2_with fail
      go_loopw [8] (fun i wq => i = .int .i64 0 ∧ Bx w bx m s wq) (fun _ _ => 0)
      case atStart => exact ⟨rfl, H5.out⟩
      case round =>
        clear H5 es
        obtain ⟨rfl, hB⟩ := hrel
        have H6 := Lib.hid hB
        clear hB
        go_wp2_with fail
        go_roundw
        case rel => exact ⟨j + 1, by go_num, by omega, H6.out⟩
        case measure => simp [intOf]; omega
    · obtain rfl : j = 2 := by omega
      go_wp2_with fail
      refine (works_any wr (HI.out.1.keep HR.out.2)).mono ?_
      rintro e w8 ⟨rfl, hb⟩
      have H8 := Lib.hid (next HR.out.2 hb)
      clear hb
      go_wp2_with fail
      go_ret
      exact ⟨rfl, H8.out⟩
set_option maxRecDepth 100000 in
set_option maxHeartbeats 16000000 in
theorem puts_y (w : World) (hT : HasT w) (m : Msg) (s : Sl) (hm : MIn0 w w.heap.size m s) (hf : few m = true) (x : List UInt8) (hmm : may m = true) (hx : Wi.bytes m = x) :
    Calls Tryd.prog 3 #[.agg (mv m s)] w fun e w' => e = .returned (.bool true) ∧ Below w.heap.size w w' := by
  obtain ⟨bx, hbx⟩ : ∃ bx, w.heap.size = bx := ⟨_, rfl⟩
  obtain ⟨w1, hw1⟩ : ∃ x : World, w.alloc (.cells (mv m s) 27) = x := ⟨_, rfl⟩
  have H1 := Lib.hid (show Bx w bx m s w1 by
    rw [← hw1, ← hbx]
    exact ⟨Blk.new w _ _, nextA (Mem.start w) _⟩)
  have HI := Lib.hid (And.intro hT hm)
  have HF := Lib.hid hf
  have HM := Lib.hid (hm.small hf)
  have HMM := Lib.hid (And.intro hmm hx)
  obtain ⟨L, hL⟩ : ∃ L, x.length = L := ⟨_, rfl⟩
  have HL := Lib.hid (show x.length = L ∧ L ≤ 800000 by rw [← hL, ← hx]; exact ⟨rfl, bytes_le ((may_iff m).1 hmm)⟩)
  clear hmm hx hL
  have ca0 := H1.out.1.cell 0
  have ca1 := H1.out.1.cell 1
  have ca2 := H1.out.1.cell 2
  have ca3 := H1.out.1.cell 3
  have ca4 := H1.out.1.cell 4
  have ca5 := H1.out.1.cell 5
  have ca6 := H1.out.1.cell 6
  have ca7 := H1.out.1.cell 7
  have ca8 := H1.out.1.cell 8
  have ca9 := H1.out.1.cell 9
  have ca10 := H1.out.1.cell 10
  have ca11 := H1.out.1.cell 11
  have ca12 := H1.out.1.cell 12
  have ca13 := H1.out.1.cell 13
  simp [mv] at ca0 ca1 ca2 ca3 ca4 ca5 ca6 ca7 ca8 ca9 ca10 ca11 ca12 ca13
  clear hT hm hf
  go_enter Tryd.func3, Tryd.ntmps3
  go_wp2_with fail
  refine (few_any w1 m s (HI.out.2.keep H1.out.2)).mono ?_
  rintro e w2 ⟨rfl, hb⟩
  rw [HF.out]
  have H2 := Lib.hid (H1.out.keep hb)
  clear hb ca0 ca1 ca2 ca3 ca4 ca5 ca6 ca7 ca8 ca9 ca10 ca11 ca12 ca13 hw1 hbx
  have cb0 := H2.out.1.cell 0
  have cb1 := H2.out.1.cell 1
  have cb2 := H2.out.1.cell 2
  have cb3 := H2.out.1.cell 3
  have cb4 := H2.out.1.cell 4
  have cb5 := H2.out.1.cell 5
  have cb6 := H2.out.1.cell 6
  have cb7 := H2.out.1.cell 7
  have cb8 := H2.out.1.cell 8
  have cb9 := H2.out.1.cell 9
  have cb10 := H2.out.1.cell 10
  have cb11 := H2.out.1.cell 11
  have cb12 := H2.out.1.cell 12
  have cb13 := H2.out.1.cell 13
  simp [mv] at cb0 cb1 cb2 cb3 cb4 cb5 cb6 cb7 cb8 cb9 cb10 cb11 cb12 cb13
  go_wp2_with fail
  refine (plain_any w2 m s (HM.out.keep H2.out.2)).mono ?_
  rintro e w3 ⟨A3, c3, rfl, hp, hb⟩
  have H3 := Lib.hid (And.intro (H2.out.keep hb) hp)
  clear hb hp cb0 cb1 cb2 cb3 cb4 cb5 cb6 cb7 cb8 cb9 cb10 cb11 cb12 cb13
  go_wp2_with fail
  refine (rmay_any w3 m A3 c3 s.na s.nc H3.out.2).mono ?_
  rintro e w4 ⟨rfl, hb⟩
  rw [HMM.out.1]
  have H4 := Lib.hid (H3.out.1.keep hb)
  clear hb
  have cc0 := H4.out.1.cell 0
  have cc1 := H4.out.1.cell 1
  have cc2 := H4.out.1.cell 2
  have cc3 := H4.out.1.cell 3
  have cc4 := H4.out.1.cell 4
  have cc5 := H4.out.1.cell 5
  have cc6 := H4.out.1.cell 6
  have cc7 := H4.out.1.cell 7
  have cc8 := H4.out.1.cell 8
  have cc9 := H4.out.1.cell 9
  have cc10 := H4.out.1.cell 10
  have cc11 := H4.out.1.cell 11
  have cc12 := H4.out.1.cell 12
  have cc13 := H4.out.1.cell 13
  simp [mv] at cc0 cc1 cc2 cc3 cc4 cc5 cc6 cc7 cc8 cc9 cc10 cc11 cc12 cc13
  go_wp2_with fail
  refine (plain_any w4 m s (HM.out.keep H4.out.2)).mono ?_
  rintro e w5 ⟨A5, c5, rfl, hp, hb⟩
  have H5 := Lib.hid (And.intro (H4.out.keep hb) hp)
  clear hb hp cc0 cc1 cc2 cc3 cc4 cc5 cc6 cc7 cc8 cc9 cc10 cc11 cc12 cc13
  go_wp2_with fail
  refine (rbytes_any w5 m A5 c5 s.na s.nc H5.out.2 ((may_iff m).1 HMM.out.1)).mono ?_
  rintro e w6 ⟨A6, c6, rfl, ho, hb⟩
  rw [HMM.out.2] at ho ⊢
  have H6 := Lib.hid (H5.out.1.keep hb)
  have es := run_str (P := Tryd.prog) w6 25 5 Tryd.underlying25 Tryd.underlying5 ho.bytes c6 9 Tryd.underlying9
  rw [HL.out.1] at es ⊢
  clear hb ho
  go_wp2_with fail
  clear es
  go_loopw [5] (fun t wr => ∃ j : Nat, t = .int .i64 (j : Int) ∧ j ≤ 2 ∧ Bx w bx m s wr) (fun t _ => 2 - (intOf t).toNat)
  case atStart => exact ⟨0, rfl, by decide, H6.out⟩
  case round =>
    obtain ⟨j, rfl, hj, hB⟩ := hrel
    have HR := Lib.hid hB
    clear hB
    by_cases hj2 : j < 2
    · have h1 : (j : Int) < 2 := by omega
      have h0 : (0 : Int) ≤ (j : Int) := by omega
      have ce0 := HR.out.1.cell 0
      have ce1 := HR.out.1.cell 1
      have ce2 := HR.out.1.cell 2
      have ce3 := HR.out.1.cell 3
      have ce4 := HR.out.1.cell 4
      have ce5 := HR.out.1.cell 5
      have ce6 := HR.out.1.cell 6
      have ce7 := HR.out.1.cell 7
      have ce8 := HR.out.1.cell 8
      have ce9 := HR.out.1.cell 9
      have ce10 := HR.out.1.cell 10
      have ce11 := HR.out.1.cell 11
      have ce12 := HR.out.1.cell 12
      have ce13 := HR.out.1.cell 13
      simp [mv] at ce0 ce1 ce2 ce3 ce4 ce5 ce6 ce7 ce8 ce9 ce10 ce11 ce12 ce13
      go_wp2_with fail
      refine (putp_yes wr m s x (HI.out.1.keep HR.out.2) (HM.out.keep HR.out.2) HMM.out.1 HMM.out.2).mono ?_
      rintro e w7 ⟨A7, c7, rfl, ho, hb⟩
      have H7 := Lib.hid (And.intro (HR.out.keep hb) (And.intro ho HR.out.2.size))
      have es := run_str (P := Tryd.prog) w7 25 5 Tryd.underlying25 Tryd.underlying5 ho.bytes c7 9 Tryd.underlying9
      rw [HL.out.1] at es ⊢
      have hL8 : (L : Int) ≤ 800000 := by have := HL.out.2; omega
      have HJ := Lib.hid (And.intro hj2 hj)
      clear hb ho ce0 ce1 ce2 ce3 ce4 ce5 ce6 ce7 ce8 ce9 ce10 ce11 ce12 ce13 hj2 hj
      go_wp2_with fail
      clear es
      obtain ⟨wo, hwo⟩ : ∃ wo : Nat, wr.heap.size = wo := ⟨_, rfl⟩
      rw [hwo] at H7
      have HWO := Lib.hid (show w.heap.size ≤ wo by rw [← hwo]; exact HR.out.2.size)
      clear hwo HR
      go_loopw [8] (fun i wq => ∃ (q : Nat) (l1 : List UInt8), i = .int .i64 (q : Int) ∧ q ≤ L ∧ l1.length = L ∧ Mem.Own wq wo 5 A7 c7 (l1.map u8v) ∧ Bx w bx m s wq) (fun i _ => L - (intOf i).toNat)
      case atStart => exact ⟨0, x, rfl, Nat.zero_le _, HL.out.1, H7.out.2.1, H7.out.1⟩
      case round =>
        clear H7
        obtain ⟨q, l1, rfl, hq, hl1, ho, hB⟩ := hrel
        have HX := Lib.hid (And.intro hB ho)
        have HL1 := Lib.hid hl1
        clear hB
        by_cases hqL : q < L
        · have hii : (q : Int) < (L : Int) := by omega
          have hi0 : (0 : Int) ≤ (q : Int) := by omega
          obtain ⟨g, eA, hbg, hlt, hc', hz, hset⟩ := ho.at_ (k := q) (by rw [List.length_map]; omega)
          obtain ⟨y, hy⟩ : ∃ y, l1[q]'(by omega) = y := ⟨_, rfl⟩
          have hc : wr.cell? ⟨g, q, none⟩ = some (.int .u8 (y.toNat : Int)) := by rw [hc', List.getElem_map, hy]; rfl
          have hw : ((y.toNat : Int) + 1) % 256 = ((y + 1).toNat : Int) := by
            have := y.toNat_lt
            rw [UInt8.toNat_add]
            show ((y.toNat : Int) + 1) % 256 = (((y.toNat + 1) % 256 : Nat) : Int)
            omega
          have HRW := Lib.hid (show Mem.Own (wr.setCell ⟨g, q, none⟩ (.int .u8 ((y + 1).toNat : Int))) wo 5 A7 c7 ((l1.set q (y + 1)).map u8v) from by rw [List.map_set]; exact hset _)
          have hfr : Fr (fun k => k = g) wr (wr.setCell ⟨g, q, none⟩ (.int .u8 ((y + 1).toNat : Int))) := (Fr.refl (fun k => k = g) wr).setCell (p := ⟨g, q, none⟩) (fun _ => rfl) _
          have HN := Lib.hid (show Bx w bx m s (wr.setCell ⟨g, q, none⟩ (.int .u8 ((y + 1).toNat : Int))) from
            ⟨HX.out.1.1.fr hfr (fun h => HX.out.1.1.ne_own ho (by decide) g eA h.symm), HX.out.1.2.trans (hfr.below HX.out.1.2.size fun k hk => by have := HWO.out; omega)⟩)
          have HW := Lib.hid hw
          have HQ := Lib.hid hqL
          clear hc' hset hy hlt ho hl1 hfr hw hbg
          subst eA
          go_wp2_with fail
          go_roundw
          case rel =>
            rw [HW.out]
            exact ⟨q + 1, l1.set q (y + 1), by go_num, HQ.out, by rw [List.length_set]; exact HL1.out, HRW.out, HN.out⟩
          case measure => simp [intOf]; have := HQ.out; omega
        · obtain rfl : q = L := by omega
          have hii : ¬ (q : Int) < (q : Int) := by omega
          clear ho hl1 hq hqL
          go_wp2_with fail
          go_roundw
          case rel => exact ⟨j + 1, by go_num, HJ.out.1, HX.out.1⟩
          case measure => simp [intOf]; have := HJ.out.1; omega
    · obtain rfl : j = 2 := by omega
      go_wp2_with fail
      refine (works_any wr (HI.out.1.keep HR.out.2)).mono ?_
      rintro e w8 ⟨rfl, hb⟩
      have H8 := Lib.hid (next HR.out.2 hb)
      clear hb
      go_wp2_with fail
      go_ret
      exact ⟨rfl, H8.out⟩
set_option maxRecDepth 100000 in
set_option maxHeartbeats 8000000 in
theorem puts_law (w : World) (hT : HasT w) (m : Msg) (s : Sl) (hm : MIn0 w w.heap.size m s) :
    Calls Tryd.prog 3 #[.agg (mv m s)] w fun e w' => e = .returned (.bool true) ∧ Below w.heap.size w w' := by
  cases hf : few m
  · obtain ⟨bx, hbx⟩ : ∃ bx, w.heap.size = bx := ⟨_, rfl⟩
    obtain ⟨w1, hw1⟩ : ∃ x : World, w.alloc (.cells (mv m s) 27) = x := ⟨_, rfl⟩
    have H1 := Lib.hid (show Bx w bx m s w1 by
      rw [← hw1, ← hbx]
      exact ⟨Blk.new w _ _, nextA (Mem.start w) _⟩)
    have HI := Lib.hid (And.intro hT hm)
    have HF := Lib.hid hf
    have ca0 := H1.out.1.cell 0
    have ca1 := H1.out.1.cell 1
    have ca2 := H1.out.1.cell 2
    have ca3 := H1.out.1.cell 3
    have ca4 := H1.out.1.cell 4
    have ca5 := H1.out.1.cell 5
    have ca6 := H1.out.1.cell 6
    have ca7 := H1.out.1.cell 7
    have ca8 := H1.out.1.cell 8
    have ca9 := H1.out.1.cell 9
    have ca10 := H1.out.1.cell 10
    have ca11 := H1.out.1.cell 11
    have ca12 := H1.out.1.cell 12
    have ca13 := H1.out.1.cell 13
    simp [mv] at ca0 ca1 ca2 ca3 ca4 ca5 ca6 ca7 ca8 ca9 ca10 ca11 ca12 ca13
    clear hT hm hf
    go_enter Tryd.func3, Tryd.ntmps3
    go_wp2_with fail
    refine (few_any w1 m s (HI.out.2.keep H1.out.2)).mono ?_
    rintro e w2 ⟨rfl, hb⟩
    rw [HF.out]
    have H2 := Lib.hid (H1.out.keep hb)
    clear hb ca0 ca1 ca2 ca3 ca4 ca5 ca6 ca7 ca8 ca9 ca10 ca11 ca12 ca13 hw1 hbx
    go_wp2_with fail
    refine (works_any w2 (HI.out.1.keep H2.out.2)).mono ?_
    rintro e w3 ⟨rfl, hb⟩
    have H3 := Lib.hid (next H2.out.2 hb)
    clear hb
    go_wp2_with fail
    go_ret
    exact ⟨rfl, H3.out⟩
  · cases hmm : may m
    · exact puts_n w hT m s hm hf hmm
    · exact puts_y w hT m s hm hf _ hmm rfl
end Go.Proofs.YtebdmfmadbikaaaDoor.WiW
