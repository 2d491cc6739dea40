/- Texts of a claim, one behind another. -/
import Derived.Test.YtebdmfmadbikaaaDoorSq
import Derived.Test.YtebdmfmadbikaaaDoorQLawWireKnown2
import Derived.Test.YtebdmfmadbikaaaDoorWb
import Derived.Test.YtebdmfmadbikaaaDoorBapp
import Derived.Test.YtebdmfmadbikaaaDoorHeldG
import Derived.Test.YtebdmfmadbikaaaDoorRng
import Derived.Test.YtebdmfmadbikaaaDoorOpenL
import Derived.Test.YtebdmfmadbikaaaDoorTie
import Derived.Test.YtebdmfmadbikaaaDoorCards
/- The law WireBack, walked. Printed by genwback.py (raw numbers of the seat). -/
namespace Go.Proofs.YtebdmfmadbikaaaDoor.WiW
open Go.RowKit Go.Shelf Mem Fds FdW Wi Rng
set_option linter.unusedVariables false
set_option linter.unusedSimpArgs false

theorem u8info17 : (Tryd.prog.info? 5).map (fun i => (i.zero, i.size, i.bytes)) = some (some (.int .u8 0), 1, 1) := by kernel_rfl
/-- What is got is a message that came in. -/
theorem RowsO.min {w : World} {B : Nat} {m : Msg} {s : Sl} (h : RowsO w B m s) (hm : may m = true) : MIn w w.heap.size m s := by
  have hF := (may_iff m).1 hm
  exact ⟨h.1.cells, h.2.1.cells, h.2.2.cells, by have := hF.kind; omega, by have := hF.key; omega, by have := hF.ids; omega, by have := hF.nodes; omega, by have := hF.data; omega, fun x hx => by have := (hF.id x hx).1; omega⟩
/-- Put, where it may be; and not. -/
theorem put_yes (w : World) (m : Msg) (s : Sl) (x : List UInt8) (hT : HasT w) (hI : MIn w w.heap.size m s) (hm : may m = true) (hx : Wi.bytes m = x) : Calls Tryd.prog 14 #[.agg (mv m s)] w fun e w' => ∃ A c, e = .returned (.tuple #[.slice A x.length c, .int .i64 0]) ∧ Mem.Own w' w.heap.size 5 A c (x.map u8v) ∧ Below w.heap.size w w' := by
  refine (Put_any w m s hT hI).mono fun e w' h => ?_
  unfold PutR at h
  rw [if_pos hm, hx] at h
  exact h
theorem put_no (w : World) (m : Msg) (s : Sl) (hT : HasT w) (hI : MIn w w.heap.size m s) (hm : may m = false) : Calls Tryd.prog 14 #[.agg (mv m s)] w fun e w' => e = .returned (.tuple #[.slice none 0 0, .int .i64 2]) ∧ Below w.heap.size w w' := by
  refine (Put_any w m s hT hI).mono fun e w' h => ?_
  unfold PutR at h
  rw [if_neg (by rw [hm]; simp)] at h
  exact h
/-- Get, where there is a message; and not. -/
theorem get_yes (w : World) (A : Option Addr) (b : List UInt8) (n c : Nat) (hn : n = b.length) (hnc : n ≤ c) (hcc : c ≤ 9223372036854775807) (hA : Bytes w w.heap.size A b) (hT : HasT w) (hbl : b.length ≤ 1000000) (m : Msg) (hg : Wi.get b = some m) :
    Calls Tryd.prog 15 #[.slice A n c] w fun e w' => ∃ s, e = .returned (.tuple #[.agg (mv m s), .int .i64 0]) ∧ RowsO w' w.heap.size m s ∧ Below w.heap.size w w' := by
  refine (get_any w A b n c hn hnc hcc hA hT hbl).mono fun e w' h => ?_
  obtain ⟨hb, h⟩ := h
  rw [hg] at h
  obtain ⟨s, h1, h2⟩ := h
  exact ⟨s, h1, h2, hb⟩
theorem get_no (w : World) (A : Option Addr) (b : List UInt8) (n c : Nat) (hn : n = b.length) (hnc : n ≤ c) (hcc : c ≤ 9223372036854775807) (hA : Bytes w w.heap.size A b) (hT : HasT w) (hbl : b.length ≤ 1000000) (hg : Wi.get b = none) :
    Calls Tryd.prog 15 #[.slice A n c] w fun e w' => e = .returned (.tuple #[.agg (mv mz s0), .int .i64 170]) ∧ Below w.heap.size w w' := by
  refine (get_any w A b n c hn hnc hcc hA hT hbl).mono fun e w' h => ?_
  obtain ⟨hb, h⟩ := h
  rw [hg] at h
  exact ⟨h, hb⟩
theorem maxle {c : Nat} (h : c ≤ maxLen) : c ≤ 9223372036854775807 := by unfold maxLen at h; omega
theorem str_beq2 (x y : List UInt8) : ((str x).toList == (str y).toList) = decide (x = y) := by
  rw [str_toList, str_toList, Bool.eq_iff_iff, beq_iff_eq, decide_eq_true_iff]
set_option maxRecDepth 100000 in
set_option maxHeartbeats 16000000 in
theorem back_nn (w : World) (hT : HasT w) (m : Msg) (s : Sl) (hm : MIn0 w w.heap.size m s) (n : Msg) (t : Sl) (hn : MIn0 w w.heap.size n t) (A : Option Addr) (b : List UInt8) (c : Nat) (hle : b.length ≤ c) (hmx : c ≤ maxLen) (hb : Bytes w w.heap.size A b) (hf : few m = true) (hg : few n = true) (hbl : b.length ≤ 5000) (hmm : may m = false) (hy : Wi.get b = none) :
    Calls Tryd.prog 5 #[.agg (mv m s), .agg (mv n t), .slice A b.length c] w fun e w' => e = .returned (.bool true) ∧ Below w.heap.size w w' := by
  obtain ⟨bx, hbx⟩ : ∃ bx, w.heap.size = bx := ⟨_, rfl⟩
  obtain ⟨w1, hw1⟩ : ∃ x : World, (w.alloc (.cells (mv m s) 27)).alloc (.cells (mv n t) 27) = x := ⟨_, rfl⟩
  have H1 := Lib.hid (show Two w bx m s n t w1 by
    rw [← hw1, ← hbx]
    refine ⟨(Blk.new w _ _).keep (nextA (Mem.start _) _), ?_, nextA (nextA (Mem.start w) _) _⟩
    have := Blk.new (w.alloc (.cells (mv m s) 27)) 27 (mv n t)
    rw [World.size_alloc] at this; exact this)
  have HI := Lib.hid (And.intro hT (And.intro hm (And.intro hn hb)))
  have HF := Lib.hid (And.intro hf hg)
  have HM := Lib.hid (And.intro (hm.small hf) (hn.small hg))
  have HL := Lib.hid (And.intro hle (And.intro (maxle hmx) hbl))
  have dl : decide ((5000 : Int) < ((b.length : Nat) : Int)) = false := decide_eq_false (by omega)
  have HMM := Lib.hid hmm
  clear hmm
  have HY := Lib.hid hy
  clear hy
  have ca0 := H1.out.1.cell 0
  have ca1 := H1.out.1.cell 1
  have ca2 := H1.out.1.cell 2
  have ca3 := H1.out.1.cell 3
  have ca4 := H1.out.1.cell 4
  have ca5 := H1.out.1.cell 5
  have ca6 := H1.out.1.cell 6
  have ca7 := H1.out.1.cell 7
  have ca8 := H1.out.1.cell 8
  have ca9 := H1.out.1.cell 9
  have ca10 := H1.out.1.cell 10
  have ca11 := H1.out.1.cell 11
  have ca12 := H1.out.1.cell 12
  have ca13 := H1.out.1.cell 13
  simp [mv] at ca0 ca1 ca2 ca3 ca4 ca5 ca6 ca7 ca8 ca9 ca10 ca11 ca12 ca13
  clear hT hm hn hb hle hmx hf hg hbl
  go_enter Tryd.func5, Tryd.ntmps5
  go_wp2_with fail
  refine (few_any w1 m s (HI.out.2.1.keep H1.out.2.2)).mono ?_
  rintro e w2 ⟨rfl, hb⟩
  rw [HF.out.1]
  have H2 := Lib.hid (H1.out.keep hb)
  clear hb ca0 ca1 ca2 ca3 ca4 ca5 ca6 ca7 ca8 ca9 ca10 ca11 ca12 ca13 hw1 hbx
  have cb0 := H2.out.2.1.cell 0
  have cb1 := H2.out.2.1.cell 1
  have cb2 := H2.out.2.1.cell 2
  have cb3 := H2.out.2.1.cell 3
  have cb4 := H2.out.2.1.cell 4
  have cb5 := H2.out.2.1.cell 5
  have cb6 := H2.out.2.1.cell 6
  have cb7 := H2.out.2.1.cell 7
  have cb8 := H2.out.2.1.cell 8
  have cb9 := H2.out.2.1.cell 9
  have cb10 := H2.out.2.1.cell 10
  have cb11 := H2.out.2.1.cell 11
  have cb12 := H2.out.2.1.cell 12
  have cb13 := H2.out.2.1.cell 13
  simp [mv] at cb0 cb1 cb2 cb3 cb4 cb5 cb6 cb7 cb8 cb9 cb10 cb11 cb12 cb13
  go_wp2_with fail
  refine (few_any w2 n t (HI.out.2.2.1.keep H2.out.2.2)).mono ?_
  rintro e w3 ⟨rfl, hb⟩
  rw [HF.out.2]
  have H3 := Lib.hid (H2.out.keep hb)
  clear hb cb0 cb1 cb2 cb3 cb4 cb5 cb6 cb7 cb8 cb9 cb10 cb11 cb12 cb13
  have cc0 := H3.out.1.cell 0
  have cc1 := H3.out.1.cell 1
  have cc2 := H3.out.1.cell 2
  have cc3 := H3.out.1.cell 3
  have cc4 := H3.out.1.cell 4
  have cc5 := H3.out.1.cell 5
  have cc6 := H3.out.1.cell 6
  have cc7 := H3.out.1.cell 7
  have cc8 := H3.out.1.cell 8
  have cc9 := H3.out.1.cell 9
  have cc10 := H3.out.1.cell 10
  have cc11 := H3.out.1.cell 11
  have cc12 := H3.out.1.cell 12
  have cc13 := H3.out.1.cell 13
  simp [mv] at cc0 cc1 cc2 cc3 cc4 cc5 cc6 cc7 cc8 cc9 cc10 cc11 cc12 cc13
  go_wp2_with fail
  refine (put_no w3 m s (HI.out.1.keep H3.out.2.2) (HM.out.1.keep H3.out.2.2) HMM.out).mono ?_
  rintro e w4 ⟨rfl, hb⟩
  have H4 := Lib.hid (H3.out.keep hb)
  clear hb cc0 cc1 cc2 cc3 cc4 cc5 cc6 cc7 cc8 cc9 cc10 cc11 cc12 cc13
  go_wp2_with fail
  refine (get_no w4 A b b.length c rfl HL.out.1 HL.out.2.1 ((HI.out.2.2.2.below H4.out.2.2).up H4.out.2.2.size) (HI.out.1.keep H4.out.2.2) (by have := HL.out.2.2; omega) HY.out).mono ?_
  rintro e v1 ⟨rfl, hb⟩
  have K1 := Lib.hid (H4.out.keep hb)
  clear hb
  go_wp2_with ((with_reducible show wpList _ _ _ ((⟨none, .store 27 (.tmp 17) (.tmp 109), _, _, _, _⟩ : Oper) :: _) _ _); refine wpList_store_msg v1 rfl (.tmp 17) (.tmp 109) rfl mz s0 rfl rfl ?_; intro v2 hB hW; have K2 := Lib.hid (K1.out.keep hW); clear hB hW)
  refine (works_any v2 (HI.out.1.keep K2.out.2.2)).mono ?_
  rintro e v3 ⟨rfl, hb⟩
  have K3 := Lib.hid (next K2.out.2.2 hb)
  clear hb
  go_wp2_with fail
  go_ret
  exact ⟨rfl, K3.out⟩
set_option maxRecDepth 100000 in
set_option maxHeartbeats 16000000 in
theorem back_ny (w : World) (hT : HasT w) (m : Msg) (s : Sl) (hm : MIn0 w w.heap.size m s) (n : Msg) (t : Sl) (hn : MIn0 w w.heap.size n t) (A : Option Addr) (b : List UInt8) (c : Nat) (hle : b.length ≤ c) (hmx : c ≤ maxLen) (hb : Bytes w w.heap.size A b) (hf : few m = true) (hg : few n = true) (hbl : b.length ≤ 5000) (hmm : may m = false) (y : Msg) (hy : Wi.get b = some y) :
    Calls Tryd.prog 5 #[.agg (mv m s), .agg (mv n t), .slice A b.length c] w fun e w' => e = .returned (.bool true) ∧ Below w.heap.size w w' := by
  obtain ⟨bx, hbx⟩ : ∃ bx, w.heap.size = bx := ⟨_, rfl⟩
  obtain ⟨w1, hw1⟩ : ∃ x : World, (w.alloc (.cells (mv m s) 27)).alloc (.cells (mv n t) 27) = x := ⟨_, rfl⟩
  have H1 := Lib.hid (show Two w bx m s n t w1 by
    rw [← hw1, ← hbx]
    refine ⟨(Blk.new w _ _).keep (nextA (Mem.start _) _), ?_, nextA (nextA (Mem.start w) _) _⟩
    have := Blk.new (w.alloc (.cells (mv m s) 27)) 27 (mv n t)
    rw [World.size_alloc] at this; exact this)
  have HI := Lib.hid (And.intro hT (And.intro hm (And.intro hn hb)))
  have HF := Lib.hid (And.intro hf hg)
  have HM := Lib.hid (And.intro (hm.small hf) (hn.small hg))
  have HL := Lib.hid (And.intro hle (And.intro (maxle hmx) hbl))
  have dl : decide ((5000 : Int) < ((b.length : Nat) : Int)) = false := decide_eq_false (by omega)
  have HMM := Lib.hid hmm
  clear hmm
  have HY := Lib.hid hy
  clear hy
  have ca0 := H1.out.1.cell 0
  have ca1 := H1.out.1.cell 1
  have ca2 := H1.out.1.cell 2
  have ca3 := H1.out.1.cell 3
  have ca4 := H1.out.1.cell 4
  have ca5 := H1.out.1.cell 5
  have ca6 := H1.out.1.cell 6
  have ca7 := H1.out.1.cell 7
  have ca8 := H1.out.1.cell 8
  have ca9 := H1.out.1.cell 9
  have ca10 := H1.out.1.cell 10
  have ca11 := H1.out.1.cell 11
  have ca12 := H1.out.1.cell 12
  have ca13 := H1.out.1.cell 13
  simp [mv] at ca0 ca1 ca2 ca3 ca4 ca5 ca6 ca7 ca8 ca9 ca10 ca11 ca12 ca13
  clear hT hm hn hb hle hmx hf hg hbl
  go_enter Tryd.func5, Tryd.ntmps5
  go_wp2_with fail
  refine (few_any w1 m s (HI.out.2.1.keep H1.out.2.2)).mono ?_
  rintro e w2 ⟨rfl, hb⟩
  rw [HF.out.1]
  have H2 := Lib.hid (H1.out.keep hb)
  clear hb ca0 ca1 ca2 ca3 ca4 ca5 ca6 ca7 ca8 ca9 ca10 ca11 ca12 ca13 hw1 hbx
  have cb0 := H2.out.2.1.cell 0
  have cb1 := H2.out.2.1.cell 1
  have cb2 := H2.out.2.1.cell 2
  have cb3 := H2.out.2.1.cell 3
  have cb4 := H2.out.2.1.cell 4
  have cb5 := H2.out.2.1.cell 5
  have cb6 := H2.out.2.1.cell 6
  have cb7 := H2.out.2.1.cell 7
  have cb8 := H2.out.2.1.cell 8
  have cb9 := H2.out.2.1.cell 9
  have cb10 := H2.out.2.1.cell 10
  have cb11 := H2.out.2.1.cell 11
  have cb12 := H2.out.2.1.cell 12
  have cb13 := H2.out.2.1.cell 13
  simp [mv] at cb0 cb1 cb2 cb3 cb4 cb5 cb6 cb7 cb8 cb9 cb10 cb11 cb12 cb13
  go_wp2_with fail
  refine (few_any w2 n t (HI.out.2.2.1.keep H2.out.2.2)).mono ?_
  rintro e w3 ⟨rfl, hb⟩
  rw [HF.out.2]
  have H3 := Lib.hid (H2.out.keep hb)
  clear hb cb0 cb1 cb2 cb3 cb4 cb5 cb6 cb7 cb8 cb9 cb10 cb11 cb12 cb13
  have cc0 := H3.out.1.cell 0
  have cc1 := H3.out.1.cell 1
  have cc2 := H3.out.1.cell 2
  have cc3 := H3.out.1.cell 3
  have cc4 := H3.out.1.cell 4
  have cc5 := H3.out.1.cell 5
  have cc6 := H3.out.1.cell 6
  have cc7 := H3.out.1.cell 7
  have cc8 := H3.out.1.cell 8
  have cc9 := H3.out.1.cell 9
  have cc10 := H3.out.1.cell 10
  have cc11 := H3.out.1.cell 11
  have cc12 := H3.out.1.cell 12
  have cc13 := H3.out.1.cell 13
  simp [mv] at cc0 cc1 cc2 cc3 cc4 cc5 cc6 cc7 cc8 cc9 cc10 cc11 cc12 cc13
  go_wp2_with fail
  refine (put_no w3 m s (HI.out.1.keep H3.out.2.2) (HM.out.1.keep H3.out.2.2) HMM.out).mono ?_
  rintro e w4 ⟨rfl, hb⟩
  have H4 := Lib.hid (H3.out.keep hb)
  clear hb cc0 cc1 cc2 cc3 cc4 cc5 cc6 cc7 cc8 cc9 cc10 cc11 cc12 cc13
  go_wp2_with fail
  refine (get_yes w4 A b b.length c rfl HL.out.1 HL.out.2.1 ((HI.out.2.2.2.below H4.out.2.2).up H4.out.2.2.size) (HI.out.1.keep H4.out.2.2) (by have := HL.out.2.2; omega) y HY.out).mono ?_
  rintro e v1 ⟨sy, rfl, hr, hb⟩
  have K1 := Lib.hid (And.intro (H4.out.keep hb) hr)
  clear hb hr
  go_wp2_with ((with_reducible show wpList _ _ _ ((⟨none, .store 27 (.tmp 17) (.tmp 109), _, _, _, _⟩ : Oper) :: _) _ _); refine wpList_store_msg v1 rfl (.tmp 17) (.tmp 109) rfl y sy rfl rfl ?_; intro v2 hB hW; have K2 := Lib.hid (And.intro (K1.out.1.keep hW) (And.intro (K1.out.2.keep hW) hB)); clear hB hW; obtain ⟨gy, hgy⟩ : ∃ x, v1.heap.size = x := ⟨_, rfl⟩; rw [hgy] at K2 ⊢; clear hgy; have cy0 := K2.out.2.2.cell 0; have cy1 := K2.out.2.2.cell 1; have cy2 := K2.out.2.2.cell 2; have cy3 := K2.out.2.2.cell 3; have cy4 := K2.out.2.2.cell 4; have cy5 := K2.out.2.2.cell 5; have cy6 := K2.out.2.2.cell 6; have cy7 := K2.out.2.2.cell 7; have cy8 := K2.out.2.2.cell 8; have cy9 := K2.out.2.2.cell 9; have cy10 := K2.out.2.2.cell 10; have cy11 := K2.out.2.2.cell 11; have cy12 := K2.out.2.2.cell 12; have cy13 := K2.out.2.2.cell 13; simp [mv] at cy0 cy1 cy2 cy3 cy4 cy5 cy6 cy7 cy8 cy9 cy10 cy11 cy12 cy13)
  refine (put_yes v2 y sy b (HI.out.1.keep K2.out.1.2.2) (K2.out.2.1.min (put_get HY.out).1) (put_get HY.out).1 (put_get HY.out).2).mono ?_
  rintro e v3 ⟨Az, cz, rfl, ho, hb⟩
  have K3 := Lib.hid (And.intro (next K2.out.1.2.2 hb) ho)
  clear hb ho cy0 cy1 cy2 cy3 cy4 cy5 cy6 cy7 cy8 cy9 cy10 cy11 cy12 cy13
  have ez := run_str (P := Tryd.prog) v3 25 5 Tryd.underlying25 Tryd.underlying5 K3.out.2.bytes cz 9 Tryd.underlying9
  have eb := run_str (P := Tryd.prog) v3 25 5 Tryd.underlying25 Tryd.underlying5 (HI.out.2.2.2.below K3.out.1) c 9 Tryd.underlying9
  go_wp2_with fail
  refine (works_any v3 (HI.out.1.keep K3.out.1)).mono ?_
  rintro e v4 ⟨rfl, hb⟩
  have K4 := Lib.hid (next K3.out.1 hb)
  clear hb ez eb
  go_wp2_with fail
  go_ret
  exact ⟨rfl, K4.out⟩
set_option maxRecDepth 100000 in
set_option maxHeartbeats 16000000 in
theorem back_ynn (w : World) (hT : HasT w) (m : Msg) (s : Sl) (hm : MIn0 w w.heap.size m s) (n : Msg) (t : Sl) (hn : MIn0 w w.heap.size n t) (A : Option Addr) (b : List UInt8) (c : Nat) (hle : b.length ≤ c) (hmx : c ≤ maxLen) (hb : Bytes w w.heap.size A b) (hf : few m = true) (hg : few n = true) (hbl : b.length ≤ 5000) (x : List UInt8) (hmm : may m = true) (hx : Wi.bytes m = x) (hnn : may n = false) (hy : Wi.get b = none) :
    Calls Tryd.prog 5 #[.agg (mv m s), .agg (mv n t), .slice A b.length c] w fun e w' => e = .returned (.bool true) ∧ Below w.heap.size w w' := by
  obtain ⟨bx, hbx⟩ : ∃ bx, w.heap.size = bx := ⟨_, rfl⟩
  obtain ⟨w1, hw1⟩ : ∃ x : World, (w.alloc (.cells (mv m s) 27)).alloc (.cells (mv n t) 27) = x := ⟨_, rfl⟩
  have H1 := Lib.hid (show Two w bx m s n t w1 by
    rw [← hw1, ← hbx]
    refine ⟨(Blk.new w _ _).keep (nextA (Mem.start _) _), ?_, nextA (nextA (Mem.start w) _) _⟩
    have := Blk.new (w.alloc (.cells (mv m s) 27)) 27 (mv n t)
    rw [World.size_alloc] at this; exact this)
  have HI := Lib.hid (And.intro hT (And.intro hm (And.intro hn hb)))
  have HF := Lib.hid (And.intro hf hg)
  have HM := Lib.hid (And.intro (hm.small hf) (hn.small hg))
  have HL := Lib.hid (And.intro hle (And.intro (maxle hmx) hbl))
  have dl : decide ((5000 : Int) < ((b.length : Nat) : Int)) = false := decide_eq_false (by omega)
  have HMM := Lib.hid (And.intro hmm hx)
  have HX := Lib.hid (show Wi.get x = some m ∧ Wi.get (x.take (x.length - 1)) = none ∧ Wi.get (x ++ [0]) = none by
    refine ⟨by rw [← hx]; exact get_put hmm, get_fewer hmm (by rw [← hx]; exact bytes_ne m) hx, by rw [← hx]; exact get_more hmm 0⟩)
  have hne : x ≠ [] := by rw [← hx]; exact bytes_ne m
  have hps := List.length_pos_iff.2 hne
  obtain ⟨k, hk⟩ : ∃ k, x.length = k + 1 := ⟨x.length - 1, by omega⟩
  have HK := Lib.hid (show x.length = k + 1 ∧ k + 1 ≤ 800000 by rw [← hk, ← hx]; exact ⟨rfl, bytes_le ((may_iff m).1 hmm)⟩)
  clear hmm hx hk hne hps
  have HNN := Lib.hid hnn
  clear hnn
  have HY := Lib.hid hy
  clear hy
  have ca0 := H1.out.1.cell 0
  have ca1 := H1.out.1.cell 1
  have ca2 := H1.out.1.cell 2
  have ca3 := H1.out.1.cell 3
  have ca4 := H1.out.1.cell 4
  have ca5 := H1.out.1.cell 5
  have ca6 := H1.out.1.cell 6
  have ca7 := H1.out.1.cell 7
  have ca8 := H1.out.1.cell 8
  have ca9 := H1.out.1.cell 9
  have ca10 := H1.out.1.cell 10
  have ca11 := H1.out.1.cell 11
  have ca12 := H1.out.1.cell 12
  have ca13 := H1.out.1.cell 13
  simp [mv] at ca0 ca1 ca2 ca3 ca4 ca5 ca6 ca7 ca8 ca9 ca10 ca11 ca12 ca13
  clear hT hm hn hb hle hmx hf hg hbl
  go_enter Tryd.func5, Tryd.ntmps5
  go_wp2_with fail
  refine (few_any w1 m s (HI.out.2.1.keep H1.out.2.2)).mono ?_
  rintro e w2 ⟨rfl, hb⟩
  rw [HF.out.1]
  have H2 := Lib.hid (H1.out.keep hb)
  clear hb ca0 ca1 ca2 ca3 ca4 ca5 ca6 ca7 ca8 ca9 ca10 ca11 ca12 ca13 hw1 hbx
  have cb0 := H2.out.2.1.cell 0
  have cb1 := H2.out.2.1.cell 1
  have cb2 := H2.out.2.1.cell 2
  have cb3 := H2.out.2.1.cell 3
  have cb4 := H2.out.2.1.cell 4
  have cb5 := H2.out.2.1.cell 5
  have cb6 := H2.out.2.1.cell 6
  have cb7 := H2.out.2.1.cell 7
  have cb8 := H2.out.2.1.cell 8
  have cb9 := H2.out.2.1.cell 9
  have cb10 := H2.out.2.1.cell 10
  have cb11 := H2.out.2.1.cell 11
  have cb12 := H2.out.2.1.cell 12
  have cb13 := H2.out.2.1.cell 13
  simp [mv] at cb0 cb1 cb2 cb3 cb4 cb5 cb6 cb7 cb8 cb9 cb10 cb11 cb12 cb13
  go_wp2_with fail
  refine (few_any w2 n t (HI.out.2.2.1.keep H2.out.2.2)).mono ?_
  rintro e w3 ⟨rfl, hb⟩
  rw [HF.out.2]
  have H3 := Lib.hid (H2.out.keep hb)
  clear hb cb0 cb1 cb2 cb3 cb4 cb5 cb6 cb7 cb8 cb9 cb10 cb11 cb12 cb13
  have cc0 := H3.out.1.cell 0
  have cc1 := H3.out.1.cell 1
  have cc2 := H3.out.1.cell 2
  have cc3 := H3.out.1.cell 3
  have cc4 := H3.out.1.cell 4
  have cc5 := H3.out.1.cell 5
  have cc6 := H3.out.1.cell 6
  have cc7 := H3.out.1.cell 7
  have cc8 := H3.out.1.cell 8
  have cc9 := H3.out.1.cell 9
  have cc10 := H3.out.1.cell 10
  have cc11 := H3.out.1.cell 11
  have cc12 := H3.out.1.cell 12
  have cc13 := H3.out.1.cell 13
  simp [mv] at cc0 cc1 cc2 cc3 cc4 cc5 cc6 cc7 cc8 cc9 cc10 cc11 cc12 cc13
  go_wp2_with fail
  refine (put_yes w3 m s x (HI.out.1.keep H3.out.2.2) (HM.out.1.keep H3.out.2.2) HMM.out.1 HMM.out.2).mono ?_
  rintro e w4 ⟨A1, c1, rfl, ho, hb⟩
  rw [HK.out.1]
  have hl1 := ho.le
  have hl2 := ho.max
  rw [List.length_map, HK.out.1] at hl1
  have HC1 := Lib.hid (And.intro hl1 (maxle hl2))
  have H4 := Lib.hid (And.intro (H3.out.keep hb) ho)
  clear hb ho cc0 cc1 cc2 cc3 cc4 cc5 cc6 cc7 cc8 cc9 cc10 cc11 cc12 cc13 hl1 hl2
  have hk8 : (k : Int) ≤ 800000 := by have := HK.out.2; omega
  have hk0 : (0 : Int) ≤ (k : Int) := by omega
  have e0 : (((k : Int) + 1) == 0) = false := by rw [beq_eq_false_iff_ne]; omega
  have e1 : (k + 1 == 0) = false := by rw [beq_eq_false_iff_ne]; omega
  have hkc : (k : Int) ≤ (c1 : Int) := by have := HC1.out.1; omega
  have hcm : (c1 : Int) ≤ 9223372036854775807 := by have := HC1.out.2; omega
  go_wp2_with fail
  refine (get_yes w4 A1 x (k + 1) c1 HK.out.1.symm HC1.out.1 HC1.out.2 H4.out.2.bytes (HI.out.1.keep H4.out.1.2.2) (by rw [HK.out.1]; have := HK.out.2; omega) m HX.out.1).mono ?_
  rintro e w5 ⟨s1, rfl, hr, hb⟩
  have H5 := Lib.hid (And.intro (H4.out.1.keep hb) (And.intro (H4.out.2.keep hb) hr))
  clear hb hr e0 e1
  go_wp2_with ((with_reducible show wpList _ _ _ ((⟨none, .store 27 (.tmp 9) (.tmp 52), _, _, _, _⟩ : Oper) :: _) _ _); refine wpList_store_msg w5 rfl (.tmp 9) (.tmp 52) rfl (m) s1 rfl rfl ?_; intro w6 hB hW; have H6 := Lib.hid (And.intro (H5.out.1.keep hW) (And.intro (H5.out.2.1.keep hW) (And.intro (H5.out.2.2.keep hW) hB))); clear hB hW; obtain ⟨g1, hg1⟩ : ∃ x, w5.heap.size = x := ⟨_, rfl⟩; rw [hg1] at H6 ⊢; clear hg1)
  refine (get_no w6 A1 (x.take k) k c1 (by rw [List.length_take, HK.out.1]; omega) (by have := HC1.out.1; omega) HC1.out.2 (H6.out.2.1.bytes.take k) (HI.out.1.keep H6.out.1.2.2) (by rw [List.length_take, HK.out.1]; have := HK.out.2; omega) (by have := HX.out.2.1; rw [HK.out.1] at this; exact this)).mono ?_
  rintro e w7 ⟨rfl, hb⟩
  have H7 := Lib.hid (And.intro (H6.out.1.keep hb) (And.intro (H6.out.2.1.keep hb) (And.intro (H6.out.2.2.1.keep hb) (H6.out.2.2.2.keep hb))))
  clear hb
  obtain ⟨i0, hi0, hz0, hz1, hz2⟩ := info_parts u8info17
  go_wp2_with (first
    | ((with_reducible show wpList _ _ _ ((⟨none, _, _, _, _, _⟩ : Oper) :: _) _ _); refine wpList_store_msg w7 rfl (.tmp 11) (.tmp 61) rfl mz s0 rfl rfl ?_; intro w8 hB hW; have H8 := Lib.hid (And.intro (H7.out.1.keep hW) (And.intro (H7.out.2.1.keep hW) (And.intro (H7.out.2.2.1.keep hW) (H7.out.2.2.2.keep hW)))); clear hB hW; have ex := run_str (P := Tryd.prog) w8 25 5 Tryd.underlying25 Tryd.underlying5 H8.out.2.1.bytes c1 9 Tryd.underlying9; rw [HK.out.1] at ex)
    | ((with_reducible show wpList _ _ _ ((⟨some 66, _, _, _, _, _⟩ : Oper) :: _) _ _); refine wpList_bytesOfB w8 (by rfl) 9 25 (.tmp 65) rfl 5 Tryd.underlying9 Tryd.underlying25 Tryd.underlying5 x (by rw [HK.out.1]; have := HK.out.2; unfold maxLen; omega) rfl ?_; intro ck w9 hck hr hbl hs; rw [HK.out.1] at hck ⊢; have H9 := Lib.hid (And.intro hck (And.intro hr hbl)); clear hck hr hbl hs; obtain ⟨g3, hg3⟩ : ∃ q, w8.heap.size = q := ⟨_, rfl⟩; rw [hg3] at H9 ⊢; have HG3 := Lib.hid hg3; clear hg3)
    | ((with_reducible show wpList _ _ _ ((⟨some 68, _, _, _, _, _⟩ : Oper) :: _) _ _); refine wpList_app1m _ rfl (.tmp 66) (.tmp 67) 25 5 rfl i0 _ 1 Tryd.underlying25 hi0 hz0 hz1 hz2 rfl g3 (k + 1) ck (x.map u8v) rfl (by rw [List.length_map]; exact HK.out.1) (H9.out.2.1.keep (nextA (Mem.start w9) _)) ⟨w9.heap.size, 0, none⟩ 1 (.int .u8 0) rfl (by rw [new_cell]; rfl) rfl (by have := HK.out.2; unfold maxLen; omega) (by have := HK.out.2; omega) ?_; intro A4 c4 w10 hc4 hcc4 hcm4 hb10; have hw8 : Below w8.heap.size w8 w10 := (by have h9 := H9.out.2.2; have h10 := (nextA (Mem.start w9) (.cells #[.int .u8 0] 5)).mono (show g3 ≤ w9.heap.size from by have := h9.size; have := HG3.out; omega); rw [HG3.out]; exact (h9.trans h10).trans hb10); have HA4 := Lib.hid (show Bytes w10 w10.heap.size A4 (x ++ [0]) ∧ k + 1 + 1 ≤ c4 ∧ c4 ≤ maxLen from ⟨by have e : (x ++ [0]).map u8v = x.map u8v ++ [.int .u8 0] := (by rw [List.map_append]; rfl); unfold Bytes; rw [e]; exact hc4, hcc4, hcm4⟩); have H10 := Lib.hid (And.intro (H8.out.1.keep hw8) (And.intro (H8.out.2.1.keep hw8) (And.intro (H8.out.2.2.1.keep hw8) (H8.out.2.2.2.keep hw8)))); clear hc4 hcc4 hcm4 hb10 hw8))
  refine (get_no w10 A4 (x ++ [0]) (k + 1 + 1) c4 (by rw [List.length_append, HK.out.1]; rfl) HA4.out.2.1 (maxle HA4.out.2.2) HA4.out.1 (HI.out.1.keep H10.out.1.2.2) (by rw [List.length_append, HK.out.1]; have := HK.out.2; simp; omega) HX.out.2.2).mono ?_
  rintro e w11 ⟨rfl, hb⟩
  have H11 := Lib.hid (And.intro (H10.out.1.keep hb) (And.intro (H10.out.2.1.keep hb) (And.intro (H10.out.2.2.1.keep hb) (H10.out.2.2.2.keep hb))))
  clear hb ex hi0 hz0 hz1 hz2
  go_wp2_with ((with_reducible show wpList _ _ _ ((⟨none, _, _, _, _, _⟩ : Oper) :: _) _ _); refine wpList_store_msg w11 rfl (.tmp 13) (.tmp 70) rfl mz s0 rfl rfl ?_; intro w12 hB hW; have H12 := Lib.hid (And.intro (H11.out.1.keep hW) (And.intro (H11.out.2.1.keep hW) (And.intro (H11.out.2.2.1.keep hW) (H11.out.2.2.2.keep hW)))); clear hB hW; have ca0 := H12.out.1.1.cell 0; have ca1 := H12.out.1.1.cell 1; have ca2 := H12.out.1.1.cell 2; have ca3 := H12.out.1.1.cell 3; have ca4 := H12.out.1.1.cell 4; have ca5 := H12.out.1.1.cell 5; have ca6 := H12.out.1.1.cell 6; have ca7 := H12.out.1.1.cell 7; have ca8 := H12.out.1.1.cell 8; have ca9 := H12.out.1.1.cell 9; have ca10 := H12.out.1.1.cell 10; have ca11 := H12.out.1.1.cell 11; have ca12 := H12.out.1.1.cell 12; have ca13 := H12.out.1.1.cell 13; simp [mv] at ca0 ca1 ca2 ca3 ca4 ca5 ca6 ca7 ca8 ca9 ca10 ca11 ca12 ca13; have cg0 := H12.out.2.2.2.cell 0; have cg1 := H12.out.2.2.2.cell 1; have cg2 := H12.out.2.2.2.cell 2; have cg3 := H12.out.2.2.2.cell 3; have cg4 := H12.out.2.2.2.cell 4; have cg5 := H12.out.2.2.2.cell 5; have cg6 := H12.out.2.2.2.cell 6; have cg7 := H12.out.2.2.2.cell 7; have cg8 := H12.out.2.2.2.cell 8; have cg9 := H12.out.2.2.2.cell 9; have cg10 := H12.out.2.2.2.cell 10; have cg11 := H12.out.2.2.2.cell 11; have cg12 := H12.out.2.2.2.cell 12; have cg13 := H12.out.2.2.2.cell 13; simp [mv] at cg0 cg1 cg2 cg3 cg4 cg5 cg6 cg7 cg8 cg9 cg10 cg11 cg12 cg13)
  refine (same_any w12 m m s s1 (HM.out.1.keep H12.out.1.2.2) (H12.out.2.2.1.min HMM.out.1)).mono ?_
  rintro e w13 ⟨rfl, hb⟩
  rw [same_refl]
  have H13 := Lib.hid (And.intro (H12.out.1.keep hb) (H12.out.2.1.keep hb))
  clear hb ca0 ca1 ca2 ca3 ca4 ca5 ca6 ca7 ca8 ca9 ca10 ca11 ca12 ca13 cg0 cg1 cg2 cg3 cg4 cg5 cg6 cg7 cg8 cg9 cg10 cg11 cg12 cg13
  have cb0 := H13.out.1.2.1.cell 0
  have cb1 := H13.out.1.2.1.cell 1
  have cb2 := H13.out.1.2.1.cell 2
  have cb3 := H13.out.1.2.1.cell 3
  have cb4 := H13.out.1.2.1.cell 4
  have cb5 := H13.out.1.2.1.cell 5
  have cb6 := H13.out.1.2.1.cell 6
  have cb7 := H13.out.1.2.1.cell 7
  have cb8 := H13.out.1.2.1.cell 8
  have cb9 := H13.out.1.2.1.cell 9
  have cb10 := H13.out.1.2.1.cell 10
  have cb11 := H13.out.1.2.1.cell 11
  have cb12 := H13.out.1.2.1.cell 12
  have cb13 := H13.out.1.2.1.cell 13
  simp [mv] at cb0 cb1 cb2 cb3 cb4 cb5 cb6 cb7 cb8 cb9 cb10 cb11 cb12 cb13
  go_wp2_with fail
  refine (put_no w13 n t (HI.out.1.keep H13.out.1.2.2) (HM.out.2.keep H13.out.1.2.2) HNN.out).mono ?_
  rintro e w14 ⟨rfl, hb⟩
  have H14 := Lib.hid (H13.out.1.keep hb)
  clear hb cb0 cb1 cb2 cb3 cb4 cb5 cb6 cb7 cb8 cb9 cb10 cb11 cb12 cb13
  go_wp2_with fail
  refine wp_region_noPanic ?_
  refine wp_heldG (fun V => Two w bx m s n t V) [] (by kernel_rfl) ?hs0 ?rg0
  case hs0 =>
    exact H14.out.keep (nextN (Mem.start _) 1)
  case rg0 =>
  intro hHeld
  refine puG 0 ⟨some 93, .move (.tmp 16), 22, _, #[], none⟩ (v := ?_) ?_ (fun _ => by assumption) ?_
  rotate_left
  · intro w hSw
    try dsimp only at hSw
    go_simp
    try with_reducible rfl
  try simp only [Act.put, List.setIfInBounds_toArray, List.set_cons_zero, List.set_cons_succ]
  refine puG 1 ⟨some 94, .binOp BinOp.eql 22 (.tmp 93) (Operand.const (Value.int IntKind.i64 0)) 22, 4, _, #[⟨0, .data⟩], none⟩ (v := ?_) ?_ (fun _ => by assumption) ?_
  rotate_left
  · intro w hSw
    try dsimp only at hSw
    go_simp
    try with_reducible rfl
  try simp only [Act.put, List.setIfInBounds_toArray, List.set_cons_zero, List.set_cons_succ]
  refine puG 2 ⟨some 95, .move (.tmp 94), 4, _, #[⟨1, .data⟩], none⟩ (v := ?_) ?_ (fun _ => by assumption) ?_
  rotate_left
  · intro w hSw
    try dsimp only at hSw
    go_simp
    try with_reducible rfl
  try simp only [Act.put, List.setIfInBounds_toArray, List.set_cons_zero, List.set_cons_succ]
  refine ofG 3 ⟨some 96, .move (.tmp 7), 25, _, #[⟨2, .guard⟩], some (2, true)⟩ (fun _ => by assumption) ?_
  try simp only [Act.put, List.setIfInBounds_toArray, List.set_cons_zero, List.set_cons_succ]
  refine ofG 4 ⟨some 97, .convert 25 9 (.tmp 96), 9, _, #[⟨3, .data⟩, ⟨2, .guard⟩], some (2, true)⟩ (fun _ => by assumption) ?_
  try simp only [Act.put, List.setIfInBounds_toArray, List.set_cons_zero, List.set_cons_succ]
  refine ofG 5 ⟨some 98, .move (.tmp 15), 25, _, #[⟨2, .guard⟩], some (2, true)⟩ (fun _ => by assumption) ?_
  try simp only [Act.put, List.setIfInBounds_toArray, List.set_cons_zero, List.set_cons_succ]
  refine ofG 6 ⟨some 99, .convert 25 9 (.tmp 98), 9, _, #[⟨5, .data⟩, ⟨2, .guard⟩], some (2, true)⟩ (fun _ => by assumption) ?_
  try simp only [Act.put, List.setIfInBounds_toArray, List.set_cons_zero, List.set_cons_succ]
  refine ofG 7 ⟨some 100, .binOp BinOp.eql 9 (.tmp 97) (.tmp 99) 9, 4, _, #[⟨4, .data⟩, ⟨6, .data⟩, ⟨2, .guard⟩], some (2, true)⟩ (fun _ => by assumption) ?_
  try simp only [Act.put, List.setIfInBounds_toArray, List.set_cons_zero, List.set_cons_succ]
  refine ofG 8 ⟨some 101, .load 27 (.tmp 3), 27, _, #[⟨2, .guard⟩], some (2, true)⟩ (fun _ => by assumption) ?_
  try simp only [Act.put, List.setIfInBounds_toArray, List.set_cons_zero, List.set_cons_succ]
  refine ofG 9 ⟨some 102, .load 27 (.tmp 4), 27, _, #[⟨2, .guard⟩], some (2, true)⟩ (fun _ => by assumption) ?_
  try simp only [Act.put, List.setIfInBounds_toArray, List.set_cons_zero, List.set_cons_succ]
  refine ofG 10 ⟨some 103, .call { callee := Callee.value (Operand.func 18), args := #[.tmp 101, .tmp 102], argTypes := #[27, 27] }, 4, _, #[⟨8, .data⟩, ⟨9, .data⟩, ⟨2, .chain⟩, ⟨2, .guard⟩], some (2, true)⟩ (fun _ => by assumption) ?_
  try simp only [Act.put, List.setIfInBounds_toArray, List.set_cons_zero, List.set_cons_succ]
  refine ofG 11 ⟨some 104, .binOp BinOp.neq 4 (.tmp 100) (.tmp 103) 4, 4, _, #[⟨7, .data⟩, ⟨10, .data⟩, ⟨2, .guard⟩], some (2, true)⟩ (fun _ => by assumption) ?_
  try simp only [Act.put, List.setIfInBounds_toArray, List.set_cons_zero, List.set_cons_succ]
  refine puG 12 ⟨some 105, .pick (.tmp 95) (.tmp 104) (Operand.const (Value.bool false)), 4, _, #[⟨2, .data⟩, ⟨11, .data⟩], none⟩ (v := ?_) ?_ (fun _ => by assumption) ?_
  rotate_left
  · intro w hSw
    try dsimp only at hSw
    go_simp
    try with_reducible rfl
  try simp only [Act.put, List.setIfInBounds_toArray, List.set_cons_zero, List.set_cons_succ]
  refine wpAnyG_done (by kernel_rfl) ?_ _
  refine NoPanic.normal ?_
  have H15 := Lib.hid hHeld
  clear hHeld
  go_wp2_with fail
  refine (get_no w14.drew A b b.length c rfl HL.out.1 HL.out.2.1 ((HI.out.2.2.2.below H15.out.2.2).up H15.out.2.2.size) (HI.out.1.keep H15.out.2.2) (by have := HL.out.2.2; omega) HY.out).mono ?_
  rintro e v1 ⟨rfl, hb⟩
  have K1 := Lib.hid (H15.out.keep hb)
  clear hb
  go_wp2_with ((with_reducible show wpList _ _ _ ((⟨none, .store 27 (.tmp 17) (.tmp 109), _, _, _, _⟩ : Oper) :: _) _ _); refine wpList_store_msg v1 rfl (.tmp 17) (.tmp 109) rfl mz s0 rfl rfl ?_; intro v2 hB hW; have K2 := Lib.hid (K1.out.keep hW); clear hB hW)
  refine (works_any v2 (HI.out.1.keep K2.out.2.2)).mono ?_
  rintro e v3 ⟨rfl, hb⟩
  have K3 := Lib.hid (next K2.out.2.2 hb)
  clear hb
  go_wp2_with fail
  go_ret
  exact ⟨rfl, K3.out⟩
set_option maxRecDepth 100000 in
set_option maxHeartbeats 16000000 in
theorem back_yny (w : World) (hT : HasT w) (m : Msg) (s : Sl) (hm : MIn0 w w.heap.size m s) (n : Msg) (t : Sl) (hn : MIn0 w w.heap.size n t) (A : Option Addr) (b : List UInt8) (c : Nat) (hle : b.length ≤ c) (hmx : c ≤ maxLen) (hb : Bytes w w.heap.size A b) (hf : few m = true) (hg : few n = true) (hbl : b.length ≤ 5000) (x : List UInt8) (hmm : may m = true) (hx : Wi.bytes m = x) (hnn : may n = false) (y : Msg) (hy : Wi.get b = some y) :
    Calls Tryd.prog 5 #[.agg (mv m s), .agg (mv n t), .slice A b.length c] w fun e w' => e = .returned (.bool true) ∧ Below w.heap.size w w' := by
  obtain ⟨bx, hbx⟩ : ∃ bx, w.heap.size = bx := ⟨_, rfl⟩
  obtain ⟨w1, hw1⟩ : ∃ x : World, (w.alloc (.cells (mv m s) 27)).alloc (.cells (mv n t) 27) = x := ⟨_, rfl⟩
  have H1 := Lib.hid (show Two w bx m s n t w1 by
    rw [← hw1, ← hbx]
    refine ⟨(Blk.new w _ _).keep (nextA (Mem.start _) _), ?_, nextA (nextA (Mem.start w) _) _⟩
    have := Blk.new (w.alloc (.cells (mv m s) 27)) 27 (mv n t)
    rw [World.size_alloc] at this; exact this)
  have HI := Lib.hid (And.intro hT (And.intro hm (And.intro hn hb)))
  have HF := Lib.hid (And.intro hf hg)
  have HM := Lib.hid (And.intro (hm.small hf) (hn.small hg))
  have HL := Lib.hid (And.intro hle (And.intro (maxle hmx) hbl))
  have dl : decide ((5000 : Int) < ((b.length : Nat) : Int)) = false := decide_eq_false (by omega)
  have HMM := Lib.hid (And.intro hmm hx)
  have HX := Lib.hid (show Wi.get x = some m ∧ Wi.get (x.take (x.length - 1)) = none ∧ Wi.get (x ++ [0]) = none by
    refine ⟨by rw [← hx]; exact get_put hmm, get_fewer hmm (by rw [← hx]; exact bytes_ne m) hx, by rw [← hx]; exact get_more hmm 0⟩)
  have hne : x ≠ [] := by rw [← hx]; exact bytes_ne m
  have hps := List.length_pos_iff.2 hne
  obtain ⟨k, hk⟩ : ∃ k, x.length = k + 1 := ⟨x.length - 1, by omega⟩
  have HK := Lib.hid (show x.length = k + 1 ∧ k + 1 ≤ 800000 by rw [← hk, ← hx]; exact ⟨rfl, bytes_le ((may_iff m).1 hmm)⟩)
  clear hmm hx hk hne hps
  have HNN := Lib.hid hnn
  clear hnn
  have HY := Lib.hid hy
  clear hy
  have ca0 := H1.out.1.cell 0
  have ca1 := H1.out.1.cell 1
  have ca2 := H1.out.1.cell 2
  have ca3 := H1.out.1.cell 3
  have ca4 := H1.out.1.cell 4
  have ca5 := H1.out.1.cell 5
  have ca6 := H1.out.1.cell 6
  have ca7 := H1.out.1.cell 7
  have ca8 := H1.out.1.cell 8
  have ca9 := H1.out.1.cell 9
  have ca10 := H1.out.1.cell 10
  have ca11 := H1.out.1.cell 11
  have ca12 := H1.out.1.cell 12
  have ca13 := H1.out.1.cell 13
  simp [mv] at ca0 ca1 ca2 ca3 ca4 ca5 ca6 ca7 ca8 ca9 ca10 ca11 ca12 ca13
  clear hT hm hn hb hle hmx hf hg hbl
  go_enter Tryd.func5, Tryd.ntmps5
  go_wp2_with fail
  refine (few_any w1 m s (HI.out.2.1.keep H1.out.2.2)).mono ?_
  rintro e w2 ⟨rfl, hb⟩
  rw [HF.out.1]
  have H2 := Lib.hid (H1.out.keep hb)
  clear hb ca0 ca1 ca2 ca3 ca4 ca5 ca6 ca7 ca8 ca9 ca10 ca11 ca12 ca13 hw1 hbx
  have cb0 := H2.out.2.1.cell 0
  have cb1 := H2.out.2.1.cell 1
  have cb2 := H2.out.2.1.cell 2
  have cb3 := H2.out.2.1.cell 3
  have cb4 := H2.out.2.1.cell 4
  have cb5 := H2.out.2.1.cell 5
  have cb6 := H2.out.2.1.cell 6
  have cb7 := H2.out.2.1.cell 7
  have cb8 := H2.out.2.1.cell 8
  have cb9 := H2.out.2.1.cell 9
  have cb10 := H2.out.2.1.cell 10
  have cb11 := H2.out.2.1.cell 11
  have cb12 := H2.out.2.1.cell 12
  have cb13 := H2.out.2.1.cell 13
  simp [mv] at cb0 cb1 cb2 cb3 cb4 cb5 cb6 cb7 cb8 cb9 cb10 cb11 cb12 cb13
  go_wp2_with fail
  refine (few_any w2 n t (HI.out.2.2.1.keep H2.out.2.2)).mono ?_
  rintro e w3 ⟨rfl, hb⟩
  rw [HF.out.2]
  have H3 := Lib.hid (H2.out.keep hb)
  clear hb cb0 cb1 cb2 cb3 cb4 cb5 cb6 cb7 cb8 cb9 cb10 cb11 cb12 cb13
  have cc0 := H3.out.1.cell 0
  have cc1 := H3.out.1.cell 1
  have cc2 := H3.out.1.cell 2
  have cc3 := H3.out.1.cell 3
  have cc4 := H3.out.1.cell 4
  have cc5 := H3.out.1.cell 5
  have cc6 := H3.out.1.cell 6
  have cc7 := H3.out.1.cell 7
  have cc8 := H3.out.1.cell 8
  have cc9 := H3.out.1.cell 9
  have cc10 := H3.out.1.cell 10
  have cc11 := H3.out.1.cell 11
  have cc12 := H3.out.1.cell 12
  have cc13 := H3.out.1.cell 13
  simp [mv] at cc0 cc1 cc2 cc3 cc4 cc5 cc6 cc7 cc8 cc9 cc10 cc11 cc12 cc13
  go_wp2_with fail
  refine (put_yes w3 m s x (HI.out.1.keep H3.out.2.2) (HM.out.1.keep H3.out.2.2) HMM.out.1 HMM.out.2).mono ?_
  rintro e w4 ⟨A1, c1, rfl, ho, hb⟩
  rw [HK.out.1]
  have hl1 := ho.le
  have hl2 := ho.max
  rw [List.length_map, HK.out.1] at hl1
  have HC1 := Lib.hid (And.intro hl1 (maxle hl2))
  have H4 := Lib.hid (And.intro (H3.out.keep hb) ho)
  clear hb ho cc0 cc1 cc2 cc3 cc4 cc5 cc6 cc7 cc8 cc9 cc10 cc11 cc12 cc13 hl1 hl2
  have hk8 : (k : Int) ≤ 800000 := by have := HK.out.2; omega
  have hk0 : (0 : Int) ≤ (k : Int) := by omega
  have e0 : (((k : Int) + 1) == 0) = false := by rw [beq_eq_false_iff_ne]; omega
  have e1 : (k + 1 == 0) = false := by rw [beq_eq_false_iff_ne]; omega
  have hkc : (k : Int) ≤ (c1 : Int) := by have := HC1.out.1; omega
  have hcm : (c1 : Int) ≤ 9223372036854775807 := by have := HC1.out.2; omega
  go_wp2_with fail
  refine (get_yes w4 A1 x (k + 1) c1 HK.out.1.symm HC1.out.1 HC1.out.2 H4.out.2.bytes (HI.out.1.keep H4.out.1.2.2) (by rw [HK.out.1]; have := HK.out.2; omega) m HX.out.1).mono ?_
  rintro e w5 ⟨s1, rfl, hr, hb⟩
  have H5 := Lib.hid (And.intro (H4.out.1.keep hb) (And.intro (H4.out.2.keep hb) hr))
  clear hb hr e0 e1
  go_wp2_with ((with_reducible show wpList _ _ _ ((⟨none, .store 27 (.tmp 9) (.tmp 52), _, _, _, _⟩ : Oper) :: _) _ _); refine wpList_store_msg w5 rfl (.tmp 9) (.tmp 52) rfl (m) s1 rfl rfl ?_; intro w6 hB hW; have H6 := Lib.hid (And.intro (H5.out.1.keep hW) (And.intro (H5.out.2.1.keep hW) (And.intro (H5.out.2.2.keep hW) hB))); clear hB hW; obtain ⟨g1, hg1⟩ : ∃ x, w5.heap.size = x := ⟨_, rfl⟩; rw [hg1] at H6 ⊢; clear hg1)
  refine (get_no w6 A1 (x.take k) k c1 (by rw [List.length_take, HK.out.1]; omega) (by have := HC1.out.1; omega) HC1.out.2 (H6.out.2.1.bytes.take k) (HI.out.1.keep H6.out.1.2.2) (by rw [List.length_take, HK.out.1]; have := HK.out.2; omega) (by have := HX.out.2.1; rw [HK.out.1] at this; exact this)).mono ?_
  rintro e w7 ⟨rfl, hb⟩
  have H7 := Lib.hid (And.intro (H6.out.1.keep hb) (And.intro (H6.out.2.1.keep hb) (And.intro (H6.out.2.2.1.keep hb) (H6.out.2.2.2.keep hb))))
  clear hb
  obtain ⟨i0, hi0, hz0, hz1, hz2⟩ := info_parts u8info17
  go_wp2_with (first
    | ((with_reducible show wpList _ _ _ ((⟨none, _, _, _, _, _⟩ : Oper) :: _) _ _); refine wpList_store_msg w7 rfl (.tmp 11) (.tmp 61) rfl mz s0 rfl rfl ?_; intro w8 hB hW; have H8 := Lib.hid (And.intro (H7.out.1.keep hW) (And.intro (H7.out.2.1.keep hW) (And.intro (H7.out.2.2.1.keep hW) (H7.out.2.2.2.keep hW)))); clear hB hW; have ex := run_str (P := Tryd.prog) w8 25 5 Tryd.underlying25 Tryd.underlying5 H8.out.2.1.bytes c1 9 Tryd.underlying9; rw [HK.out.1] at ex)
    | ((with_reducible show wpList _ _ _ ((⟨some 66, _, _, _, _, _⟩ : Oper) :: _) _ _); refine wpList_bytesOfB w8 (by rfl) 9 25 (.tmp 65) rfl 5 Tryd.underlying9 Tryd.underlying25 Tryd.underlying5 x (by rw [HK.out.1]; have := HK.out.2; unfold maxLen; omega) rfl ?_; intro ck w9 hck hr hbl hs; rw [HK.out.1] at hck ⊢; have H9 := Lib.hid (And.intro hck (And.intro hr hbl)); clear hck hr hbl hs; obtain ⟨g3, hg3⟩ : ∃ q, w8.heap.size = q := ⟨_, rfl⟩; rw [hg3] at H9 ⊢; have HG3 := Lib.hid hg3; clear hg3)
    | ((with_reducible show wpList _ _ _ ((⟨some 68, _, _, _, _, _⟩ : Oper) :: _) _ _); refine wpList_app1m _ rfl (.tmp 66) (.tmp 67) 25 5 rfl i0 _ 1 Tryd.underlying25 hi0 hz0 hz1 hz2 rfl g3 (k + 1) ck (x.map u8v) rfl (by rw [List.length_map]; exact HK.out.1) (H9.out.2.1.keep (nextA (Mem.start w9) _)) ⟨w9.heap.size, 0, none⟩ 1 (.int .u8 0) rfl (by rw [new_cell]; rfl) rfl (by have := HK.out.2; unfold maxLen; omega) (by have := HK.out.2; omega) ?_; intro A4 c4 w10 hc4 hcc4 hcm4 hb10; have hw8 : Below w8.heap.size w8 w10 := (by have h9 := H9.out.2.2; have h10 := (nextA (Mem.start w9) (.cells #[.int .u8 0] 5)).mono (show g3 ≤ w9.heap.size from by have := h9.size; have := HG3.out; omega); rw [HG3.out]; exact (h9.trans h10).trans hb10); have HA4 := Lib.hid (show Bytes w10 w10.heap.size A4 (x ++ [0]) ∧ k + 1 + 1 ≤ c4 ∧ c4 ≤ maxLen from ⟨by have e : (x ++ [0]).map u8v = x.map u8v ++ [.int .u8 0] := (by rw [List.map_append]; rfl); unfold Bytes; rw [e]; exact hc4, hcc4, hcm4⟩); have H10 := Lib.hid (And.intro (H8.out.1.keep hw8) (And.intro (H8.out.2.1.keep hw8) (And.intro (H8.out.2.2.1.keep hw8) (H8.out.2.2.2.keep hw8)))); clear hc4 hcc4 hcm4 hb10 hw8))
  refine (get_no w10 A4 (x ++ [0]) (k + 1 + 1) c4 (by rw [List.length_append, HK.out.1]; rfl) HA4.out.2.1 (maxle HA4.out.2.2) HA4.out.1 (HI.out.1.keep H10.out.1.2.2) (by rw [List.length_append, HK.out.1]; have := HK.out.2; simp; omega) HX.out.2.2).mono ?_
  rintro e w11 ⟨rfl, hb⟩
  have H11 := Lib.hid (And.intro (H10.out.1.keep hb) (And.intro (H10.out.2.1.keep hb) (And.intro (H10.out.2.2.1.keep hb) (H10.out.2.2.2.keep hb))))
  clear hb ex hi0 hz0 hz1 hz2
  go_wp2_with ((with_reducible show wpList _ _ _ ((⟨none, _, _, _, _, _⟩ : Oper) :: _) _ _); refine wpList_store_msg w11 rfl (.tmp 13) (.tmp 70) rfl mz s0 rfl rfl ?_; intro w12 hB hW; have H12 := Lib.hid (And.intro (H11.out.1.keep hW) (And.intro (H11.out.2.1.keep hW) (And.intro (H11.out.2.2.1.keep hW) (H11.out.2.2.2.keep hW)))); clear hB hW; have ca0 := H12.out.1.1.cell 0; have ca1 := H12.out.1.1.cell 1; have ca2 := H12.out.1.1.cell 2; have ca3 := H12.out.1.1.cell 3; have ca4 := H12.out.1.1.cell 4; have ca5 := H12.out.1.1.cell 5; have ca6 := H12.out.1.1.cell 6; have ca7 := H12.out.1.1.cell 7; have ca8 := H12.out.1.1.cell 8; have ca9 := H12.out.1.1.cell 9; have ca10 := H12.out.1.1.cell 10; have ca11 := H12.out.1.1.cell 11; have ca12 := H12.out.1.1.cell 12; have ca13 := H12.out.1.1.cell 13; simp [mv] at ca0 ca1 ca2 ca3 ca4 ca5 ca6 ca7 ca8 ca9 ca10 ca11 ca12 ca13; have cg0 := H12.out.2.2.2.cell 0; have cg1 := H12.out.2.2.2.cell 1; have cg2 := H12.out.2.2.2.cell 2; have cg3 := H12.out.2.2.2.cell 3; have cg4 := H12.out.2.2.2.cell 4; have cg5 := H12.out.2.2.2.cell 5; have cg6 := H12.out.2.2.2.cell 6; have cg7 := H12.out.2.2.2.cell 7; have cg8 := H12.out.2.2.2.cell 8; have cg9 := H12.out.2.2.2.cell 9; have cg10 := H12.out.2.2.2.cell 10; have cg11 := H12.out.2.2.2.cell 11; have cg12 := H12.out.2.2.2.cell 12; have cg13 := H12.out.2.2.2.cell 13; simp [mv] at cg0 cg1 cg2 cg3 cg4 cg5 cg6 cg7 cg8 cg9 cg10 cg11 cg12 cg13)
  refine (same_any w12 m m s s1 (HM.out.1.keep H12.out.1.2.2) (H12.out.2.2.1.min HMM.out.1)).mono ?_
  rintro e w13 ⟨rfl, hb⟩
  rw [same_refl]
  have H13 := Lib.hid (And.intro (H12.out.1.keep hb) (H12.out.2.1.keep hb))
  clear hb ca0 ca1 ca2 ca3 ca4 ca5 ca6 ca7 ca8 ca9 ca10 ca11 ca12 ca13 cg0 cg1 cg2 cg3 cg4 cg5 cg6 cg7 cg8 cg9 cg10 cg11 cg12 cg13
  have cb0 := H13.out.1.2.1.cell 0
  have cb1 := H13.out.1.2.1.cell 1
  have cb2 := H13.out.1.2.1.cell 2
  have cb3 := H13.out.1.2.1.cell 3
  have cb4 := H13.out.1.2.1.cell 4
  have cb5 := H13.out.1.2.1.cell 5
  have cb6 := H13.out.1.2.1.cell 6
  have cb7 := H13.out.1.2.1.cell 7
  have cb8 := H13.out.1.2.1.cell 8
  have cb9 := H13.out.1.2.1.cell 9
  have cb10 := H13.out.1.2.1.cell 10
  have cb11 := H13.out.1.2.1.cell 11
  have cb12 := H13.out.1.2.1.cell 12
  have cb13 := H13.out.1.2.1.cell 13
  simp [mv] at cb0 cb1 cb2 cb3 cb4 cb5 cb6 cb7 cb8 cb9 cb10 cb11 cb12 cb13
  go_wp2_with fail
  refine (put_no w13 n t (HI.out.1.keep H13.out.1.2.2) (HM.out.2.keep H13.out.1.2.2) HNN.out).mono ?_
  rintro e w14 ⟨rfl, hb⟩
  have H14 := Lib.hid (H13.out.1.keep hb)
  clear hb cb0 cb1 cb2 cb3 cb4 cb5 cb6 cb7 cb8 cb9 cb10 cb11 cb12 cb13
  go_wp2_with fail
  refine wp_region_noPanic ?_
  refine wp_heldG (fun V => Two w bx m s n t V) [] (by kernel_rfl) ?hs0 ?rg0
  case hs0 =>
    exact H14.out.keep (nextN (Mem.start _) 1)
  case rg0 =>
  intro hHeld
  refine puG 0 ⟨some 93, .move (.tmp 16), 22, _, #[], none⟩ (v := ?_) ?_ (fun _ => by assumption) ?_
  rotate_left
  · intro w hSw
    try dsimp only at hSw
    go_simp
    try with_reducible rfl
  try simp only [Act.put, List.setIfInBounds_toArray, List.set_cons_zero, List.set_cons_succ]
  refine puG 1 ⟨some 94, .binOp BinOp.eql 22 (.tmp 93) (Operand.const (Value.int IntKind.i64 0)) 22, 4, _, #[⟨0, .data⟩], none⟩ (v := ?_) ?_ (fun _ => by assumption) ?_
  rotate_left
  · intro w hSw
    try dsimp only at hSw
    go_simp
    try with_reducible rfl
  try simp only [Act.put, List.setIfInBounds_toArray, List.set_cons_zero, List.set_cons_succ]
  refine puG 2 ⟨some 95, .move (.tmp 94), 4, _, #[⟨1, .data⟩], none⟩ (v := ?_) ?_ (fun _ => by assumption) ?_
  rotate_left
  · intro w hSw
    try dsimp only at hSw
    go_simp
    try with_reducible rfl
  try simp only [Act.put, List.setIfInBounds_toArray, List.set_cons_zero, List.set_cons_succ]
  refine ofG 3 ⟨some 96, .move (.tmp 7), 25, _, #[⟨2, .guard⟩], some (2, true)⟩ (fun _ => by assumption) ?_
  try simp only [Act.put, List.setIfInBounds_toArray, List.set_cons_zero, List.set_cons_succ]
  refine ofG 4 ⟨some 97, .convert 25 9 (.tmp 96), 9, _, #[⟨3, .data⟩, ⟨2, .guard⟩], some (2, true)⟩ (fun _ => by assumption) ?_
  try simp only [Act.put, List.setIfInBounds_toArray, List.set_cons_zero, List.set_cons_succ]
  refine ofG 5 ⟨some 98, .move (.tmp 15), 25, _, #[⟨2, .guard⟩], some (2, true)⟩ (fun _ => by assumption) ?_
  try simp only [Act.put, List.setIfInBounds_toArray, List.set_cons_zero, List.set_cons_succ]
  refine ofG 6 ⟨some 99, .convert 25 9 (.tmp 98), 9, _, #[⟨5, .data⟩, ⟨2, .guard⟩], some (2, true)⟩ (fun _ => by assumption) ?_
  try simp only [Act.put, List.setIfInBounds_toArray, List.set_cons_zero, List.set_cons_succ]
  refine ofG 7 ⟨some 100, .binOp BinOp.eql 9 (.tmp 97) (.tmp 99) 9, 4, _, #[⟨4, .data⟩, ⟨6, .data⟩, ⟨2, .guard⟩], some (2, true)⟩ (fun _ => by assumption) ?_
  try simp only [Act.put, List.setIfInBounds_toArray, List.set_cons_zero, List.set_cons_succ]
  refine ofG 8 ⟨some 101, .load 27 (.tmp 3), 27, _, #[⟨2, .guard⟩], some (2, true)⟩ (fun _ => by assumption) ?_
  try simp only [Act.put, List.setIfInBounds_toArray, List.set_cons_zero, List.set_cons_succ]
  refine ofG 9 ⟨some 102, .load 27 (.tmp 4), 27, _, #[⟨2, .guard⟩], some (2, true)⟩ (fun _ => by assumption) ?_
  try simp only [Act.put, List.setIfInBounds_toArray, List.set_cons_zero, List.set_cons_succ]
  refine ofG 10 ⟨some 103, .call { callee := Callee.value (Operand.func 18), args := #[.tmp 101, .tmp 102], argTypes := #[27, 27] }, 4, _, #[⟨8, .data⟩, ⟨9, .data⟩, ⟨2, .chain⟩, ⟨2, .guard⟩], some (2, true)⟩ (fun _ => by assumption) ?_
  try simp only [Act.put, List.setIfInBounds_toArray, List.set_cons_zero, List.set_cons_succ]
  refine ofG 11 ⟨some 104, .binOp BinOp.neq 4 (.tmp 100) (.tmp 103) 4, 4, _, #[⟨7, .data⟩, ⟨10, .data⟩, ⟨2, .guard⟩], some (2, true)⟩ (fun _ => by assumption) ?_
  try simp only [Act.put, List.setIfInBounds_toArray, List.set_cons_zero, List.set_cons_succ]
  refine puG 12 ⟨some 105, .pick (.tmp 95) (.tmp 104) (Operand.const (Value.bool false)), 4, _, #[⟨2, .data⟩, ⟨11, .data⟩], none⟩ (v := ?_) ?_ (fun _ => by assumption) ?_
  rotate_left
  · intro w hSw
    try dsimp only at hSw
    go_simp
    try with_reducible rfl
  try simp only [Act.put, List.setIfInBounds_toArray, List.set_cons_zero, List.set_cons_succ]
  refine wpAnyG_done (by kernel_rfl) ?_ _
  refine NoPanic.normal ?_
  have H15 := Lib.hid hHeld
  clear hHeld
  go_wp2_with fail
  refine (get_yes w14.drew A b b.length c rfl HL.out.1 HL.out.2.1 ((HI.out.2.2.2.below H15.out.2.2).up H15.out.2.2.size) (HI.out.1.keep H15.out.2.2) (by have := HL.out.2.2; omega) y HY.out).mono ?_
  rintro e v1 ⟨sy, rfl, hr, hb⟩
  have K1 := Lib.hid (And.intro (H15.out.keep hb) hr)
  clear hb hr
  go_wp2_with ((with_reducible show wpList _ _ _ ((⟨none, .store 27 (.tmp 17) (.tmp 109), _, _, _, _⟩ : Oper) :: _) _ _); refine wpList_store_msg v1 rfl (.tmp 17) (.tmp 109) rfl y sy rfl rfl ?_; intro v2 hB hW; have K2 := Lib.hid (And.intro (K1.out.1.keep hW) (And.intro (K1.out.2.keep hW) hB)); clear hB hW; obtain ⟨gy, hgy⟩ : ∃ x, v1.heap.size = x := ⟨_, rfl⟩; rw [hgy] at K2 ⊢; clear hgy; have cy0 := K2.out.2.2.cell 0; have cy1 := K2.out.2.2.cell 1; have cy2 := K2.out.2.2.cell 2; have cy3 := K2.out.2.2.cell 3; have cy4 := K2.out.2.2.cell 4; have cy5 := K2.out.2.2.cell 5; have cy6 := K2.out.2.2.cell 6; have cy7 := K2.out.2.2.cell 7; have cy8 := K2.out.2.2.cell 8; have cy9 := K2.out.2.2.cell 9; have cy10 := K2.out.2.2.cell 10; have cy11 := K2.out.2.2.cell 11; have cy12 := K2.out.2.2.cell 12; have cy13 := K2.out.2.2.cell 13; simp [mv] at cy0 cy1 cy2 cy3 cy4 cy5 cy6 cy7 cy8 cy9 cy10 cy11 cy12 cy13)
  refine (put_yes v2 y sy b (HI.out.1.keep K2.out.1.2.2) (K2.out.2.1.min (put_get HY.out).1) (put_get HY.out).1 (put_get HY.out).2).mono ?_
  rintro e v3 ⟨Az, cz, rfl, ho, hb⟩
  have K3 := Lib.hid (And.intro (next K2.out.1.2.2 hb) ho)
  clear hb ho cy0 cy1 cy2 cy3 cy4 cy5 cy6 cy7 cy8 cy9 cy10 cy11 cy12 cy13
  have ez := run_str (P := Tryd.prog) v3 25 5 Tryd.underlying25 Tryd.underlying5 K3.out.2.bytes cz 9 Tryd.underlying9
  have eb := run_str (P := Tryd.prog) v3 25 5 Tryd.underlying25 Tryd.underlying5 (HI.out.2.2.2.below K3.out.1) c 9 Tryd.underlying9
  go_wp2_with fail
  refine (works_any v3 (HI.out.1.keep K3.out.1)).mono ?_
  rintro e v4 ⟨rfl, hb⟩
  have K4 := Lib.hid (next K3.out.1 hb)
  clear hb ez eb
  go_wp2_with fail
  go_ret
  exact ⟨rfl, K4.out⟩
set_option maxRecDepth 100000 in
set_option maxHeartbeats 16000000 in
theorem back_yyn (w : World) (hT : HasT w) (m : Msg) (s : Sl) (hm : MIn0 w w.heap.size m s) (n : Msg) (t : Sl) (hn : MIn0 w w.heap.size n t) (A : Option Addr) (b : List UInt8) (c : Nat) (hle : b.length ≤ c) (hmx : c ≤ maxLen) (hb : Bytes w w.heap.size A b) (hf : few m = true) (hg : few n = true) (hbl : b.length ≤ 5000) (x : List UInt8) (hmm : may m = true) (hx : Wi.bytes m = x) (z : List UInt8) (hnn : may n = true) (hz : Wi.bytes n = z) (hy : Wi.get b = none) :
    Calls Tryd.prog 5 #[.agg (mv m s), .agg (mv n t), .slice A b.length c] w fun e w' => e = .returned (.bool true) ∧ Below w.heap.size w w' := by
  obtain ⟨bx, hbx⟩ : ∃ bx, w.heap.size = bx := ⟨_, rfl⟩
  obtain ⟨w1, hw1⟩ : ∃ x : World, (w.alloc (.cells (mv m s) 27)).alloc (.cells (mv n t) 27) = x := ⟨_, rfl⟩
  have H1 := Lib.hid (show Two w bx m s n t w1 by
    rw [← hw1, ← hbx]
    refine ⟨(Blk.new w _ _).keep (nextA (Mem.start _) _), ?_, nextA (nextA (Mem.start w) _) _⟩
    have := Blk.new (w.alloc (.cells (mv m s) 27)) 27 (mv n t)
    rw [World.size_alloc] at this; exact this)
  have HI := Lib.hid (And.intro hT (And.intro hm (And.intro hn hb)))
  have HF := Lib.hid (And.intro hf hg)
  have HM := Lib.hid (And.intro (hm.small hf) (hn.small hg))
  have HL := Lib.hid (And.intro hle (And.intro (maxle hmx) hbl))
  have dl : decide ((5000 : Int) < ((b.length : Nat) : Int)) = false := decide_eq_false (by omega)
  have HMM := Lib.hid (And.intro hmm hx)
  have HX := Lib.hid (show Wi.get x = some m ∧ Wi.get (x.take (x.length - 1)) = none ∧ Wi.get (x ++ [0]) = none by
    refine ⟨by rw [← hx]; exact get_put hmm, get_fewer hmm (by rw [← hx]; exact bytes_ne m) hx, by rw [← hx]; exact get_more hmm 0⟩)
  have hne : x ≠ [] := by rw [← hx]; exact bytes_ne m
  have hps := List.length_pos_iff.2 hne
  obtain ⟨k, hk⟩ : ∃ k, x.length = k + 1 := ⟨x.length - 1, by omega⟩
  have HK := Lib.hid (show x.length = k + 1 ∧ k + 1 ≤ 800000 by rw [← hk, ← hx]; exact ⟨rfl, bytes_le ((may_iff m).1 hmm)⟩)
  clear hmm hx hk hne hps
  have HNN := Lib.hid (And.intro hnn hz)
  obtain ⟨qq, hqq⟩ : ∃ qq, same m n = qq := ⟨_, rfl⟩
  have HQ := Lib.hid (show ((str x).toList == (str z).toList) = qq ∧ same m n = qq by
    refine ⟨?_, hqq⟩
    rw [← hqq, str_beq2, Bool.eq_iff_iff, decide_eq_true_iff, same_iff, ← HMM.out.2, ← hz]
    exact ⟨fun h => bytes_inj HMM.out.1 hnn h, fun h => by rw [h]⟩)
  clear hnn hz hqq
  have HY := Lib.hid hy
  clear hy
  have ca0 := H1.out.1.cell 0
  have ca1 := H1.out.1.cell 1
  have ca2 := H1.out.1.cell 2
  have ca3 := H1.out.1.cell 3
  have ca4 := H1.out.1.cell 4
  have ca5 := H1.out.1.cell 5
  have ca6 := H1.out.1.cell 6
  have ca7 := H1.out.1.cell 7
  have ca8 := H1.out.1.cell 8
  have ca9 := H1.out.1.cell 9
  have ca10 := H1.out.1.cell 10
  have ca11 := H1.out.1.cell 11
  have ca12 := H1.out.1.cell 12
  have ca13 := H1.out.1.cell 13
  simp [mv] at ca0 ca1 ca2 ca3 ca4 ca5 ca6 ca7 ca8 ca9 ca10 ca11 ca12 ca13
  clear hT hm hn hb hle hmx hf hg hbl
  go_enter Tryd.func5, Tryd.ntmps5
  go_wp2_with fail
  refine (few_any w1 m s (HI.out.2.1.keep H1.out.2.2)).mono ?_
  rintro e w2 ⟨rfl, hb⟩
  rw [HF.out.1]
  have H2 := Lib.hid (H1.out.keep hb)
  clear hb ca0 ca1 ca2 ca3 ca4 ca5 ca6 ca7 ca8 ca9 ca10 ca11 ca12 ca13 hw1 hbx
  have cb0 := H2.out.2.1.cell 0
  have cb1 := H2.out.2.1.cell 1
  have cb2 := H2.out.2.1.cell 2
  have cb3 := H2.out.2.1.cell 3
  have cb4 := H2.out.2.1.cell 4
  have cb5 := H2.out.2.1.cell 5
  have cb6 := H2.out.2.1.cell 6
  have cb7 := H2.out.2.1.cell 7
  have cb8 := H2.out.2.1.cell 8
  have cb9 := H2.out.2.1.cell 9
  have cb10 := H2.out.2.1.cell 10
  have cb11 := H2.out.2.1.cell 11
  have cb12 := H2.out.2.1.cell 12
  have cb13 := H2.out.2.1.cell 13
  simp [mv] at cb0 cb1 cb2 cb3 cb4 cb5 cb6 cb7 cb8 cb9 cb10 cb11 cb12 cb13
  go_wp2_with fail
  refine (few_any w2 n t (HI.out.2.2.1.keep H2.out.2.2)).mono ?_
  rintro e w3 ⟨rfl, hb⟩
  rw [HF.out.2]
  have H3 := Lib.hid (H2.out.keep hb)
  clear hb cb0 cb1 cb2 cb3 cb4 cb5 cb6 cb7 cb8 cb9 cb10 cb11 cb12 cb13
  have cc0 := H3.out.1.cell 0
  have cc1 := H3.out.1.cell 1
  have cc2 := H3.out.1.cell 2
  have cc3 := H3.out.1.cell 3
  have cc4 := H3.out.1.cell 4
  have cc5 := H3.out.1.cell 5
  have cc6 := H3.out.1.cell 6
  have cc7 := H3.out.1.cell 7
  have cc8 := H3.out.1.cell 8
  have cc9 := H3.out.1.cell 9
  have cc10 := H3.out.1.cell 10
  have cc11 := H3.out.1.cell 11
  have cc12 := H3.out.1.cell 12
  have cc13 := H3.out.1.cell 13
  simp [mv] at cc0 cc1 cc2 cc3 cc4 cc5 cc6 cc7 cc8 cc9 cc10 cc11 cc12 cc13
  go_wp2_with fail
  refine (put_yes w3 m s x (HI.out.1.keep H3.out.2.2) (HM.out.1.keep H3.out.2.2) HMM.out.1 HMM.out.2).mono ?_
  rintro e w4 ⟨A1, c1, rfl, ho, hb⟩
  rw [HK.out.1]
  have hl1 := ho.le
  have hl2 := ho.max
  rw [List.length_map, HK.out.1] at hl1
  have HC1 := Lib.hid (And.intro hl1 (maxle hl2))
  have H4 := Lib.hid (And.intro (H3.out.keep hb) ho)
  clear hb ho cc0 cc1 cc2 cc3 cc4 cc5 cc6 cc7 cc8 cc9 cc10 cc11 cc12 cc13 hl1 hl2
  have hk8 : (k : Int) ≤ 800000 := by have := HK.out.2; omega
  have hk0 : (0 : Int) ≤ (k : Int) := by omega
  have e0 : (((k : Int) + 1) == 0) = false := by rw [beq_eq_false_iff_ne]; omega
  have e1 : (k + 1 == 0) = false := by rw [beq_eq_false_iff_ne]; omega
  have hkc : (k : Int) ≤ (c1 : Int) := by have := HC1.out.1; omega
  have hcm : (c1 : Int) ≤ 9223372036854775807 := by have := HC1.out.2; omega
  go_wp2_with fail
  refine (get_yes w4 A1 x (k + 1) c1 HK.out.1.symm HC1.out.1 HC1.out.2 H4.out.2.bytes (HI.out.1.keep H4.out.1.2.2) (by rw [HK.out.1]; have := HK.out.2; omega) m HX.out.1).mono ?_
  rintro e w5 ⟨s1, rfl, hr, hb⟩
  have H5 := Lib.hid (And.intro (H4.out.1.keep hb) (And.intro (H4.out.2.keep hb) hr))
  clear hb hr e0 e1
  go_wp2_with ((with_reducible show wpList _ _ _ ((⟨none, .store 27 (.tmp 9) (.tmp 52), _, _, _, _⟩ : Oper) :: _) _ _); refine wpList_store_msg w5 rfl (.tmp 9) (.tmp 52) rfl (m) s1 rfl rfl ?_; intro w6 hB hW; have H6 := Lib.hid (And.intro (H5.out.1.keep hW) (And.intro (H5.out.2.1.keep hW) (And.intro (H5.out.2.2.keep hW) hB))); clear hB hW; obtain ⟨g1, hg1⟩ : ∃ x, w5.heap.size = x := ⟨_, rfl⟩; rw [hg1] at H6 ⊢; clear hg1)
  refine (get_no w6 A1 (x.take k) k c1 (by rw [List.length_take, HK.out.1]; omega) (by have := HC1.out.1; omega) HC1.out.2 (H6.out.2.1.bytes.take k) (HI.out.1.keep H6.out.1.2.2) (by rw [List.length_take, HK.out.1]; have := HK.out.2; omega) (by have := HX.out.2.1; rw [HK.out.1] at this; exact this)).mono ?_
  rintro e w7 ⟨rfl, hb⟩
  have H7 := Lib.hid (And.intro (H6.out.1.keep hb) (And.intro (H6.out.2.1.keep hb) (And.intro (H6.out.2.2.1.keep hb) (H6.out.2.2.2.keep hb))))
  clear hb
  obtain ⟨i0, hi0, hz0, hz1, hz2⟩ := info_parts u8info17
  go_wp2_with (first
    | ((with_reducible show wpList _ _ _ ((⟨none, _, _, _, _, _⟩ : Oper) :: _) _ _); refine wpList_store_msg w7 rfl (.tmp 11) (.tmp 61) rfl mz s0 rfl rfl ?_; intro w8 hB hW; have H8 := Lib.hid (And.intro (H7.out.1.keep hW) (And.intro (H7.out.2.1.keep hW) (And.intro (H7.out.2.2.1.keep hW) (H7.out.2.2.2.keep hW)))); clear hB hW; have ex := run_str (P := Tryd.prog) w8 25 5 Tryd.underlying25 Tryd.underlying5 H8.out.2.1.bytes c1 9 Tryd.underlying9; rw [HK.out.1] at ex)
    | ((with_reducible show wpList _ _ _ ((⟨some 66, _, _, _, _, _⟩ : Oper) :: _) _ _); refine wpList_bytesOfB w8 (by rfl) 9 25 (.tmp 65) rfl 5 Tryd.underlying9 Tryd.underlying25 Tryd.underlying5 x (by rw [HK.out.1]; have := HK.out.2; unfold maxLen; omega) rfl ?_; intro ck w9 hck hr hbl hs; rw [HK.out.1] at hck ⊢; have H9 := Lib.hid (And.intro hck (And.intro hr hbl)); clear hck hr hbl hs; obtain ⟨g3, hg3⟩ : ∃ q, w8.heap.size = q := ⟨_, rfl⟩; rw [hg3] at H9 ⊢; have HG3 := Lib.hid hg3; clear hg3)
    | ((with_reducible show wpList _ _ _ ((⟨some 68, _, _, _, _, _⟩ : Oper) :: _) _ _); refine wpList_app1m _ rfl (.tmp 66) (.tmp 67) 25 5 rfl i0 _ 1 Tryd.underlying25 hi0 hz0 hz1 hz2 rfl g3 (k + 1) ck (x.map u8v) rfl (by rw [List.length_map]; exact HK.out.1) (H9.out.2.1.keep (nextA (Mem.start w9) _)) ⟨w9.heap.size, 0, none⟩ 1 (.int .u8 0) rfl (by rw [new_cell]; rfl) rfl (by have := HK.out.2; unfold maxLen; omega) (by have := HK.out.2; omega) ?_; intro A4 c4 w10 hc4 hcc4 hcm4 hb10; have hw8 : Below w8.heap.size w8 w10 := (by have h9 := H9.out.2.2; have h10 := (nextA (Mem.start w9) (.cells #[.int .u8 0] 5)).mono (show g3 ≤ w9.heap.size from by have := h9.size; have := HG3.out; omega); rw [HG3.out]; exact (h9.trans h10).trans hb10); have HA4 := Lib.hid (show Bytes w10 w10.heap.size A4 (x ++ [0]) ∧ k + 1 + 1 ≤ c4 ∧ c4 ≤ maxLen from ⟨by have e : (x ++ [0]).map u8v = x.map u8v ++ [.int .u8 0] := (by rw [List.map_append]; rfl); unfold Bytes; rw [e]; exact hc4, hcc4, hcm4⟩); have H10 := Lib.hid (And.intro (H8.out.1.keep hw8) (And.intro (H8.out.2.1.keep hw8) (And.intro (H8.out.2.2.1.keep hw8) (H8.out.2.2.2.keep hw8)))); clear hc4 hcc4 hcm4 hb10 hw8))
  refine (get_no w10 A4 (x ++ [0]) (k + 1 + 1) c4 (by rw [List.length_append, HK.out.1]; rfl) HA4.out.2.1 (maxle HA4.out.2.2) HA4.out.1 (HI.out.1.keep H10.out.1.2.2) (by rw [List.length_append, HK.out.1]; have := HK.out.2; simp; omega) HX.out.2.2).mono ?_
  rintro e w11 ⟨rfl, hb⟩
  have H11 := Lib.hid (And.intro (H10.out.1.keep hb) (And.intro (H10.out.2.1.keep hb) (And.intro (H10.out.2.2.1.keep hb) (H10.out.2.2.2.keep hb))))
  clear hb ex hi0 hz0 hz1 hz2
  go_wp2_with ((with_reducible show wpList _ _ _ ((⟨none, _, _, _, _, _⟩ : Oper) :: _) _ _); refine wpList_store_msg w11 rfl (.tmp 13) (.tmp 70) rfl mz s0 rfl rfl ?_; intro w12 hB hW; have H12 := Lib.hid (And.intro (H11.out.1.keep hW) (And.intro (H11.out.2.1.keep hW) (And.intro (H11.out.2.2.1.keep hW) (H11.out.2.2.2.keep hW)))); clear hB hW; have ca0 := H12.out.1.1.cell 0; have ca1 := H12.out.1.1.cell 1; have ca2 := H12.out.1.1.cell 2; have ca3 := H12.out.1.1.cell 3; have ca4 := H12.out.1.1.cell 4; have ca5 := H12.out.1.1.cell 5; have ca6 := H12.out.1.1.cell 6; have ca7 := H12.out.1.1.cell 7; have ca8 := H12.out.1.1.cell 8; have ca9 := H12.out.1.1.cell 9; have ca10 := H12.out.1.1.cell 10; have ca11 := H12.out.1.1.cell 11; have ca12 := H12.out.1.1.cell 12; have ca13 := H12.out.1.1.cell 13; simp [mv] at ca0 ca1 ca2 ca3 ca4 ca5 ca6 ca7 ca8 ca9 ca10 ca11 ca12 ca13; have cg0 := H12.out.2.2.2.cell 0; have cg1 := H12.out.2.2.2.cell 1; have cg2 := H12.out.2.2.2.cell 2; have cg3 := H12.out.2.2.2.cell 3; have cg4 := H12.out.2.2.2.cell 4; have cg5 := H12.out.2.2.2.cell 5; have cg6 := H12.out.2.2.2.cell 6; have cg7 := H12.out.2.2.2.cell 7; have cg8 := H12.out.2.2.2.cell 8; have cg9 := H12.out.2.2.2.cell 9; have cg10 := H12.out.2.2.2.cell 10; have cg11 := H12.out.2.2.2.cell 11; have cg12 := H12.out.2.2.2.cell 12; have cg13 := H12.out.2.2.2.cell 13; simp [mv] at cg0 cg1 cg2 cg3 cg4 cg5 cg6 cg7 cg8 cg9 cg10 cg11 cg12 cg13)
  refine (same_any w12 m m s s1 (HM.out.1.keep H12.out.1.2.2) (H12.out.2.2.1.min HMM.out.1)).mono ?_
  rintro e w13 ⟨rfl, hb⟩
  rw [same_refl]
  have H13 := Lib.hid (And.intro (H12.out.1.keep hb) (H12.out.2.1.keep hb))
  clear hb ca0 ca1 ca2 ca3 ca4 ca5 ca6 ca7 ca8 ca9 ca10 ca11 ca12 ca13 cg0 cg1 cg2 cg3 cg4 cg5 cg6 cg7 cg8 cg9 cg10 cg11 cg12 cg13
  have cb0 := H13.out.1.2.1.cell 0
  have cb1 := H13.out.1.2.1.cell 1
  have cb2 := H13.out.1.2.1.cell 2
  have cb3 := H13.out.1.2.1.cell 3
  have cb4 := H13.out.1.2.1.cell 4
  have cb5 := H13.out.1.2.1.cell 5
  have cb6 := H13.out.1.2.1.cell 6
  have cb7 := H13.out.1.2.1.cell 7
  have cb8 := H13.out.1.2.1.cell 8
  have cb9 := H13.out.1.2.1.cell 9
  have cb10 := H13.out.1.2.1.cell 10
  have cb11 := H13.out.1.2.1.cell 11
  have cb12 := H13.out.1.2.1.cell 12
  have cb13 := H13.out.1.2.1.cell 13
  simp [mv] at cb0 cb1 cb2 cb3 cb4 cb5 cb6 cb7 cb8 cb9 cb10 cb11 cb12 cb13
  go_wp2_with fail
  refine (put_yes w13 n t z (HI.out.1.keep H13.out.1.2.2) (HM.out.2.keep H13.out.1.2.2) HNN.out.1 HNN.out.2).mono ?_
  rintro e w14 ⟨A6, c6, rfl, ho, hb⟩
  have H14 := Lib.hid (And.intro (H13.out.1.keep hb) (And.intro (H13.out.2.keep hb) ho))
  clear hb ho cb0 cb1 cb2 cb3 cb4 cb5 cb6 cb7 cb8 cb9 cb10 cb11 cb12 cb13
  go_wp2_with fail
  refine wp_region_noPanic ?_
  refine wp_heldG (fun V => Two w bx m s n t V ∧ Mem.Own V w3.heap.size 5 A1 c1 (x.map u8v) ∧ Mem.Own V w13.heap.size 5 A6 c6 (z.map u8v)) [] (by kernel_rfl) ?hs0 ?rg0
  case hs0 =>
    exact ⟨H14.out.1.keep (nextN (Mem.start _) 1), H14.out.2.1.keep (nextN (Mem.start _) 1), H14.out.2.2.keep (nextN (Mem.start _) 1)⟩
  case rg0 =>
  intro hHeld
  refine puG 0 ⟨some 93, .move (.tmp 16), 22, _, #[], none⟩ (v := ?_) ?_ (fun _ => by assumption) ?_
  rotate_left
  · intro w hSw
    try dsimp only at hSw
    go_simp
    try with_reducible rfl
  try simp only [Act.put, List.setIfInBounds_toArray, List.set_cons_zero, List.set_cons_succ]
  refine puG 1 ⟨some 94, .binOp BinOp.eql 22 (.tmp 93) (Operand.const (Value.int IntKind.i64 0)) 22, 4, _, #[⟨0, .data⟩], none⟩ (v := ?_) ?_ (fun _ => by assumption) ?_
  rotate_left
  · intro w hSw
    try dsimp only at hSw
    go_simp
    try with_reducible rfl
  try simp only [Act.put, List.setIfInBounds_toArray, List.set_cons_zero, List.set_cons_succ]
  refine puG 2 ⟨some 95, .move (.tmp 94), 4, _, #[⟨1, .data⟩], none⟩ (v := ?_) ?_ (fun _ => by assumption) ?_
  rotate_left
  · intro w hSw
    try dsimp only at hSw
    go_simp
    try with_reducible rfl
  try simp only [Act.put, List.setIfInBounds_toArray, List.set_cons_zero, List.set_cons_succ]
  refine puG 3 ⟨some 96, .move (.tmp 7), 25, _, #[⟨2, .guard⟩], some (2, true)⟩ (v := ?_) ?_ (fun _ => by assumption) ?_
  rotate_left
  · intro w hSw
    try dsimp only at hSw
    go_simp
    try with_reducible rfl
  try simp only [Act.put, List.setIfInBounds_toArray, List.set_cons_zero, List.set_cons_succ]
  refine tkG 4 ⟨some 97, .convert 25 9 (.tmp 96), 9, _, #[⟨3, .data⟩, ⟨2, .guard⟩], some (2, true)⟩ (v := ?_) ?_ (by assumption) ?_
  rotate_left
  · intro w hSw
    try dsimp only at hSw
    have ex := run_str (P := Tryd.prog) w 25 5 Tryd.underlying25 Tryd.underlying5 hSw.2.1.bytes c1 9 Tryd.underlying9
    rw [HK.out.1] at ex
    go_simp
    try with_reducible rfl
  try simp only [Act.put, List.setIfInBounds_toArray, List.set_cons_zero, List.set_cons_succ]
  refine puG 5 ⟨some 98, .move (.tmp 15), 25, _, #[⟨2, .guard⟩], some (2, true)⟩ (v := ?_) ?_ (fun _ => by assumption) ?_
  rotate_left
  · intro w hSw
    try dsimp only at hSw
    go_simp
    try with_reducible rfl
  try simp only [Act.put, List.setIfInBounds_toArray, List.set_cons_zero, List.set_cons_succ]
  refine tkG 6 ⟨some 99, .convert 25 9 (.tmp 98), 9, _, #[⟨5, .data⟩, ⟨2, .guard⟩], some (2, true)⟩ (v := ?_) ?_ (by assumption) ?_
  rotate_left
  · intro w hSw
    try dsimp only at hSw
    have ex := run_str (P := Tryd.prog) w 25 5 Tryd.underlying25 Tryd.underlying5 hSw.2.2.bytes c6 9 Tryd.underlying9
    go_simp
    try with_reducible rfl
  try simp only [Act.put, List.setIfInBounds_toArray, List.set_cons_zero, List.set_cons_succ]
  refine puG 7 ⟨some 100, .binOp BinOp.eql 9 (.tmp 97) (.tmp 99) 9, 4, _, #[⟨4, .data⟩, ⟨6, .data⟩, ⟨2, .guard⟩], some (2, true)⟩ (v := ?_) ?_ (fun _ => by assumption) ?_
  rotate_left
  · intro w hSw
    try dsimp only at hSw
    have hq := HQ.out.1
    go_simp
    try with_reducible rfl
  try simp only [Act.put, List.setIfInBounds_toArray, List.set_cons_zero, List.set_cons_succ]
  refine tkG 8 ⟨some 101, .load 27 (.tmp 3), 27, _, #[⟨2, .guard⟩], some (2, true)⟩ (v := ?_) ?_ (by assumption) ?_
  rotate_left
  · intro w hSw
    try dsimp only at hSw
    refine exec_load 27 (.tmp 3) ?_ _ ?_ (.agg (mv m s)) (load_msg hSw.1.1)
    · rfl
    · rfl
  try simp only [Act.put, List.setIfInBounds_toArray, List.set_cons_zero, List.set_cons_succ]
  refine tkG 9 ⟨some 102, .load 27 (.tmp 4), 27, _, #[⟨2, .guard⟩], some (2, true)⟩ (v := ?_) ?_ (by assumption) ?_
  rotate_left
  · intro w hSw
    try dsimp only at hSw
    refine exec_load 27 (.tmp 4) ?_ _ ?_ (.agg (mv n t)) (load_msg hSw.1.2.1)
    · rfl
    · rfl
  try simp only [Act.put, List.setIfInBounds_toArray, List.set_cons_zero, List.set_cons_succ]
  refine onG 10 ⟨some 103, .call { callee := Callee.value (Operand.func 18), args := #[.tmp 101, .tmp 102], argTypes := #[27, 27] }, 4, _, #[⟨8, .data⟩, ⟨9, .data⟩, ⟨2, .chain⟩, ⟨2, .guard⟩], some (2, true)⟩ (fun K hK => ?_)
  go_simp
  refine (same_any _ _ _ _ _ (HM.out.1.keep hHeld.1.2.2) (HM.out.2.keep hHeld.1.2.2)).mono ?_
  rintro e w15 ⟨rfl, hb⟩
  rw [HQ.out.2]
  try dsimp only
  refine hK.out _ _ ?_ (fun hHeld => ?_)
  · intro _
    try dsimp only
    exact ⟨hHeld.1.keep hb, hHeld.2.1.keep hb, hHeld.2.2.keep hb⟩
  clear hK K
  try simp only [Act.put, List.setIfInBounds_toArray, List.set_cons_zero, List.set_cons_succ]
  have hHeld := hHeld (by kernel_rfl)
  refine puG 11 ⟨some 104, .binOp BinOp.neq 4 (.tmp 100) (.tmp 103) 4, 4, _, #[⟨7, .data⟩, ⟨10, .data⟩, ⟨2, .guard⟩], some (2, true)⟩ (v := ?_) ?_ (fun _ => by assumption) ?_
  rotate_left
  · intro w hSw
    try dsimp only at hSw
    go_simp
    try with_reducible rfl
  try simp only [Act.put, List.setIfInBounds_toArray, List.set_cons_zero, List.set_cons_succ]
  refine puG 12 ⟨some 105, .pick (.tmp 95) (.tmp 104) (Operand.const (Value.bool false)), 4, _, #[⟨2, .data⟩, ⟨11, .data⟩], none⟩ (v := ?_) ?_ (fun _ => by assumption) ?_
  rotate_left
  · intro w hSw
    try dsimp only at hSw
    go_simp
    try with_reducible rfl
  try simp only [Act.put, List.setIfInBounds_toArray, List.set_cons_zero, List.set_cons_succ]
  refine wpAnyG_done (by kernel_rfl) ?_ _
  refine NoPanic.normal ?_
  have H15 := Lib.hid hHeld.1
  clear hHeld
  go_wp2_with fail
  refine (get_no w15 A b b.length c rfl HL.out.1 HL.out.2.1 ((HI.out.2.2.2.below H15.out.2.2).up H15.out.2.2.size) (HI.out.1.keep H15.out.2.2) (by have := HL.out.2.2; omega) HY.out).mono ?_
  rintro e v1 ⟨rfl, hb⟩
  have K1 := Lib.hid (H15.out.keep hb)
  clear hb
  go_wp2_with ((with_reducible show wpList _ _ _ ((⟨none, .store 27 (.tmp 17) (.tmp 109), _, _, _, _⟩ : Oper) :: _) _ _); refine wpList_store_msg v1 rfl (.tmp 17) (.tmp 109) rfl mz s0 rfl rfl ?_; intro v2 hB hW; have K2 := Lib.hid (K1.out.keep hW); clear hB hW)
  refine (works_any v2 (HI.out.1.keep K2.out.2.2)).mono ?_
  rintro e v3 ⟨rfl, hb⟩
  have K3 := Lib.hid (next K2.out.2.2 hb)
  clear hb
  go_wp2_with fail
  go_ret
  exact ⟨rfl, K3.out⟩
set_option maxRecDepth 100000 in
set_option maxHeartbeats 16000000 in
theorem back_yyy (w : World) (hT : HasT w) (m : Msg) (s : Sl) (hm : MIn0 w w.heap.size m s) (n : Msg) (t : Sl) (hn : MIn0 w w.heap.size n t) (A : Option Addr) (b : List UInt8) (c : Nat) (hle : b.length ≤ c) (hmx : c ≤ maxLen) (hb : Bytes w w.heap.size A b) (hf : few m = true) (hg : few n = true) (hbl : b.length ≤ 5000) (x : List UInt8) (hmm : may m = true) (hx : Wi.bytes m = x) (z : List UInt8) (hnn : may n = true) (hz : Wi.bytes n = z) (y : Msg) (hy : Wi.get b = some y) :
    Calls Tryd.prog 5 #[.agg (mv m s), .agg (mv n t), .slice A b.length c] w fun e w' => e = .returned (.bool true) ∧ Below w.heap.size w w' := by
  obtain ⟨bx, hbx⟩ : ∃ bx, w.heap.size = bx := ⟨_, rfl⟩
  obtain ⟨w1, hw1⟩ : ∃ x : World, (w.alloc (.cells (mv m s) 27)).alloc (.cells (mv n t) 27) = x := ⟨_, rfl⟩
  have H1 := Lib.hid (show Two w bx m s n t w1 by
    rw [← hw1, ← hbx]
    refine ⟨(Blk.new w _ _).keep (nextA (Mem.start _) _), ?_, nextA (nextA (Mem.start w) _) _⟩
    have := Blk.new (w.alloc (.cells (mv m s) 27)) 27 (mv n t)
    rw [World.size_alloc] at this; exact this)
  have HI := Lib.hid (And.intro hT (And.intro hm (And.intro hn hb)))
  have HF := Lib.hid (And.intro hf hg)
  have HM := Lib.hid (And.intro (hm.small hf) (hn.small hg))
  have HL := Lib.hid (And.intro hle (And.intro (maxle hmx) hbl))
  have dl : decide ((5000 : Int) < ((b.length : Nat) : Int)) = false := decide_eq_false (by omega)
  have HMM := Lib.hid (And.intro hmm hx)
  have HX := Lib.hid (show Wi.get x = some m ∧ Wi.get (x.take (x.length - 1)) = none ∧ Wi.get (x ++ [0]) = none by
    refine ⟨by rw [← hx]; exact get_put hmm, get_fewer hmm (by rw [← hx]; exact bytes_ne m) hx, by rw [← hx]; exact get_more hmm 0⟩)
  have hne : x ≠ [] := by rw [← hx]; exact bytes_ne m
  have hps := List.length_pos_iff.2 hne
  obtain ⟨k, hk⟩ : ∃ k, x.length = k + 1 := ⟨x.length - 1, by omega⟩
  have HK := Lib.hid (show x.length = k + 1 ∧ k + 1 ≤ 800000 by rw [← hk, ← hx]; exact ⟨rfl, bytes_le ((may_iff m).1 hmm)⟩)
  clear hmm hx hk hne hps
  have HNN := Lib.hid (And.intro hnn hz)
  obtain ⟨qq, hqq⟩ : ∃ qq, same m n = qq := ⟨_, rfl⟩
  have HQ := Lib.hid (show ((str x).toList == (str z).toList) = qq ∧ same m n = qq by
    refine ⟨?_, hqq⟩
    rw [← hqq, str_beq2, Bool.eq_iff_iff, decide_eq_true_iff, same_iff, ← HMM.out.2, ← hz]
    exact ⟨fun h => bytes_inj HMM.out.1 hnn h, fun h => by rw [h]⟩)
  clear hnn hz hqq
  have HY := Lib.hid hy
  clear hy
  have ca0 := H1.out.1.cell 0
  have ca1 := H1.out.1.cell 1
  have ca2 := H1.out.1.cell 2
  have ca3 := H1.out.1.cell 3
  have ca4 := H1.out.1.cell 4
  have ca5 := H1.out.1.cell 5
  have ca6 := H1.out.1.cell 6
  have ca7 := H1.out.1.cell 7
  have ca8 := H1.out.1.cell 8
  have ca9 := H1.out.1.cell 9
  have ca10 := H1.out.1.cell 10
  have ca11 := H1.out.1.cell 11
  have ca12 := H1.out.1.cell 12
  have ca13 := H1.out.1.cell 13
  simp [mv] at ca0 ca1 ca2 ca3 ca4 ca5 ca6 ca7 ca8 ca9 ca10 ca11 ca12 ca13
  clear hT hm hn hb hle hmx hf hg hbl
  go_enter Tryd.func5, Tryd.ntmps5
  go_wp2_with fail
  refine (few_any w1 m s (HI.out.2.1.keep H1.out.2.2)).mono ?_
  rintro e w2 ⟨rfl, hb⟩
  rw [HF.out.1]
  have H2 := Lib.hid (H1.out.keep hb)
  clear hb ca0 ca1 ca2 ca3 ca4 ca5 ca6 ca7 ca8 ca9 ca10 ca11 ca12 ca13 hw1 hbx
  have cb0 := H2.out.2.1.cell 0
  have cb1 := H2.out.2.1.cell 1
  have cb2 := H2.out.2.1.cell 2
  have cb3 := H2.out.2.1.cell 3
  have cb4 := H2.out.2.1.cell 4
  have cb5 := H2.out.2.1.cell 5
  have cb6 := H2.out.2.1.cell 6
  have cb7 := H2.out.2.1.cell 7
  have cb8 := H2.out.2.1.cell 8
  have cb9 := H2.out.2.1.cell 9
  have cb10 := H2.out.2.1.cell 10
  have cb11 := H2.out.2.1.cell 11
  have cb12 := H2.out.2.1.cell 12
  have cb13 := H2.out.2.1.cell 13
  simp [mv] at cb0 cb1 cb2 cb3 cb4 cb5 cb6 cb7 cb8 cb9 cb10 cb11 cb12 cb13
  go_wp2_with fail
  refine (few_any w2 n t (HI.out.2.2.1.keep H2.out.2.2)).mono ?_
  rintro e w3 ⟨rfl, hb⟩
  rw [HF.out.2]
  have H3 := Lib.hid (H2.out.keep hb)
  clear hb cb0 cb1 cb2 cb3 cb4 cb5 cb6 cb7 cb8 cb9 cb10 cb11 cb12 cb13
  have cc0 := H3.out.1.cell 0
  have cc1 := H3.out.1.cell 1
  have cc2 := H3.out.1.cell 2
  have cc3 := H3.out.1.cell 3
  have cc4 := H3.out.1.cell 4
  have cc5 := H3.out.1.cell 5
  have cc6 := H3.out.1.cell 6
  have cc7 := H3.out.1.cell 7
  have cc8 := H3.out.1.cell 8
  have cc9 := H3.out.1.cell 9
  have cc10 := H3.out.1.cell 10
  have cc11 := H3.out.1.cell 11
  have cc12 := H3.out.1.cell 12
  have cc13 := H3.out.1.cell 13
  simp [mv] at cc0 cc1 cc2 cc3 cc4 cc5 cc6 cc7 cc8 cc9 cc10 cc11 cc12 cc13
  go_wp2_with fail
  refine (put_yes w3 m s x (HI.out.1.keep H3.out.2.2) (HM.out.1.keep H3.out.2.2) HMM.out.1 HMM.out.2).mono ?_
  rintro e w4 ⟨A1, c1, rfl, ho, hb⟩
  rw [HK.out.1]
  have hl1 := ho.le
  have hl2 := ho.max
  rw [List.length_map, HK.out.1] at hl1
  have HC1 := Lib.hid (And.intro hl1 (maxle hl2))
  have H4 := Lib.hid (And.intro (H3.out.keep hb) ho)
  clear hb ho cc0 cc1 cc2 cc3 cc4 cc5 cc6 cc7 cc8 cc9 cc10 cc11 cc12 cc13 hl1 hl2
  have hk8 : (k : Int) ≤ 800000 := by have := HK.out.2; omega
  have hk0 : (0 : Int) ≤ (k : Int) := by omega
  have e0 : (((k : Int) + 1) == 0) = false := by rw [beq_eq_false_iff_ne]; omega
  have e1 : (k + 1 == 0) = false := by rw [beq_eq_false_iff_ne]; omega
  have hkc : (k : Int) ≤ (c1 : Int) := by have := HC1.out.1; omega
  have hcm : (c1 : Int) ≤ 9223372036854775807 := by have := HC1.out.2; omega
  go_wp2_with fail
  refine (get_yes w4 A1 x (k + 1) c1 HK.out.1.symm HC1.out.1 HC1.out.2 H4.out.2.bytes (HI.out.1.keep H4.out.1.2.2) (by rw [HK.out.1]; have := HK.out.2; omega) m HX.out.1).mono ?_
  rintro e w5 ⟨s1, rfl, hr, hb⟩
  have H5 := Lib.hid (And.intro (H4.out.1.keep hb) (And.intro (H4.out.2.keep hb) hr))
  clear hb hr e0 e1
  go_wp2_with ((with_reducible show wpList _ _ _ ((⟨none, .store 27 (.tmp 9) (.tmp 52), _, _, _, _⟩ : Oper) :: _) _ _); refine wpList_store_msg w5 rfl (.tmp 9) (.tmp 52) rfl (m) s1 rfl rfl ?_; intro w6 hB hW; have H6 := Lib.hid (And.intro (H5.out.1.keep hW) (And.intro (H5.out.2.1.keep hW) (And.intro (H5.out.2.2.keep hW) hB))); clear hB hW; obtain ⟨g1, hg1⟩ : ∃ x, w5.heap.size = x := ⟨_, rfl⟩; rw [hg1] at H6 ⊢; clear hg1)
  refine (get_no w6 A1 (x.take k) k c1 (by rw [List.length_take, HK.out.1]; omega) (by have := HC1.out.1; omega) HC1.out.2 (H6.out.2.1.bytes.take k) (HI.out.1.keep H6.out.1.2.2) (by rw [List.length_take, HK.out.1]; have := HK.out.2; omega) (by have := HX.out.2.1; rw [HK.out.1] at this; exact this)).mono ?_
  rintro e w7 ⟨rfl, hb⟩
  have H7 := Lib.hid (And.intro (H6.out.1.keep hb) (And.intro (H6.out.2.1.keep hb) (And.intro (H6.out.2.2.1.keep hb) (H6.out.2.2.2.keep hb))))
  clear hb
  obtain ⟨i0, hi0, hz0, hz1, hz2⟩ := info_parts u8info17
  go_wp2_with (first
    | ((with_reducible show wpList _ _ _ ((⟨none, _, _, _, _, _⟩ : Oper) :: _) _ _); refine wpList_store_msg w7 rfl (.tmp 11) (.tmp 61) rfl mz s0 rfl rfl ?_; intro w8 hB hW; have H8 := Lib.hid (And.intro (H7.out.1.keep hW) (And.intro (H7.out.2.1.keep hW) (And.intro (H7.out.2.2.1.keep hW) (H7.out.2.2.2.keep hW)))); clear hB hW; have ex := run_str (P := Tryd.prog) w8 25 5 Tryd.underlying25 Tryd.underlying5 H8.out.2.1.bytes c1 9 Tryd.underlying9; rw [HK.out.1] at ex)
    | ((with_reducible show wpList _ _ _ ((⟨some 66, _, _, _, _, _⟩ : Oper) :: _) _ _); refine wpList_bytesOfB w8 (by rfl) 9 25 (.tmp 65) rfl 5 Tryd.underlying9 Tryd.underlying25 Tryd.underlying5 x (by rw [HK.out.1]; have := HK.out.2; unfold maxLen; omega) rfl ?_; intro ck w9 hck hr hbl hs; rw [HK.out.1] at hck ⊢; have H9 := Lib.hid (And.intro hck (And.intro hr hbl)); clear hck hr hbl hs; obtain ⟨g3, hg3⟩ : ∃ q, w8.heap.size = q := ⟨_, rfl⟩; rw [hg3] at H9 ⊢; have HG3 := Lib.hid hg3; clear hg3)
    | ((with_reducible show wpList _ _ _ ((⟨some 68, _, _, _, _, _⟩ : Oper) :: _) _ _); refine wpList_app1m _ rfl (.tmp 66) (.tmp 67) 25 5 rfl i0 _ 1 Tryd.underlying25 hi0 hz0 hz1 hz2 rfl g3 (k + 1) ck (x.map u8v) rfl (by rw [List.length_map]; exact HK.out.1) (H9.out.2.1.keep (nextA (Mem.start w9) _)) ⟨w9.heap.size, 0, none⟩ 1 (.int .u8 0) rfl (by rw [new_cell]; rfl) rfl (by have := HK.out.2; unfold maxLen; omega) (by have := HK.out.2; omega) ?_; intro A4 c4 w10 hc4 hcc4 hcm4 hb10; have hw8 : Below w8.heap.size w8 w10 := (by have h9 := H9.out.2.2; have h10 := (nextA (Mem.start w9) (.cells #[.int .u8 0] 5)).mono (show g3 ≤ w9.heap.size from by have := h9.size; have := HG3.out; omega); rw [HG3.out]; exact (h9.trans h10).trans hb10); have HA4 := Lib.hid (show Bytes w10 w10.heap.size A4 (x ++ [0]) ∧ k + 1 + 1 ≤ c4 ∧ c4 ≤ maxLen from ⟨by have e : (x ++ [0]).map u8v = x.map u8v ++ [.int .u8 0] := (by rw [List.map_append]; rfl); unfold Bytes; rw [e]; exact hc4, hcc4, hcm4⟩); have H10 := Lib.hid (And.intro (H8.out.1.keep hw8) (And.intro (H8.out.2.1.keep hw8) (And.intro (H8.out.2.2.1.keep hw8) (H8.out.2.2.2.keep hw8)))); clear hc4 hcc4 hcm4 hb10 hw8))
  refine (get_no w10 A4 (x ++ [0]) (k + 1 + 1) c4 (by rw [List.length_append, HK.out.1]; rfl) HA4.out.2.1 (maxle HA4.out.2.2) HA4.out.1 (HI.out.1.keep H10.out.1.2.2) (by rw [List.length_append, HK.out.1]; have := HK.out.2; simp; omega) HX.out.2.2).mono ?_
  rintro e w11 ⟨rfl, hb⟩
  have H11 := Lib.hid (And.intro (H10.out.1.keep hb) (And.intro (H10.out.2.1.keep hb) (And.intro (H10.out.2.2.1.keep hb) (H10.out.2.2.2.keep hb))))
  clear hb ex hi0 hz0 hz1 hz2
  go_wp2_with ((with_reducible show wpList _ _ _ ((⟨none, _, _, _, _, _⟩ : Oper) :: _) _ _); refine wpList_store_msg w11 rfl (.tmp 13) (.tmp 70) rfl mz s0 rfl rfl ?_; intro w12 hB hW; have H12 := Lib.hid (And.intro (H11.out.1.keep hW) (And.intro (H11.out.2.1.keep hW) (And.intro (H11.out.2.2.1.keep hW) (H11.out.2.2.2.keep hW)))); clear hB hW; have ca0 := H12.out.1.1.cell 0; have ca1 := H12.out.1.1.cell 1; have ca2 := H12.out.1.1.cell 2; have ca3 := H12.out.1.1.cell 3; have ca4 := H12.out.1.1.cell 4; have ca5 := H12.out.1.1.cell 5; have ca6 := H12.out.1.1.cell 6; have ca7 := H12.out.1.1.cell 7; have ca8 := H12.out.1.1.cell 8; have ca9 := H12.out.1.1.cell 9; have ca10 := H12.out.1.1.cell 10; have ca11 := H12.out.1.1.cell 11; have ca12 := H12.out.1.1.cell 12; have ca13 := H12.out.1.1.cell 13; simp [mv] at ca0 ca1 ca2 ca3 ca4 ca5 ca6 ca7 ca8 ca9 ca10 ca11 ca12 ca13; have cg0 := H12.out.2.2.2.cell 0; have cg1 := H12.out.2.2.2.cell 1; have cg2 := H12.out.2.2.2.cell 2; have cg3 := H12.out.2.2.2.cell 3; have cg4 := H12.out.2.2.2.cell 4; have cg5 := H12.out.2.2.2.cell 5; have cg6 := H12.out.2.2.2.cell 6; have cg7 := H12.out.2.2.2.cell 7; have cg8 := H12.out.2.2.2.cell 8; have cg9 := H12.out.2.2.2.cell 9; have cg10 := H12.out.2.2.2.cell 10; have cg11 := H12.out.2.2.2.cell 11; have cg12 := H12.out.2.2.2.cell 12; have cg13 := H12.out.2.2.2.cell 13; simp [mv] at cg0 cg1 cg2 cg3 cg4 cg5 cg6 cg7 cg8 cg9 cg10 cg11 cg12 cg13)
  refine (same_any w12 m m s s1 (HM.out.1.keep H12.out.1.2.2) (H12.out.2.2.1.min HMM.out.1)).mono ?_
  rintro e w13 ⟨rfl, hb⟩
  rw [same_refl]
  have H13 := Lib.hid (And.intro (H12.out.1.keep hb) (H12.out.2.1.keep hb))
  clear hb ca0 ca1 ca2 ca3 ca4 ca5 ca6 ca7 ca8 ca9 ca10 ca11 ca12 ca13 cg0 cg1 cg2 cg3 cg4 cg5 cg6 cg7 cg8 cg9 cg10 cg11 cg12 cg13
  have cb0 := H13.out.1.2.1.cell 0
  have cb1 := H13.out.1.2.1.cell 1
  have cb2 := H13.out.1.2.1.cell 2
  have cb3 := H13.out.1.2.1.cell 3
  have cb4 := H13.out.1.2.1.cell 4
  have cb5 := H13.out.1.2.1.cell 5
  have cb6 := H13.out.1.2.1.cell 6
  have cb7 := H13.out.1.2.1.cell 7
  have cb8 := H13.out.1.2.1.cell 8
  have cb9 := H13.out.1.2.1.cell 9
  have cb10 := H13.out.1.2.1.cell 10
  have cb11 := H13.out.1.2.1.cell 11
  have cb12 := H13.out.1.2.1.cell 12
  have cb13 := H13.out.1.2.1.cell 13
  simp [mv] at cb0 cb1 cb2 cb3 cb4 cb5 cb6 cb7 cb8 cb9 cb10 cb11 cb12 cb13
  go_wp2_with fail
  refine (put_yes w13 n t z (HI.out.1.keep H13.out.1.2.2) (HM.out.2.keep H13.out.1.2.2) HNN.out.1 HNN.out.2).mono ?_
  rintro e w14 ⟨A6, c6, rfl, ho, hb⟩
  have H14 := Lib.hid (And.intro (H13.out.1.keep hb) (And.intro (H13.out.2.keep hb) ho))
  clear hb ho cb0 cb1 cb2 cb3 cb4 cb5 cb6 cb7 cb8 cb9 cb10 cb11 cb12 cb13
  go_wp2_with fail
  refine wp_region_noPanic ?_
  refine wp_heldG (fun V => Two w bx m s n t V ∧ Mem.Own V w3.heap.size 5 A1 c1 (x.map u8v) ∧ Mem.Own V w13.heap.size 5 A6 c6 (z.map u8v)) [] (by kernel_rfl) ?hs0 ?rg0
  case hs0 =>
    exact ⟨H14.out.1.keep (nextN (Mem.start _) 1), H14.out.2.1.keep (nextN (Mem.start _) 1), H14.out.2.2.keep (nextN (Mem.start _) 1)⟩
  case rg0 =>
  intro hHeld
  refine puG 0 ⟨some 93, .move (.tmp 16), 22, _, #[], none⟩ (v := ?_) ?_ (fun _ => by assumption) ?_
  rotate_left
  · intro w hSw
    try dsimp only at hSw
    go_simp
    try with_reducible rfl
  try simp only [Act.put, List.setIfInBounds_toArray, List.set_cons_zero, List.set_cons_succ]
  refine puG 1 ⟨some 94, .binOp BinOp.eql 22 (.tmp 93) (Operand.const (Value.int IntKind.i64 0)) 22, 4, _, #[⟨0, .data⟩], none⟩ (v := ?_) ?_ (fun _ => by assumption) ?_
  rotate_left
  · intro w hSw
    try dsimp only at hSw
    go_simp
    try with_reducible rfl
  try simp only [Act.put, List.setIfInBounds_toArray, List.set_cons_zero, List.set_cons_succ]
  refine puG 2 ⟨some 95, .move (.tmp 94), 4, _, #[⟨1, .data⟩], none⟩ (v := ?_) ?_ (fun _ => by assumption) ?_
  rotate_left
  · intro w hSw
    try dsimp only at hSw
    go_simp
    try with_reducible rfl
  try simp only [Act.put, List.setIfInBounds_toArray, List.set_cons_zero, List.set_cons_succ]
  refine puG 3 ⟨some 96, .move (.tmp 7), 25, _, #[⟨2, .guard⟩], some (2, true)⟩ (v := ?_) ?_ (fun _ => by assumption) ?_
  rotate_left
  · intro w hSw
    try dsimp only at hSw
    go_simp
    try with_reducible rfl
  try simp only [Act.put, List.setIfInBounds_toArray, List.set_cons_zero, List.set_cons_succ]
  refine tkG 4 ⟨some 97, .convert 25 9 (.tmp 96), 9, _, #[⟨3, .data⟩, ⟨2, .guard⟩], some (2, true)⟩ (v := ?_) ?_ (by assumption) ?_
  rotate_left
  · intro w hSw
    try dsimp only at hSw
    have ex := run_str (P := Tryd.prog) w 25 5 Tryd.underlying25 Tryd.underlying5 hSw.2.1.bytes c1 9 Tryd.underlying9
    rw [HK.out.1] at ex
    go_simp
    try with_reducible rfl
  try simp only [Act.put, List.setIfInBounds_toArray, List.set_cons_zero, List.set_cons_succ]
  refine puG 5 ⟨some 98, .move (.tmp 15), 25, _, #[⟨2, .guard⟩], some (2, true)⟩ (v := ?_) ?_ (fun _ => by assumption) ?_
  rotate_left
  · intro w hSw
    try dsimp only at hSw
    go_simp
    try with_reducible rfl
  try simp only [Act.put, List.setIfInBounds_toArray, List.set_cons_zero, List.set_cons_succ]
  refine tkG 6 ⟨some 99, .convert 25 9 (.tmp 98), 9, _, #[⟨5, .data⟩, ⟨2, .guard⟩], some (2, true)⟩ (v := ?_) ?_ (by assumption) ?_
  rotate_left
  · intro w hSw
    try dsimp only at hSw
    have ex := run_str (P := Tryd.prog) w 25 5 Tryd.underlying25 Tryd.underlying5 hSw.2.2.bytes c6 9 Tryd.underlying9
    go_simp
    try with_reducible rfl
  try simp only [Act.put, List.setIfInBounds_toArray, List.set_cons_zero, List.set_cons_succ]
  refine puG 7 ⟨some 100, .binOp BinOp.eql 9 (.tmp 97) (.tmp 99) 9, 4, _, #[⟨4, .data⟩, ⟨6, .data⟩, ⟨2, .guard⟩], some (2, true)⟩ (v := ?_) ?_ (fun _ => by assumption) ?_
  rotate_left
  · intro w hSw
    try dsimp only at hSw
    have hq := HQ.out.1
    go_simp
    try with_reducible rfl
  try simp only [Act.put, List.setIfInBounds_toArray, List.set_cons_zero, List.set_cons_succ]
  refine tkG 8 ⟨some 101, .load 27 (.tmp 3), 27, _, #[⟨2, .guard⟩], some (2, true)⟩ (v := ?_) ?_ (by assumption) ?_
  rotate_left
  · intro w hSw
    try dsimp only at hSw
    refine exec_load 27 (.tmp 3) ?_ _ ?_ (.agg (mv m s)) (load_msg hSw.1.1)
    · rfl
    · rfl
  try simp only [Act.put, List.setIfInBounds_toArray, List.set_cons_zero, List.set_cons_succ]
  refine tkG 9 ⟨some 102, .load 27 (.tmp 4), 27, _, #[⟨2, .guard⟩], some (2, true)⟩ (v := ?_) ?_ (by assumption) ?_
  rotate_left
  · intro w hSw
    try dsimp only at hSw
    refine exec_load 27 (.tmp 4) ?_ _ ?_ (.agg (mv n t)) (load_msg hSw.1.2.1)
    · rfl
    · rfl
  try simp only [Act.put, List.setIfInBounds_toArray, List.set_cons_zero, List.set_cons_succ]
  refine onG 10 ⟨some 103, .call { callee := Callee.value (Operand.func 18), args := #[.tmp 101, .tmp 102], argTypes := #[27, 27] }, 4, _, #[⟨8, .data⟩, ⟨9, .data⟩, ⟨2, .chain⟩, ⟨2, .guard⟩], some (2, true)⟩ (fun K hK => ?_)
  go_simp
  refine (same_any _ _ _ _ _ (HM.out.1.keep hHeld.1.2.2) (HM.out.2.keep hHeld.1.2.2)).mono ?_
  rintro e w15 ⟨rfl, hb⟩
  rw [HQ.out.2]
  try dsimp only
  refine hK.out _ _ ?_ (fun hHeld => ?_)
  · intro _
    try dsimp only
    exact ⟨hHeld.1.keep hb, hHeld.2.1.keep hb, hHeld.2.2.keep hb⟩
  clear hK K
  try simp only [Act.put, List.setIfInBounds_toArray, List.set_cons_zero, List.set_cons_succ]
  have hHeld := hHeld (by kernel_rfl)
  refine puG 11 ⟨some 104, .binOp BinOp.neq 4 (.tmp 100) (.tmp 103) 4, 4, _, #[⟨7, .data⟩, ⟨10, .data⟩, ⟨2, .guard⟩], some (2, true)⟩ (v := ?_) ?_ (fun _ => by assumption) ?_
  rotate_left
  · intro w hSw
    try dsimp only at hSw
    go_simp
    try with_reducible rfl
  try simp only [Act.put, List.setIfInBounds_toArray, List.set_cons_zero, List.set_cons_succ]
  refine puG 12 ⟨some 105, .pick (.tmp 95) (.tmp 104) (Operand.const (Value.bool false)), 4, _, #[⟨2, .data⟩, ⟨11, .data⟩], none⟩ (v := ?_) ?_ (fun _ => by assumption) ?_
  rotate_left
  · intro w hSw
    try dsimp only at hSw
    go_simp
    try with_reducible rfl
  try simp only [Act.put, List.setIfInBounds_toArray, List.set_cons_zero, List.set_cons_succ]
  refine wpAnyG_done (by kernel_rfl) ?_ _
  refine NoPanic.normal ?_
  have H15 := Lib.hid hHeld.1
  clear hHeld
  go_wp2_with fail
  refine (get_yes w15 A b b.length c rfl HL.out.1 HL.out.2.1 ((HI.out.2.2.2.below H15.out.2.2).up H15.out.2.2.size) (HI.out.1.keep H15.out.2.2) (by have := HL.out.2.2; omega) y HY.out).mono ?_
  rintro e v1 ⟨sy, rfl, hr, hb⟩
  have K1 := Lib.hid (And.intro (H15.out.keep hb) hr)
  clear hb hr
  go_wp2_with ((with_reducible show wpList _ _ _ ((⟨none, .store 27 (.tmp 17) (.tmp 109), _, _, _, _⟩ : Oper) :: _) _ _); refine wpList_store_msg v1 rfl (.tmp 17) (.tmp 109) rfl y sy rfl rfl ?_; intro v2 hB hW; have K2 := Lib.hid (And.intro (K1.out.1.keep hW) (And.intro (K1.out.2.keep hW) hB)); clear hB hW; obtain ⟨gy, hgy⟩ : ∃ x, v1.heap.size = x := ⟨_, rfl⟩; rw [hgy] at K2 ⊢; clear hgy; have cy0 := K2.out.2.2.cell 0; have cy1 := K2.out.2.2.cell 1; have cy2 := K2.out.2.2.cell 2; have cy3 := K2.out.2.2.cell 3; have cy4 := K2.out.2.2.cell 4; have cy5 := K2.out.2.2.cell 5; have cy6 := K2.out.2.2.cell 6; have cy7 := K2.out.2.2.cell 7; have cy8 := K2.out.2.2.cell 8; have cy9 := K2.out.2.2.cell 9; have cy10 := K2.out.2.2.cell 10; have cy11 := K2.out.2.2.cell 11; have cy12 := K2.out.2.2.cell 12; have cy13 := K2.out.2.2.cell 13; simp [mv] at cy0 cy1 cy2 cy3 cy4 cy5 cy6 cy7 cy8 cy9 cy10 cy11 cy12 cy13)
  refine (put_yes v2 y sy b (HI.out.1.keep K2.out.1.2.2) (K2.out.2.1.min (put_get HY.out).1) (put_get HY.out).1 (put_get HY.out).2).mono ?_
  rintro e v3 ⟨Az, cz, rfl, ho, hb⟩
  have K3 := Lib.hid (And.intro (next K2.out.1.2.2 hb) ho)
  clear hb ho cy0 cy1 cy2 cy3 cy4 cy5 cy6 cy7 cy8 cy9 cy10 cy11 cy12 cy13
  have ez := run_str (P := Tryd.prog) v3 25 5 Tryd.underlying25 Tryd.underlying5 K3.out.2.bytes cz 9 Tryd.underlying9
  have eb := run_str (P := Tryd.prog) v3 25 5 Tryd.underlying25 Tryd.underlying5 (HI.out.2.2.2.below K3.out.1) c 9 Tryd.underlying9
  go_wp2_with fail
  refine (works_any v3 (HI.out.1.keep K3.out.1)).mono ?_
  rintro e v4 ⟨rfl, hb⟩
  have K4 := Lib.hid (next K3.out.1 hb)
  clear hb ez eb
  go_wp2_with fail
  go_ret
  exact ⟨rfl, K4.out⟩
set_option maxRecDepth 100000 in
set_option maxHeartbeats 16000000 in
theorem back_law (w : World) (hT : HasT w) (m : Msg) (s : Sl) (hm : MIn0 w w.heap.size m s) (n : Msg) (t : Sl) (hn : MIn0 w w.heap.size n t) (A : Option Addr) (b : List UInt8) (c : Nat) (hle : b.length ≤ c) (hmx : c ≤ maxLen) (hb : Bytes w w.heap.size A b) :
    Calls Tryd.prog 5 #[.agg (mv m s), .agg (mv n t), .slice A b.length c] w fun e w' => e = .returned (.bool true) ∧ Below w.heap.size w w' := by
  by_cases hok : few m = true ∧ few n = true ∧ b.length ≤ 5000
  · obtain ⟨hf, hg, hbl⟩ := hok
    cases hmm : may m with
    | false =>
      cases hy : Wi.get b with
      | none => exact back_nn w hT m s hm n t hn A b c hle hmx hb hf hg hbl hmm hy
      | some y => exact back_ny w hT m s hm n t hn A b c hle hmx hb hf hg hbl hmm y hy
    | true =>
      cases hnn : may n with
      | false =>
        cases hy : Wi.get b with
        | none => exact back_ynn w hT m s hm n t hn A b c hle hmx hb hf hg hbl _ hmm rfl hnn hy
        | some y => exact back_yny w hT m s hm n t hn A b c hle hmx hb hf hg hbl _ hmm rfl hnn y hy
      | true =>
        cases hy : Wi.get b with
        | none => exact back_yyn w hT m s hm n t hn A b c hle hmx hb hf hg hbl _ hmm rfl _ hnn rfl hy
        | some y => exact back_yyy w hT m s hm n t hn A b c hle hmx hb hf hg hbl _ hmm rfl _ hnn rfl y hy
  · obtain ⟨bx, hbx⟩ : ∃ bx, w.heap.size = bx := ⟨_, rfl⟩
    obtain ⟨w1, hw1⟩ : ∃ x : World, (w.alloc (.cells (mv m s) 27)).alloc (.cells (mv n t) 27) = x := ⟨_, rfl⟩
    have H1 := Lib.hid (show Two w bx m s n t w1 by
      rw [← hw1, ← hbx]
      refine ⟨(Blk.new w _ _).keep (nextA (Mem.start _) _), ?_, nextA (nextA (Mem.start w) _) _⟩
      have := Blk.new (w.alloc (.cells (mv m s) 27)) 27 (mv n t)
      rw [World.size_alloc] at this; exact this)
    have HI := Lib.hid (And.intro hT (And.intro hm hn))
    have ca0 := H1.out.1.cell 0
    have ca1 := H1.out.1.cell 1
    have ca2 := H1.out.1.cell 2
    have ca3 := H1.out.1.cell 3
    have ca4 := H1.out.1.cell 4
    have ca5 := H1.out.1.cell 5
    have ca6 := H1.out.1.cell 6
    have ca7 := H1.out.1.cell 7
    have ca8 := H1.out.1.cell 8
    have ca9 := H1.out.1.cell 9
    have ca10 := H1.out.1.cell 10
    have ca11 := H1.out.1.cell 11
    have ca12 := H1.out.1.cell 12
    have ca13 := H1.out.1.cell 13
    simp [mv] at ca0 ca1 ca2 ca3 ca4 ca5 ca6 ca7 ca8 ca9 ca10 ca11 ca12 ca13
    clear hT hm hn hb hle
    cases hf : few m
    · have HF := Lib.hid hf
      clear hf hok
      go_enter Tryd.func5, Tryd.ntmps5
      go_wp2_with fail
      refine (few_any w1 m s (HI.out.2.1.keep H1.out.2.2)).mono ?_
      rintro e w2 ⟨rfl, hb⟩
      rw [HF.out]
      have H2 := Lib.hid (H1.out.keep hb)
      clear hb ca0 ca1 ca2 ca3 ca4 ca5 ca6 ca7 ca8 ca9 ca10 ca11 ca12 ca13 hw1 hbx
      go_wp2_with fail
      refine (works_any w2 (HI.out.1.keep H2.out.2.2)).mono ?_
      rintro e w3 ⟨rfl, hb⟩
      have H3 := Lib.hid (next H2.out.2.2 hb)
      clear hb
      go_wp2_with fail
      go_ret
      exact ⟨rfl, H3.out⟩
    · have HF := Lib.hid hf
      cases hg : few n
      · have HG := Lib.hid hg
        clear hf hg hok
        go_enter Tryd.func5, Tryd.ntmps5
        go_wp2_with fail
        refine (few_any w1 m s (HI.out.2.1.keep H1.out.2.2)).mono ?_
        rintro e w2 ⟨rfl, hb⟩
        rw [HF.out]
        have H2 := Lib.hid (H1.out.keep hb)
        clear hb ca0 ca1 ca2 ca3 ca4 ca5 ca6 ca7 ca8 ca9 ca10 ca11 ca12 ca13 hw1 hbx
        have cb0 := H2.out.2.1.cell 0
        have cb1 := H2.out.2.1.cell 1
        have cb2 := H2.out.2.1.cell 2
        have cb3 := H2.out.2.1.cell 3
        have cb4 := H2.out.2.1.cell 4
        have cb5 := H2.out.2.1.cell 5
        have cb6 := H2.out.2.1.cell 6
        have cb7 := H2.out.2.1.cell 7
        have cb8 := H2.out.2.1.cell 8
        have cb9 := H2.out.2.1.cell 9
        have cb10 := H2.out.2.1.cell 10
        have cb11 := H2.out.2.1.cell 11
        have cb12 := H2.out.2.1.cell 12
        have cb13 := H2.out.2.1.cell 13
        simp [mv] at cb0 cb1 cb2 cb3 cb4 cb5 cb6 cb7 cb8 cb9 cb10 cb11 cb12 cb13
        go_wp2_with fail
        refine (few_any w2 n t (HI.out.2.2.keep H2.out.2.2)).mono ?_
        rintro e w3 ⟨rfl, hb⟩
        rw [HG.out]
        have H3 := Lib.hid (H2.out.keep hb)
        clear hb cb0 cb1 cb2 cb3 cb4 cb5 cb6 cb7 cb8 cb9 cb10 cb11 cb12 cb13
        go_wp2_with fail
        refine (works_any w3 (HI.out.1.keep H3.out.2.2)).mono ?_
        rintro e w4 ⟨rfl, hb⟩
        have H4 := Lib.hid (next H3.out.2.2 hb)
        clear hb
        go_wp2_with fail
        go_ret
        exact ⟨rfl, H4.out⟩
      · have HG := Lib.hid hg
        have hl : ¬ b.length ≤ 5000 := fun h => hok ⟨hf, hg, h⟩
        have dl : decide ((5000 : Int) < ((b.length : Nat) : Int)) = true := decide_eq_true (by omega)
        clear hf hg hok hl
        go_enter Tryd.func5, Tryd.ntmps5
        go_wp2_with fail
        refine (few_any w1 m s (HI.out.2.1.keep H1.out.2.2)).mono ?_
        rintro e w2 ⟨rfl, hb⟩
        rw [HF.out]
        have H2 := Lib.hid (H1.out.keep hb)
        clear hb ca0 ca1 ca2 ca3 ca4 ca5 ca6 ca7 ca8 ca9 ca10 ca11 ca12 ca13 hw1 hbx
        have cb0 := H2.out.2.1.cell 0
        have cb1 := H2.out.2.1.cell 1
        have cb2 := H2.out.2.1.cell 2
        have cb3 := H2.out.2.1.cell 3
        have cb4 := H2.out.2.1.cell 4
        have cb5 := H2.out.2.1.cell 5
        have cb6 := H2.out.2.1.cell 6
        have cb7 := H2.out.2.1.cell 7
        have cb8 := H2.out.2.1.cell 8
        have cb9 := H2.out.2.1.cell 9
        have cb10 := H2.out.2.1.cell 10
        have cb11 := H2.out.2.1.cell 11
        have cb12 := H2.out.2.1.cell 12
        have cb13 := H2.out.2.1.cell 13
        simp [mv] at cb0 cb1 cb2 cb3 cb4 cb5 cb6 cb7 cb8 cb9 cb10 cb11 cb12 cb13
        go_wp2_with fail
        refine (few_any w2 n t (HI.out.2.2.keep H2.out.2.2)).mono ?_
        rintro e w3 ⟨rfl, hb⟩
        rw [HG.out]
        have H3 := Lib.hid (H2.out.keep hb)
        clear hb cb0 cb1 cb2 cb3 cb4 cb5 cb6 cb7 cb8 cb9 cb10 cb11 cb12 cb13
        go_wp2_with fail
        refine (works_any w3 (HI.out.1.keep H3.out.2.2)).mono ?_
        rintro e w4 ⟨rfl, hb⟩
        have H4 := Lib.hid (next H3.out.2.2 hb)
        clear hb
        go_wp2_with fail
        go_ret
        exact ⟨rfl, H4.out⟩
end Go.Proofs.YtebdmfmadbikaaaDoor.WiW
/- The law WireGets, walked. Printed by genwgets.py (raw numbers of the seat). -/
namespace Go.Proofs.YtebdmfmadbikaaaDoor.WiW
open Go.RowKit Go.Shelf Mem Fds FdW Wi Rng
set_option linter.unusedVariables false
set_option linter.unusedSimpArgs false

theorem rget_yes (w : World) (A : Option Addr) (b : List UInt8) (n c : Nat) (hn : n = b.length) (hnc : n ≤ c) (hcc : c ≤ 9223372036854775807) (hA : Bytes w w.heap.size A b) (hbl : b.length ≤ 1000000) (m : Msg) (hg : Wi.get b = some m) :
    Calls Tryd.prog 16 #[.slice A n c] w fun e w' => ∃ A1 c1 na nc, e = .returned (.tuple #[.agg (pv m A1 c1 na nc), .bool true]) ∧ PIn w' w'.heap.size m A1 na ∧ Below w.heap.size w w' := by
  refine (rget_any w A b n c hn hnc hcc hA hbl).mono fun e w' h => ?_
  obtain ⟨hb, h⟩ := h
  rw [hg] at h
  obtain ⟨A1, c1, na, nc, h1, h2⟩ := h
  exact ⟨A1, c1, na, nc, h1, h2, hb⟩
theorem rget_no (w : World) (A : Option Addr) (b : List UInt8) (n c : Nat) (hn : n = b.length) (hnc : n ≤ c) (hcc : c ≤ 9223372036854775807) (hA : Bytes w w.heap.size A b) (hbl : b.length ≤ 1000000) (hg : Wi.get b = none) :
    Calls Tryd.prog 16 #[.slice A n c] w fun e w' => e = .returned (.tuple #[.agg (pv mz none 0 none 0), .bool false]) ∧ Below w.heap.size w w' := by
  refine (rget_any w A b n c hn hnc hcc hA hbl).mono fun e w' h => ?_
  obtain ⟨hb, h⟩ := h
  rw [hg] at h
  exact ⟨h, hb⟩
theorem brow_fr {S : Nat → Prop} {w w' : World} {T : TypeId} {g c : Nat} {xs : List Value} (h : BRow w T g c xs) (hf : Fr S w w') (hg : ¬ S g) : BRow w' T g c xs := by
  obtain ⟨cur, fz, h1, r⟩ := h
  exact ⟨cur, fz, (hf.block g (Array.getElem?_eq_some_iff.1 h1).1 hg).trans h1, r⟩
theorem mz_pin (w : World) : PIn w w.heap.size mz none none := ⟨fun h => by simp [mz, msg0] at h, fun h => by simp [mz, msg0] at h, by decide, by decide, by decide, by decide, by decide, fun x hx => by cases hx⟩
theorem mz_min (w : World) : MIn w w.heap.size mz s0 := ⟨fun h => by simp [mz, msg0] at h, fun h => by simp [mz, msg0] at h, fun h => by simp [mz, msg0] at h, by decide, by decide, by decide, by decide, by decide, fun x hx => by cases hx⟩
/-- The law's boxes, and what came before. -/
def Gx (w : World) (g ck bx byx : Nat) (b : List UInt8) (B1 : Nat) (m : Msg) (s : Sl) (A1 : Option Addr) (c1 : Nat) (na : Option Addr) (nc : Nat) (V : World) : Prop :=
  Blk V bx 27 (mv m s) ∧ Blk V byx 33 (pv m A1 c1 na nc) ∧ Below w.heap.size w V ∧ BRow V 5 g ck (b.map u8v) ∧ RowsO V B1 m s ∧ PIn V V.heap.size m A1 na ∧ MIn V V.heap.size m s
theorem Gx.keep {w V V' : World} {g ck bx byx : Nat} {b : List UInt8} {B1 : Nat} {m : Msg} {s : Sl} {A1 : Option Addr} {c1 : Nat} {na : Option Addr} {nc : Nat} (h : Gx w g ck bx byx b B1 m s A1 c1 na nc V) (hb : Below V.heap.size V V') : Gx w g ck bx byx b B1 m s A1 c1 na nc V' :=
  ⟨h.1.keep hb, h.2.1.keep hb, next h.2.2.1 hb, h.2.2.2.1.keep hb, h.2.2.2.2.1.keep hb, h.2.2.2.2.2.1.keep hb, h.2.2.2.2.2.2.keep hb⟩
set_option maxRecDepth 100000 in
set_option maxHeartbeats 16000000 in
theorem gets_no (w : World) (hT : HasT w) (A : Option Addr) (b : List UInt8) (c : Nat) (hle : b.length ≤ c) (hmx : c ≤ maxLen) (hb : Bytes w w.heap.size A b) (hl : b.length ≤ 5000) (hg : Wi.get b = none) :
    Calls Tryd.prog 4 #[.slice A b.length c] w fun e w' => e = .returned (.bool true) ∧ Below w.heap.size w w' := by
  have HI := Lib.hid (And.intro hT hb)
  obtain ⟨L, hL⟩ : ∃ L, b.length = L := ⟨_, rfl⟩
  have es := run_str (P := Tryd.prog) w 25 5 Tryd.underlying25 Tryd.underlying5 hb c 9 Tryd.underlying9
  have HL := Lib.hid (show b.length = L ∧ L ≤ 5000 ∧ L ≤ c ∧ c ≤ 9223372036854775807 from ⟨hL, by omega, by omega, maxle hmx⟩)
  have HG := Lib.hid hg
  rw [hL] at es ⊢
  have dl : decide ((5000 : Int) < ((L : Nat) : Int)) = false := decide_eq_false (by omega)
  clear hT hb hle hmx hl hg hL
  go_enter Tryd.func4, Tryd.ntmps4
  go_wp2_with ((with_reducible show wpList _ _ _ ((⟨some 15, _, _, _, _, _⟩ : Oper) :: _) _ _); refine wpList_bytesOfB w (by rfl) 9 25 (.tmp 14) rfl 5 Tryd.underlying9 Tryd.underlying25 Tryd.underlying5 b (by rw [HL.out.1]; have := HL.out.2.1; unfold maxLen; omega) rfl ?_; intro ck w1 hck hr hbl hs; rw [HL.out.1] at hck ⊢; obtain ⟨g, hgw⟩ : ∃ q, w.heap.size = q := ⟨_, rfl⟩; rw [hgw] at hr ⊢; have H1 := Lib.hid (show BRow w1 5 g ck (b.map u8v) ∧ Below w.heap.size w w1 ∧ L ≤ ck ∧ g = w.heap.size from ⟨hr, hbl, hck, hgw.symm⟩); clear hck hr hbl hs hgw)
  refine (get_no w1 (some ⟨g, 0, none⟩) b L ck HL.out.1.symm H1.out.2.2.1 (maxle (by obtain ⟨_, _, _, _, _, _, _, h⟩ := H1.out.1; exact h)) H1.out.1.row.cells (HI.out.1.keep H1.out.2.1) (by rw [HL.out.1]; have := HL.out.2.1; omega) HG.out).mono ?_
  rintro e w2 ⟨rfl, hb⟩
  have H2 := Lib.hid (And.intro (H1.out.1.keep hb) (next H1.out.2.1 hb))
  clear hb dl es
  go_wp2_with ((with_reducible show wpList _ _ _ ((⟨none, .store _ _ _, _, _, _, _⟩ : Oper) :: _) _ _); refine wpList_store_msg w2 rfl (.tmp 4) (.tmp 19) rfl (mz) s0 rfl rfl ?_; intro w3 hB hW; obtain ⟨bx, hbx⟩ : ∃ x, w2.heap.size = x := ⟨_, rfl⟩; rw [hbx] at hB ⊢; have H3 := Lib.hid (show Bx w bx mz s0 w3 ∧ BRow w3 5 g ck (b.map u8v)  from ⟨⟨hB, next H2.out.2 hW⟩, H2.out.1.keep hW⟩); clear hB hW hbx)
  refine (rget_no w3 A b L c HL.out.1.symm HL.out.2.2.1 HL.out.2.2.2 ((HI.out.2.below H3.out.1.2).up H3.out.1.2.size) (by rw [HL.out.1]; have := HL.out.2.1; omega) HG.out).mono ?_
  rintro e w4 ⟨rfl, hb⟩
  have H4 := Lib.hid (And.intro (H3.out.1.keep hb) (H3.out.2.keep hb))
  clear hb
  obtain ⟨byx, hby⟩ : ∃ x, w4.heap.size = x := ⟨_, rfl⟩
  have hB4 := Blk.new w4 33 #[.int .u8 0, .int .i64 0, .int .i64 0, .int .i64 0, .string { data := #[] }, .int .i64 0, .int .i64 0, .int .i64 0, .int .i64 0, .int .i64 0, .bool false, .slice none 0 0, .slice none 0 0, .string { data := #[] }]
  rw [hby] at hB4
  have HB4 := Lib.hid hB4
  have HBY := Lib.hid hby
  clear hB4
  go_wp2_with ((with_reducible show wpList _ _ _ ((⟨none, .store _ _ _, _, _, _, _⟩ : Oper) :: _) _ _); refine wpList_store_mid rfl 33 (.tmp 6) (.tmp 24) rfl byx 0 (pvk mz none 0 0 none 0) (by simp [Act.eval, hby]) rfl (there_p HB4.out) pinfo (pvk_one _ _ _ _ _ _) ?_)
  have hf5 : Fr (fun k => k = byx) (w4.alloc (.cells #[.int .u8 0, .int .i64 0, .int .i64 0, .int .i64 0, .string { data := #[] }, .int .i64 0, .int .i64 0, .int .i64 0, .int .i64 0, .int .i64 0, .bool false, .slice none 0 0, .slice none 0 0, .string { data := #[] }] 33)) ((w4.alloc (.cells #[.int .u8 0, .int .i64 0, .int .i64 0, .int .i64 0, .string { data := #[] }, .int .i64 0, .int .i64 0, .int .i64 0, .int .i64 0, .int .i64 0, .bool false, .slice none 0 0, .slice none 0 0, .string { data := #[] }] 33)).setCells byx 0 (pvk mz none 0 0 none 0).toList) := fr_setCells (S := fun k => k = byx) rfl _ _ _ (Fr.refl _ _)
  obtain ⟨w5, hw5⟩ : ∃ x, (w4.alloc (.cells #[.int .u8 0, .int .i64 0, .int .i64 0, .int .i64 0, .string { data := #[] }, .int .i64 0, .int .i64 0, .int .i64 0, .int .i64 0, .int .i64 0, .bool false, .slice none 0 0, .slice none 0 0, .string { data := #[] }] 33)).setCells byx 0 (pvk mz none 0 0 none 0).toList = x := ⟨_, rfl⟩
  have hB5 := set14p HB4.out mz none 0 0 none 0
  rw [hw5] at hf5 hB5 ⊢
  have hb5 : Below w4.heap.size w4 w5 := (nextA (Mem.start w4) _).trans (hf5.below (by simp) fun k hk => by omega)
  have H5 := Lib.hid (show Gx w g ck bx byx b w1.heap.size mz s0 none 0 none 0 w5 from ⟨H4.out.1.1.keep hb5, hB5, next H4.out.1.2 hb5, H4.out.2.keep hb5, ⟨OwnK.nil, Own.nil, Own.nil⟩, mz_pin w5, mz_min w5⟩)
  clear hf5 hB5 hb5 hw5 hby
  refine wp_region_noPanic ?_
  refine wp_heldG (fun V => Gx w g ck bx byx b w1.heap.size mz s0 none 0 none 0 V) [] (by kernel_rfl) ?hs0 ?rg0
  case hs0 =>
    exact H5.out.keep (nextN (Mem.start _) 1)
  case rg0 =>
  intro hHeld
  refine puG 0 ⟨some 26, .move (.tmp 5), 22, _, #[], none⟩ (v := ?_) ?_ (fun _ => by assumption) ?_
  rotate_left
  · intro w hSw
    try dsimp only at hSw
    go_simp
    try with_reducible rfl
  try simp only [Act.put, List.setIfInBounds_toArray, List.set_cons_zero, List.set_cons_succ]
  refine puG 1 ⟨some 27, .binOp BinOp.eql 22 (.tmp 26) (Operand.const (Value.int IntKind.i64 0)) 22, 4, _, #[⟨0, .data⟩], none⟩ (v := ?_) ?_ (fun _ => by assumption) ?_
  rotate_left
  · intro w hSw
    try dsimp only at hSw
    go_simp
    try with_reducible rfl
  try simp only [Act.put, List.setIfInBounds_toArray, List.set_cons_zero, List.set_cons_succ]
  refine puG 2 ⟨some 28, .move (.tmp 7), 4, _, #[], none⟩ (v := ?_) ?_ (fun _ => by assumption) ?_
  rotate_left
  · intro w hSw
    try dsimp only at hSw
    go_simp
    try with_reducible rfl
  try simp only [Act.put, List.setIfInBounds_toArray, List.set_cons_zero, List.set_cons_succ]
  refine puG 3 ⟨some 29, .binOp BinOp.neq 4 (.tmp 27) (.tmp 28) 4, 4, _, #[⟨1, .data⟩, ⟨2, .data⟩], none⟩ (v := ?_) ?_ (fun _ => by assumption) ?_
  rotate_left
  · intro w hSw
    try dsimp only at hSw
    go_simp
    try with_reducible rfl
  try simp only [Act.put, List.setIfInBounds_toArray, List.set_cons_zero, List.set_cons_succ]
  refine puG 4 ⟨some 30, .move (.tmp 29), 4, _, #[⟨3, .data⟩], none⟩ (v := ?_) ?_ (fun _ => by assumption) ?_
  rotate_left
  · intro w hSw
    try dsimp only at hSw
    go_simp
    try with_reducible rfl
  try simp only [Act.put, List.setIfInBounds_toArray, List.set_cons_zero, List.set_cons_succ]
  refine puG 5 ⟨some 31, .move (.tmp 7), 4, _, #[⟨4, .guard⟩], some (4, false)⟩ (v := ?_) ?_ (fun _ => by assumption) ?_
  rotate_left
  · intro w hSw
    try dsimp only at hSw
    go_simp
    try with_reducible rfl
  try simp only [Act.put, List.setIfInBounds_toArray, List.set_cons_zero, List.set_cons_succ]
  refine puG 6 ⟨some 32, .unOp UnOp.not 4 (.tmp 31), 4, _, #[⟨5, .data⟩, ⟨4, .guard⟩], some (4, false)⟩ (v := ?_) ?_ (fun _ => by assumption) ?_
  rotate_left
  · intro w hSw
    try dsimp only at hSw
    go_simp
    try with_reducible rfl
  try simp only [Act.put, List.setIfInBounds_toArray, List.set_cons_zero, List.set_cons_succ]
  refine puG 7 ⟨some 33, .move (.tmp 32), 4, _, #[⟨6, .data⟩, ⟨4, .chain⟩, ⟨4, .guard⟩], some (4, false)⟩ (v := ?_) ?_ (fun _ => by assumption) ?_
  rotate_left
  · intro w hSw
    try dsimp only at hSw
    go_simp
    try with_reducible rfl
  try simp only [Act.put, List.setIfInBounds_toArray, List.set_cons_zero, List.set_cons_succ]
  refine puG 8 ⟨some 34, .move (.tmp 5), 22, _, #[⟨7, .guard⟩], some (7, true)⟩ (v := ?_) ?_ (fun _ => by assumption) ?_
  rotate_left
  · intro w hSw
    try dsimp only at hSw
    go_simp
    try with_reducible rfl
  try simp only [Act.put, List.setIfInBounds_toArray, List.set_cons_zero, List.set_cons_succ]
  refine puG 9 ⟨some 35, .binOp BinOp.neq 22 (.tmp 34) (Operand.const (Value.int IntKind.i64 170)) 22, 4, _, #[⟨8, .data⟩, ⟨7, .guard⟩], some (7, true)⟩ (v := ?_) ?_ (fun _ => by assumption) ?_
  rotate_left
  · intro w hSw
    try dsimp only at hSw
    go_simp
    try with_reducible rfl
  try simp only [Act.put, List.setIfInBounds_toArray, List.set_cons_zero, List.set_cons_succ]
  refine puG 10 ⟨some 36, .pick (.tmp 33) (.tmp 35) (Operand.const (Value.bool false)), 4, _, #[⟨7, .data⟩, ⟨9, .data⟩, ⟨4, .guard⟩], some (4, false)⟩ (v := ?_) ?_ (fun _ => by assumption) ?_
  rotate_left
  · intro w hSw
    try dsimp only at hSw
    go_simp
    try with_reducible rfl
  try simp only [Act.put, List.setIfInBounds_toArray, List.set_cons_zero, List.set_cons_succ]
  refine puG 11 ⟨some 37, .pick (.tmp 30) (Operand.const (Value.bool true)) (.tmp 36), 4, _, #[⟨4, .data⟩, ⟨10, .data⟩], none⟩ (v := ?_) ?_ (fun _ => by assumption) ?_
  rotate_left
  · intro w hSw
    try dsimp only at hSw
    go_simp
    try with_reducible rfl
  try simp only [Act.put, List.setIfInBounds_toArray, List.set_cons_zero, List.set_cons_succ]
  refine puG 12 ⟨some 38, .move (.tmp 37), 4, _, #[⟨11, .data⟩, ⟨7, .chain⟩], none⟩ (v := ?_) ?_ (fun _ => by assumption) ?_
  rotate_left
  · intro w hSw
    try dsimp only at hSw
    go_simp
    try with_reducible rfl
  try simp only [Act.put, List.setIfInBounds_toArray, List.set_cons_zero, List.set_cons_succ]
  refine tkG 13 ⟨some 39, .load 27 (.tmp 4), 27, _, #[⟨12, .guard⟩], some (12, false)⟩ (v := ?_) ?_ (by assumption) ?_
  rotate_left
  · intro w hSw
    try dsimp only at hSw
    refine exec_load 27 (.tmp 4) ?_ _ ?_ (.agg (mv mz s0)) (load_msg hSw.1)
    · rfl
    · rfl
  try simp only [Act.put, List.setIfInBounds_toArray, List.set_cons_zero, List.set_cons_succ]
  refine tkG 15 ⟨some 41, .load 33 (.tmp 6), 33, _, #[⟨12, .guard⟩], some (12, false)⟩ (v := ?_) ?_ (by assumption) ?_
  rotate_left
  · intro w hSw
    try dsimp only at hSw
    refine exec_load 33 (.tmp 6) ?_ _ ?_ (.agg (pv mz none 0 none 0)) (load_pv hSw.2.1)
    · rfl
    · rfl
  try simp only [Act.put, List.setIfInBounds_toArray, List.set_cons_zero, List.set_cons_succ]
  refine onG 14 ⟨some 40, .call { callee := Callee.value (Operand.func 12), args := #[.tmp 39], argTypes := #[27] }, 33, _, #[⟨13, .data⟩, ⟨12, .chain⟩, ⟨12, .guard⟩], some (12, false)⟩ (fun K hK => ?_)
  go_simp
  refine (plain_any _ mz s0 hHeld.2.2.2.2.2.2).mono ?_
  rintro e w6 ⟨A6, c6, rfl, hp6, hb⟩
  have HP6 := Lib.hid (And.intro hp6 (hHeld.keep hb))
  clear hp6
  try dsimp only
  refine hK.out _ _ ?_ (fun hHeld => ?_)
  · intro _
    try dsimp only
    exact hHeld.keep hb
  clear hK K
  try simp only [Act.put, List.setIfInBounds_toArray, List.set_cons_zero, List.set_cons_succ]
  have hHeld := hHeld (by kernel_rfl)
  refine onG 16 ⟨some 42, .call { callee := Callee.value (Operand.func 17), args := #[.tmp 40, .tmp 41], argTypes := #[33, 33] }, 4, _, #[⟨14, .data⟩, ⟨15, .data⟩, ⟨14, .chain⟩, ⟨12, .guard⟩], some (12, false)⟩ (fun K hK => ?_)
  go_simp
  refine (rsame_any _ mz mz _ _ _ _ _ _ _ _ HP6.out.1 HP6.out.2.2.2.2.2.2.1).mono ?_
  rintro e w7 ⟨rfl, hb⟩
  rw [same_refl]
  try dsimp only
  refine hK.out _ _ ?_ (fun hHeld => ?_)
  · intro _
    try dsimp only
    exact hHeld.keep hb
  clear hK K
  try simp only [Act.put, List.setIfInBounds_toArray, List.set_cons_zero, List.set_cons_succ]
  have hHeld := hHeld (by kernel_rfl)
  refine puG 17 ⟨some 43, .unOp UnOp.not 4 (.tmp 42), 4, _, #[⟨16, .data⟩, ⟨12, .guard⟩], some (12, false)⟩ (v := ?_) ?_ (fun _ => by assumption) ?_
  rotate_left
  · intro w hSw
    try dsimp only at hSw
    go_simp
    try with_reducible rfl
  try simp only [Act.put, List.setIfInBounds_toArray, List.set_cons_zero, List.set_cons_succ]
  refine puG 18 ⟨some 44, .pick (.tmp 38) (Operand.const (Value.bool true)) (.tmp 43), 4, _, #[⟨12, .data⟩, ⟨17, .data⟩], none⟩ (v := ?_) ?_ (fun _ => by assumption) ?_
  rotate_left
  · intro w hSw
    try dsimp only at hSw
    go_simp
    try with_reducible rfl
  try simp only [Act.put, List.setIfInBounds_toArray, List.set_cons_zero, List.set_cons_succ]
  refine wpAnyG_done (by kernel_rfl) ?_ _
  refine NoPanic.normal ?_
  have H6 := Lib.hid hHeld
  clear hHeld
  go_wp2_with fail
  go_loopw [8] (fun i wr => i = .int .i64 0 ∧ Gx w g ck bx byx b w1.heap.size mz s0 none 0 none 0 wr) (fun _ _ => 0)
  case atStart => exact ⟨rfl, H6.out⟩
  case round =>
      clear H6
      obtain ⟨rfl, hB⟩ := hrel
      have HR := Lib.hid hB
      have d13 := hB.1.cell 13
      simp [mv, mz, msg0, s0] at d13
      clear hB
      have e1 := run_str (P := Tryd.prog) wr 25 5 Tryd.underlying25 Tryd.underlying5 (show Bytes wr wr.heap.size (some ⟨g, 0, none⟩) b from HR.out.2.2.2.1.row.cells) ck 9 Tryd.underlying9
      have e2 := run_str (P := Tryd.prog) wr 25 5 Tryd.underlying25 Tryd.underlying5 (HI.out.2.below HR.out.2.2.1) c 9 Tryd.underlying9
      rw [HL.out.1] at e1 e2
      have eb : ((str b).toList == (str b).toList) = true := by simp
      go_wp2_with fail
      refine (works_any wr (HI.out.1.keep HR.out.2.2.1)).mono ?_
      rintro e w8 ⟨rfl, hb⟩
      have H8 := Lib.hid (next HR.out.2.2.1 hb)
      clear hb
      go_wp2_with fail
      go_ret
      exact ⟨rfl, H8.out⟩
set_option maxRecDepth 100000 in
set_option maxHeartbeats 16000000 in
theorem gets_yes (w : World) (hT : HasT w) (A : Option Addr) (b : List UInt8) (c : Nat) (hle : b.length ≤ c) (hmx : c ≤ maxLen) (hb : Bytes w w.heap.size A b) (hl : b.length ≤ 5000) (m : Msg) (hg : Wi.get b = some m) :
    Calls Tryd.prog 4 #[.slice A b.length c] w fun e w' => e = .returned (.bool true) ∧ Below w.heap.size w w' := by
  have HI := Lib.hid (And.intro hT hb)
  obtain ⟨L, hL⟩ : ∃ L, b.length = L := ⟨_, rfl⟩
  have es := run_str (P := Tryd.prog) w 25 5 Tryd.underlying25 Tryd.underlying5 hb c 9 Tryd.underlying9
  have HL := Lib.hid (show b.length = L ∧ L ≤ 5000 ∧ L ≤ c ∧ c ≤ 9223372036854775807 from ⟨hL, by omega, by omega, maxle hmx⟩)
  have HG := Lib.hid hg
  rw [hL] at es ⊢
  have dl : decide ((5000 : Int) < ((L : Nat) : Int)) = false := decide_eq_false (by omega)
  clear hT hb hle hmx hl hg hL
  go_enter Tryd.func4, Tryd.ntmps4
  go_wp2_with ((with_reducible show wpList _ _ _ ((⟨some 15, _, _, _, _, _⟩ : Oper) :: _) _ _); refine wpList_bytesOfB w (by rfl) 9 25 (.tmp 14) rfl 5 Tryd.underlying9 Tryd.underlying25 Tryd.underlying5 b (by rw [HL.out.1]; have := HL.out.2.1; unfold maxLen; omega) rfl ?_; intro ck w1 hck hr hbl hs; rw [HL.out.1] at hck ⊢; obtain ⟨g, hgw⟩ : ∃ q, w.heap.size = q := ⟨_, rfl⟩; rw [hgw] at hr ⊢; have H1 := Lib.hid (show BRow w1 5 g ck (b.map u8v) ∧ Below w.heap.size w w1 ∧ L ≤ ck ∧ g = w.heap.size from ⟨hr, hbl, hck, hgw.symm⟩); clear hck hr hbl hs hgw)
  refine (get_yes w1 (some ⟨g, 0, none⟩) b L ck HL.out.1.symm H1.out.2.2.1 (maxle (by obtain ⟨_, _, _, _, _, _, _, h⟩ := H1.out.1; exact h)) H1.out.1.row.cells (HI.out.1.keep H1.out.2.1) (by rw [HL.out.1]; have := HL.out.2.1; omega) m HG.out).mono ?_
  rintro e w2 ⟨s, rfl, ho, hb⟩
  have H2 := Lib.hid (And.intro (H1.out.1.keep hb) (And.intro (next H1.out.2.1 hb) ho))
  clear hb dl es
  go_wp2_with ((with_reducible show wpList _ _ _ ((⟨none, .store _ _ _, _, _, _, _⟩ : Oper) :: _) _ _); refine wpList_store_msg w2 rfl (.tmp 4) (.tmp 19) rfl m s rfl rfl ?_; intro w3 hB hW; obtain ⟨bx, hbx⟩ : ∃ x, w2.heap.size = x := ⟨_, rfl⟩; rw [hbx] at hB ⊢; have H3 := Lib.hid (show Bx w bx m s w3 ∧ BRow w3 5 g ck (b.map u8v) ∧ RowsO w3 w1.heap.size m s from ⟨⟨hB, next H2.out.2.1 hW⟩, H2.out.1.keep hW, H2.out.2.2.keep hW⟩); clear hB hW hbx)
  refine (rget_yes w3 A b L c HL.out.1.symm HL.out.2.2.1 HL.out.2.2.2 ((HI.out.2.below H3.out.1.2).up H3.out.1.2.size) (by rw [HL.out.1]; have := HL.out.2.1; omega) m HG.out).mono ?_
  rintro e w4 ⟨A1, c1, na, nc, rfl, hp, hb⟩
  have H4 := Lib.hid (And.intro (H3.out.1.keep hb) (And.intro (H3.out.2.1.keep hb) (And.intro (H3.out.2.2.keep hb) hp)))
  clear hb
  obtain ⟨byx, hby⟩ : ∃ x, w4.heap.size = x := ⟨_, rfl⟩
  have hB4 := Blk.new w4 33 #[.int .u8 0, .int .i64 0, .int .i64 0, .int .i64 0, .string { data := #[] }, .int .i64 0, .int .i64 0, .int .i64 0, .int .i64 0, .int .i64 0, .bool false, .slice none 0 0, .slice none 0 0, .string { data := #[] }]
  rw [hby] at hB4
  have HB4 := Lib.hid hB4
  have HBY := Lib.hid hby
  clear hB4
  go_wp2_with ((with_reducible show wpList _ _ _ ((⟨none, .store _ _ _, _, _, _, _⟩ : Oper) :: _) _ _); refine wpList_store_mid rfl 33 (.tmp 6) (.tmp 24) rfl byx 0 (pvk m A1 m.ids.length c1 na nc) (by simp [Act.eval, hby]) rfl (there_p HB4.out) pinfo (pvk_one _ _ _ _ _ _) ?_)
  have hf5 : Fr (fun k => k = byx) (w4.alloc (.cells #[.int .u8 0, .int .i64 0, .int .i64 0, .int .i64 0, .string { data := #[] }, .int .i64 0, .int .i64 0, .int .i64 0, .int .i64 0, .int .i64 0, .bool false, .slice none 0 0, .slice none 0 0, .string { data := #[] }] 33)) ((w4.alloc (.cells #[.int .u8 0, .int .i64 0, .int .i64 0, .int .i64 0, .string { data := #[] }, .int .i64 0, .int .i64 0, .int .i64 0, .int .i64 0, .int .i64 0, .bool false, .slice none 0 0, .slice none 0 0, .string { data := #[] }] 33)).setCells byx 0 (pvk m A1 m.ids.length c1 na nc).toList) := fr_setCells (S := fun k => k = byx) rfl _ _ _ (Fr.refl _ _)
  obtain ⟨w5, hw5⟩ : ∃ x, (w4.alloc (.cells #[.int .u8 0, .int .i64 0, .int .i64 0, .int .i64 0, .string { data := #[] }, .int .i64 0, .int .i64 0, .int .i64 0, .int .i64 0, .int .i64 0, .bool false, .slice none 0 0, .slice none 0 0, .string { data := #[] }] 33)).setCells byx 0 (pvk m A1 m.ids.length c1 na nc).toList = x := ⟨_, rfl⟩
  have hB5 := set14p HB4.out m A1 m.ids.length c1 na nc
  rw [hw5] at hf5 hB5 ⊢
  have hb5 : Below w4.heap.size w4 w5 := (nextA (Mem.start w4) _).trans (hf5.below (by simp) fun k hk => by omega)
  have H5 := Lib.hid (show Gx w g ck bx byx b w1.heap.size m s A1 c1 na nc w5 from ⟨H4.out.1.1.keep hb5, hB5, next H4.out.1.2 hb5, H4.out.2.1.keep hb5, H4.out.2.2.1.keep hb5, H4.out.2.2.2.keep hb5, (H4.out.2.2.1.min (get_may HG.out)).keep hb5⟩)
  clear hf5 hB5 hb5 hw5 hby
  refine wp_region_noPanic ?_
  refine wp_heldG (fun V => Gx w g ck bx byx b w1.heap.size m s A1 c1 na nc V) [] (by kernel_rfl) ?hs0 ?rg0
  case hs0 =>
    exact H5.out.keep (nextN (Mem.start _) 1)
  case rg0 =>
  intro hHeld
  refine puG 0 ⟨some 26, .move (.tmp 5), 22, _, #[], none⟩ (v := ?_) ?_ (fun _ => by assumption) ?_
  rotate_left
  · intro w hSw
    try dsimp only at hSw
    go_simp
    try with_reducible rfl
  try simp only [Act.put, List.setIfInBounds_toArray, List.set_cons_zero, List.set_cons_succ]
  refine puG 1 ⟨some 27, .binOp BinOp.eql 22 (.tmp 26) (Operand.const (Value.int IntKind.i64 0)) 22, 4, _, #[⟨0, .data⟩], none⟩ (v := ?_) ?_ (fun _ => by assumption) ?_
  rotate_left
  · intro w hSw
    try dsimp only at hSw
    go_simp
    try with_reducible rfl
  try simp only [Act.put, List.setIfInBounds_toArray, List.set_cons_zero, List.set_cons_succ]
  refine puG 2 ⟨some 28, .move (.tmp 7), 4, _, #[], none⟩ (v := ?_) ?_ (fun _ => by assumption) ?_
  rotate_left
  · intro w hSw
    try dsimp only at hSw
    go_simp
    try with_reducible rfl
  try simp only [Act.put, List.setIfInBounds_toArray, List.set_cons_zero, List.set_cons_succ]
  refine puG 3 ⟨some 29, .binOp BinOp.neq 4 (.tmp 27) (.tmp 28) 4, 4, _, #[⟨1, .data⟩, ⟨2, .data⟩], none⟩ (v := ?_) ?_ (fun _ => by assumption) ?_
  rotate_left
  · intro w hSw
    try dsimp only at hSw
    go_simp
    try with_reducible rfl
  try simp only [Act.put, List.setIfInBounds_toArray, List.set_cons_zero, List.set_cons_succ]
  refine puG 4 ⟨some 30, .move (.tmp 29), 4, _, #[⟨3, .data⟩], none⟩ (v := ?_) ?_ (fun _ => by assumption) ?_
  rotate_left
  · intro w hSw
    try dsimp only at hSw
    go_simp
    try with_reducible rfl
  try simp only [Act.put, List.setIfInBounds_toArray, List.set_cons_zero, List.set_cons_succ]
  refine puG 5 ⟨some 31, .move (.tmp 7), 4, _, #[⟨4, .guard⟩], some (4, false)⟩ (v := ?_) ?_ (fun _ => by assumption) ?_
  rotate_left
  · intro w hSw
    try dsimp only at hSw
    go_simp
    try with_reducible rfl
  try simp only [Act.put, List.setIfInBounds_toArray, List.set_cons_zero, List.set_cons_succ]
  refine puG 6 ⟨some 32, .unOp UnOp.not 4 (.tmp 31), 4, _, #[⟨5, .data⟩, ⟨4, .guard⟩], some (4, false)⟩ (v := ?_) ?_ (fun _ => by assumption) ?_
  rotate_left
  · intro w hSw
    try dsimp only at hSw
    go_simp
    try with_reducible rfl
  try simp only [Act.put, List.setIfInBounds_toArray, List.set_cons_zero, List.set_cons_succ]
  refine puG 7 ⟨some 33, .move (.tmp 32), 4, _, #[⟨6, .data⟩, ⟨4, .chain⟩, ⟨4, .guard⟩], some (4, false)⟩ (v := ?_) ?_ (fun _ => by assumption) ?_
  rotate_left
  · intro w hSw
    try dsimp only at hSw
    go_simp
    try with_reducible rfl
  try simp only [Act.put, List.setIfInBounds_toArray, List.set_cons_zero, List.set_cons_succ]
  refine ofG 8 ⟨some 34, .move (.tmp 5), 22, _, #[⟨7, .guard⟩], some (7, true)⟩ (fun _ => by assumption) ?_
  try simp only [Act.put, List.setIfInBounds_toArray, List.set_cons_zero, List.set_cons_succ]
  refine ofG 9 ⟨some 35, .binOp BinOp.neq 22 (.tmp 34) (Operand.const (Value.int IntKind.i64 170)) 22, 4, _, #[⟨8, .data⟩, ⟨7, .guard⟩], some (7, true)⟩ (fun _ => by assumption) ?_
  try simp only [Act.put, List.setIfInBounds_toArray, List.set_cons_zero, List.set_cons_succ]
  refine puG 10 ⟨some 36, .pick (.tmp 33) (.tmp 35) (Operand.const (Value.bool false)), 4, _, #[⟨7, .data⟩, ⟨9, .data⟩, ⟨4, .guard⟩], some (4, false)⟩ (v := ?_) ?_ (fun _ => by assumption) ?_
  rotate_left
  · intro w hSw
    try dsimp only at hSw
    go_simp
    try with_reducible rfl
  try simp only [Act.put, List.setIfInBounds_toArray, List.set_cons_zero, List.set_cons_succ]
  refine puG 11 ⟨some 37, .pick (.tmp 30) (Operand.const (Value.bool true)) (.tmp 36), 4, _, #[⟨4, .data⟩, ⟨10, .data⟩], none⟩ (v := ?_) ?_ (fun _ => by assumption) ?_
  rotate_left
  · intro w hSw
    try dsimp only at hSw
    go_simp
    try with_reducible rfl
  try simp only [Act.put, List.setIfInBounds_toArray, List.set_cons_zero, List.set_cons_succ]
  refine puG 12 ⟨some 38, .move (.tmp 37), 4, _, #[⟨11, .data⟩, ⟨7, .chain⟩], none⟩ (v := ?_) ?_ (fun _ => by assumption) ?_
  rotate_left
  · intro w hSw
    try dsimp only at hSw
    go_simp
    try with_reducible rfl
  try simp only [Act.put, List.setIfInBounds_toArray, List.set_cons_zero, List.set_cons_succ]
  refine tkG 13 ⟨some 39, .load 27 (.tmp 4), 27, _, #[⟨12, .guard⟩], some (12, false)⟩ (v := ?_) ?_ (by assumption) ?_
  rotate_left
  · intro w hSw
    try dsimp only at hSw
    refine exec_load 27 (.tmp 4) ?_ _ ?_ (.agg (mv m s)) (load_msg hSw.1)
    · rfl
    · rfl
  try simp only [Act.put, List.setIfInBounds_toArray, List.set_cons_zero, List.set_cons_succ]
  refine tkG 15 ⟨some 41, .load 33 (.tmp 6), 33, _, #[⟨12, .guard⟩], some (12, false)⟩ (v := ?_) ?_ (by assumption) ?_
  rotate_left
  · intro w hSw
    try dsimp only at hSw
    refine exec_load 33 (.tmp 6) ?_ _ ?_ (.agg (pv m A1 c1 na nc)) (load_pv hSw.2.1)
    · rfl
    · rfl
  try simp only [Act.put, List.setIfInBounds_toArray, List.set_cons_zero, List.set_cons_succ]
  refine onG 14 ⟨some 40, .call { callee := Callee.value (Operand.func 12), args := #[.tmp 39], argTypes := #[27] }, 33, _, #[⟨13, .data⟩, ⟨12, .chain⟩, ⟨12, .guard⟩], some (12, false)⟩ (fun K hK => ?_)
  go_simp
  refine (plain_any _ m s hHeld.2.2.2.2.2.2).mono ?_
  rintro e w6 ⟨A6, c6, rfl, hp6, hb⟩
  have HP6 := Lib.hid (And.intro hp6 (hHeld.keep hb))
  clear hp6
  try dsimp only
  refine hK.out _ _ ?_ (fun hHeld => ?_)
  · intro _
    try dsimp only
    exact hHeld.keep hb
  clear hK K
  try simp only [Act.put, List.setIfInBounds_toArray, List.set_cons_zero, List.set_cons_succ]
  have hHeld := hHeld (by kernel_rfl)
  refine onG 16 ⟨some 42, .call { callee := Callee.value (Operand.func 17), args := #[.tmp 40, .tmp 41], argTypes := #[33, 33] }, 4, _, #[⟨14, .data⟩, ⟨15, .data⟩, ⟨14, .chain⟩, ⟨12, .guard⟩], some (12, false)⟩ (fun K hK => ?_)
  go_simp
  refine (rsame_any _ m m _ _ _ _ _ _ _ _ HP6.out.1 HP6.out.2.2.2.2.2.2.1).mono ?_
  rintro e w7 ⟨rfl, hb⟩
  rw [same_refl]
  try dsimp only
  refine hK.out _ _ ?_ (fun hHeld => ?_)
  · intro _
    try dsimp only
    exact hHeld.keep hb
  clear hK K
  try simp only [Act.put, List.setIfInBounds_toArray, List.set_cons_zero, List.set_cons_succ]
  have hHeld := hHeld (by kernel_rfl)
  refine puG 17 ⟨some 43, .unOp UnOp.not 4 (.tmp 42), 4, _, #[⟨16, .data⟩, ⟨12, .guard⟩], some (12, false)⟩ (v := ?_) ?_ (fun _ => by assumption) ?_
  rotate_left
  · intro w hSw
    try dsimp only at hSw
    go_simp
    try with_reducible rfl
  try simp only [Act.put, List.setIfInBounds_toArray, List.set_cons_zero, List.set_cons_succ]
  refine puG 18 ⟨some 44, .pick (.tmp 38) (Operand.const (Value.bool true)) (.tmp 43), 4, _, #[⟨12, .data⟩, ⟨17, .data⟩], none⟩ (v := ?_) ?_ (fun _ => by assumption) ?_
  rotate_left
  · intro w hSw
    try dsimp only at hSw
    go_simp
    try with_reducible rfl
  try simp only [Act.put, List.setIfInBounds_toArray, List.set_cons_zero, List.set_cons_succ]
  refine wpAnyG_done (by kernel_rfl) ?_ _
  refine NoPanic.normal ?_
  have H6 := Lib.hid hHeld
  clear hHeld
  go_wp2_with fail
  obtain ⟨D, hD⟩ : ∃ D, m.data.length = D := ⟨_, rfl⟩
  have HD := Lib.hid (show m.data.length = D ∧ D ≤ 65536 from ⟨hD, by have := ((may_iff m).1 (get_may HG.out)).data; omega⟩)
  have HQ := Lib.hid (show g < w1.heap.size ∧ w.heap.size ≤ w1.heap.size from ⟨H1.out.1.lt, H1.out.2.1.size⟩)
  go_loopw [8] (fun i wr => ∃ (j : Nat) (l1 : List UInt8), i = .int .i64 (j : Int) ∧ j ≤ D ∧ l1.length = D ∧ Mem.Own wr w1.heap.size 5 s.da s.dk (l1.map u8v) ∧ Blk wr bx 27 (mv m s) ∧ BRow wr 5 g ck (b.map u8v) ∧ Below w.heap.size w wr) (fun i _ => D - (intOf i).toNat)
  case atStart => exact ⟨0, m.data, rfl, Nat.zero_le _, hD, H6.out.2.2.2.2.1.2.2, H6.out.1, H6.out.2.2.2.1, H6.out.2.2.1⟩
  case round =>
      clear H6
      obtain ⟨j, l1, rfl, hj, hl1, ho, hx, hB, hw⟩ := hrel
      have HX := Lib.hid (And.intro hx (And.intro hB (And.intro hw ho)))
      have HL1 := Lib.hid hl1
      have cx13 := hx.cell 13
      simp [mv] at cx13
      rw [hD] at cx13
      clear hx hB hw
      by_cases hjl : j < D
      · have hii : (j : Int) < (D : Int) := by omega
        have h0 : (0 : Int) ≤ (j : Int) := by omega
        obtain ⟨gd, e, hbg, hlt, hc', hz, hset⟩ := ho.at_ (k := j) (by rw [List.length_map]; omega)
        obtain ⟨x, hx⟩ : ∃ x, l1[j]'(by omega) = x := ⟨_, rfl⟩
        have hc : wr.cell? ⟨gd, j, none⟩ = some (.int .u8 (x.toNat : Int)) := by rw [hc', List.getElem_map, hx]; rfl
        have hw : IntKind.u8.wrap ((x.toNat : Int) + 1) = ((x + 1).toNat : Int) := by
          have := x.toNat_lt
          rw [UInt8.toNat_add]
          show ((x.toNat : Int) + 1) % 256 = (((x.toNat + 1) % 256 : Nat) : Int)
          omega
        have HR := Lib.hid (show Mem.Own (wr.setCell ⟨gd, j, none⟩ (.int .u8 ((x + 1).toNat : Int))) w1.heap.size 5 s.da s.dk ((l1.set j (x + 1)).map u8v) from by rw [List.map_set]; exact hset _)
        have hfr : Fr (fun k => k = gd) wr (wr.setCell ⟨gd, j, none⟩ (.int .u8 ((x + 1).toNat : Int))) := (Fr.refl (fun k => k = gd) wr).setCell (p := ⟨gd, j, none⟩) (fun _ => rfl) _
        have HN := Lib.hid (show Blk (wr.setCell ⟨gd, j, none⟩ (.int .u8 ((x + 1).toNat : Int))) bx 27 (mv m s) ∧ BRow (wr.setCell ⟨gd, j, none⟩ (.int .u8 ((x + 1).toNat : Int))) 5 g ck (b.map u8v) ∧ Below w.heap.size w (wr.setCell ⟨gd, j, none⟩ (.int .u8 ((x + 1).toNat : Int))) from
          ⟨HX.out.1.fr hfr (fun h => HX.out.1.ne_own ho (by decide) gd e h.symm), brow_fr HX.out.2.1 hfr (by have := HQ.out.1; omega), HX.out.2.2.1.trans (hfr.below HX.out.2.2.1.size fun k hk => by have := HQ.out.2; omega)⟩)
        rw [e] at cx13
        clear hc' hset hx hlt ho hl1 hfr hD e
        have HT := Lib.hid (And.intro cx13 (And.intro hc hz))
        have HW := Lib.hid (show ((x.toNat : Int) + 1) % 256 = ((x + 1).toNat : Int) from hw)
        have hL3 : (D : Int) ≤ 65536 := by have := HD.out.2; omega
        go_wp2_with fail
        refine wp_region_noPanic ?_
        refine wp_heldG (fun V => V.cell? ⟨bx, 13, none⟩ = some (.slice (some ⟨gd, 0, none⟩) D s.dk) ∧ V.cell? ⟨gd, j, none⟩ = some (.int .u8 (x.toNat : Int)) ∧ V.frozen? ⟨gd, j, none⟩ = false) [10] (by kernel_rfl) ?hs0 ?rg0
        case hs0 =>
          exact HT.out
        case rg0 =>
        intro hHeld
        refine puG 0 ⟨some 52, .fieldAddr 27 (.tmp 4) 13, 0, _, #[], none⟩ (v := ?_) ?_ (fun _ => by assumption) ?_
        rotate_left
        · intro w hSw
          try dsimp only at hSw
          go_simp
          try with_reducible rfl
        try simp only [Act.put, List.setIfInBounds_toArray, List.set_cons_zero, List.set_cons_succ]
        refine tkG 1 ⟨some 53, .load 25 (.tmp 52), 25, _, #[⟨0, .data⟩], none⟩ (v := ?_) ?_ (by assumption) ?_
        rotate_left
        · intro w hSw
          try dsimp only at hSw
          go_simp
          try with_reducible rfl
        try simp only [Act.put, List.setIfInBounds_toArray, List.set_cons_zero, List.set_cons_succ]
        refine puG 2 ⟨some 54, .move (.tmp 8), 3, _, #[], none⟩ (v := ?_) ?_ (fun _ => by assumption) ?_
        rotate_left
        · intro w hSw
          try dsimp only at hSw
          go_simp
          try with_reducible rfl
        try simp only [Act.put, List.setIfInBounds_toArray, List.set_cons_zero, List.set_cons_succ]
        refine puG 3 ⟨some 55, .fieldAddr 27 (.tmp 4) 13, 0, _, #[], none⟩ (v := ?_) ?_ (fun _ => by assumption) ?_
        rotate_left
        · intro w hSw
          try dsimp only at hSw
          go_simp
          try with_reducible rfl
        try simp only [Act.put, List.setIfInBounds_toArray, List.set_cons_zero, List.set_cons_succ]
        refine tkG 4 ⟨some 56, .load 25 (.tmp 55), 25, _, #[⟨3, .data⟩], none⟩ (v := ?_) ?_ (by assumption) ?_
        rotate_left
        · intro w hSw
          try dsimp only at hSw
          go_simp
          try with_reducible rfl
        try simp only [Act.put, List.setIfInBounds_toArray, List.set_cons_zero, List.set_cons_succ]
        refine puG 5 ⟨some 57, .move (.tmp 8), 3, _, #[], none⟩ (v := ?_) ?_ (fun _ => by assumption) ?_
        rotate_left
        · intro w hSw
          try dsimp only at hSw
          go_simp
          try with_reducible rfl
        try simp only [Act.put, List.setIfInBounds_toArray, List.set_cons_zero, List.set_cons_succ]
        refine puG 6 ⟨some 58, .indexAddr 25 (.tmp 56) (.tmp 57), 0, _, #[⟨4, .data⟩, ⟨5, .data⟩], none⟩ (v := ?_) ?_ (fun _ => by assumption) ?_
        rotate_left
        · intro w hSw
          try dsimp only at hSw
          go_simp
          try with_reducible rfl
        try simp only [Act.put, List.setIfInBounds_toArray, List.set_cons_zero, List.set_cons_succ]
        refine tkG 7 ⟨some 59, .load 5 (.tmp 58), 5, _, #[⟨6, .data⟩], none⟩ (v := ?_) ?_ (by assumption) ?_
        rotate_left
        · intro w hSw
          try dsimp only at hSw
          go_simp
          try with_reducible rfl
        try simp only [Act.put, List.setIfInBounds_toArray, List.set_cons_zero, List.set_cons_succ]
        refine puG 8 ⟨some 60, .binOp BinOp.add 5 (.tmp 59) (Operand.const (Value.int IntKind.u8 1)) 5, 5, _, #[⟨7, .data⟩], none⟩ (v := ?_) ?_ (fun _ => by assumption) ?_
        rotate_left
        · intro w hSw
          try dsimp only at hSw
          go_simp
          try with_reducible rfl
        try simp only [Act.put, List.setIfInBounds_toArray, List.set_cons_zero, List.set_cons_succ]
        refine puG 9 ⟨some 61, .indexAddr 25 (.tmp 53) (.tmp 54), 0, _, #[⟨1, .data⟩, ⟨2, .data⟩, ⟨0, .phase⟩, ⟨1, .phase⟩, ⟨2, .phase⟩, ⟨3, .phase⟩, ⟨4, .phase⟩, ⟨5, .phase⟩, ⟨6, .phase⟩, ⟨7, .phase⟩, ⟨8, .phase⟩], none⟩ (v := ?_) ?_ (fun _ => by assumption) ?_
        rotate_left
        · intro w hSw
          try dsimp only at hSw
          go_simp
          try with_reducible rfl
        try simp only [Act.put, List.setIfInBounds_toArray, List.set_cons_zero, List.set_cons_succ]
        refine onG 10 ⟨none, .store 5 (.tmp 61) (.tmp 60), 0, _, #[⟨9, .data⟩, ⟨8, .data⟩, ⟨0, .phase⟩, ⟨1, .phase⟩, ⟨2, .phase⟩, ⟨3, .phase⟩, ⟨4, .phase⟩, ⟨5, .phase⟩, ⟨6, .phase⟩, ⟨7, .phase⟩, ⟨8, .phase⟩], none⟩ (fun K hK => ?_)
        have c0 : wr.drew.cell? ⟨gd, j, none⟩ = some (.int .u8 (x.toNat : Int)) := HT.out.2.1
        have z0 : wr.drew.frozen? ⟨gd, j, none⟩ = false := HT.out.2.2
        go_simp
        try dsimp only
        refine hK.out _ _ ?_ (fun hHeld => ?_)
        · exact fun h => (st_no (by kernel_rfl) h).elim
        clear hK K
        try simp only [Act.put, List.setIfInBounds_toArray, List.set_cons_zero, List.set_cons_succ]
        clear hHeld
        refine wpAnyG_done (by kernel_rfl) ?_ _
        refine NoPanic.normal ?_
        go_wp2_with fail
        go_roundw
        case rel =>
          rw [HW.out]
          exact ⟨j + 1, l1.set j (x + 1), by simp, by omega, by rw [List.length_set]; exact HL1.out, HR.out.keep (nextN (Mem.start _) 1), HN.out.1.keep (nextN (Mem.start _) 1), HN.out.2.1.keep (nextN (Mem.start _) 1), next HN.out.2.2 (nextN (Mem.start _) 1)⟩
        case measure => simp [intOf]; omega
      · obtain rfl : j = D := by omega
        clear hl1 ho hD
        have e1 := run_str (P := Tryd.prog) wr 25 5 Tryd.underlying25 Tryd.underlying5 (show Bytes wr wr.heap.size (some ⟨g, 0, none⟩) b from HX.out.2.1.row.cells) ck 9 Tryd.underlying9
        have e2 := run_str (P := Tryd.prog) wr 25 5 Tryd.underlying25 Tryd.underlying5 (HI.out.2.below HX.out.2.2.1) c 9 Tryd.underlying9
        rw [HL.out.1] at e1 e2
        have eb : ((str b).toList == (str b).toList) = true := by simp
        go_wp2_with fail
        refine (works_any wr (HI.out.1.keep HX.out.2.2.1)).mono ?_
        rintro e w8 ⟨rfl, hb⟩
        have H8 := Lib.hid (next HX.out.2.2.1 hb)
        clear hb
        go_wp2_with fail
        go_ret
        exact ⟨rfl, H8.out⟩
theorem gets_law (w : World) (hT : HasT w) (A : Option Addr) (b : List UInt8) (c : Nat) (hle : b.length ≤ c) (hmx : c ≤ maxLen) (hb : Bytes w w.heap.size A b) :
    Calls Tryd.prog 4 #[.slice A b.length c] w fun e w' => e = .returned (.bool true) ∧ Below w.heap.size w w' := by
  by_cases hl : b.length ≤ 5000
  · cases hg : Wi.get b with
    | none => exact gets_no w hT A b c hle hmx hb hl hg
    | some m => exact gets_yes w hT A b c hle hmx hb hl m hg
  · have HI := Lib.hid hT
    have hl5 : (5000 : Int) < ((b.length : Nat) : Int) := by omega
    have dl : decide ((5000 : Int) < ((b.length : Nat) : Int)) = true := decide_eq_true hl5
    clear hT hb hle hmx hl
    go_enter Tryd.func4, Tryd.ntmps4
    go_wp2_with fail
    refine (works_any w HI.out).mono ?_
    rintro e w1 ⟨rfl, hb1⟩
    have H1 := Lib.hid hb1
    clear hb1
    go_wp2_with fail
    go_ret
    exact ⟨rfl, H1.out⟩
end Go.Proofs.YtebdmfmadbikaaaDoor.WiW
/- Drawn regions in which several may come up: new variables in any order, then stores into them. -/
namespace Go.Proofs.YtebdmfmadbikaaaDoor.Rng
open Go.RowKit Go.Shelf Mem
set_option linter.unusedVariables false

section
variable {P : Program} {ops : Array Oper} {Q : Exit → Act → World → Prop} {md : Region.Mode} {T : World → Prop} {st : List Nat}
/-- Whichever comes up. -/
theorem wpAnyG_each {fuel : Nat} {listed : Array Bool} {a : Act} {w : World} (hne : Region.ready md ops listed ≠ [])
    (h : ∀ i ∈ Region.ready md ops listed, ∃ o, ops[i]? = some o ∧ ∀ K' : Act → World → Prop, Shut (∀ a w, (stOk st (listed.setIfInBounds i true) = true → T w) → ((stOk st (listed.setIfInBounds i true) = true → T w) → wpAnyG P md ops Q T st fuel (listed.setIfInBounds i true) a w) → K' a w) → if Region.wanted o (yielded ops a.tmps) = true then Oper.wp P o a w K' Q else K' (a.put o.dst undef) w) :
    wpAnyG P md ops Q T st (fuel + 1) listed a w := by
  refine ⟨fun h0 => absurd h0 hne, fun k hk => ?_⟩
  obtain ⟨o, ho, h⟩ := h k hk
  exact wpOp_step ho (fun K' hK => h K' (fun a w hS hW => hK a w ⟨hS, hW hS⟩))
theorem setIf_comm (l : Array Bool) {i j : Nat} (h : i ≠ j) : (l.setIfInBounds i true).setIfInBounds j true = (l.setIfInBounds j true).setIfInBounds i true := Array.setIfInBounds_comm _ _ h
theorem put_comm (a : Act) {i j : Nat} (h : i ≠ j) (x y : Value) : (a.put (some i) x).put (some j) y = (a.put (some j) y).put (some i) x := by
  unfold Act.put
  dsimp only
  rw [Array.setIfInBounds_comm _ _ h]
/-- A new variable of type ty. -/
structure NewOp (P : Program) (ty : TypeId) (zc : Array Value) (o : Oper) (d : Nat) : Prop where
  guard : o.guard = none
  op : o.op = .alloc ty
  dst : o.dst = some d
def NewRun (P : Program) (ty : TypeId) (zc : Array Value) : Prop := ∀ w : World, (Instr.alloc ty true (.tuple #[])).run P w = .ok (.pointer (some ⟨w.heap.size, 0, none⟩)) (w.alloc (.cells zc ty))
variable {ty : TypeId} {zc : Array Value}
theorem step_new {o : Oper} {d : Nat} {a : Act} {R : Act → World → Prop} {E : Prop} (w : World) (ho : NewOp P ty zc o d) (hr : NewRun P ty zc)
    (h : R (a.put (some d) (.pointer (some ⟨w.heap.size, 0, none⟩))) (w.alloc (.cells zc ty))) : if Region.wanted o (yielded ops a.tmps) = true then Oper.wp P o a w R Q else E := by
  rw [if_pos (by simp [Region.wanted, ho.guard])]
  unfold Oper.wp execOp
  simp only [ho.op, Sem.run_bind, hr w, Result.andThen_ok, Sem.run_pure]
  show R (a.put o.dst _) _
  rw [ho.dst]
  exact h
theorem wpAnyG_new {i d : Nat} {o : Oper} {fuel : Nat} {listed : Array Bool} {a : Act} {w : World} (hr : NewRun P ty zc) (ho : ops[i]? = some o) (hn : NewOp P ty zc o d) (hT : ∀ w', Below w.heap.size w w' → T w')
    (r : Region.ready md ops listed = [i])
    (h : ∀ g w', w.heap.size = g → Blk w' g ty zc → Below w.heap.size w w' → wpAnyG P md ops Q T st fuel (listed.setIfInBounds i true) (a.put (some d) (.pointer (some ⟨g, 0, none⟩))) w') :
    wpAnyG P md ops Q T st (fuel + 1) listed a w := by
  refine wpAnyG_one r ho (fun K hK => step_new w hn hr ?_)
  have hb := nextA (Mem.start w) (.cells zc ty)
  exact hK.out _ _ (fun _ => hT _ hb) fun _ => h _ _ rfl (Blk.new w _ _) hb
/-- Two new variables, in either order. -/
theorem wpAnyG_new2 {i j d e : Nat} {o u : Oper} {fuel : Nat} {listed : Array Bool} {a : Act} {w : World} (hr : NewRun P ty zc) (ho : ops[i]? = some o) (hu : ops[j]? = some u) (hn : NewOp P ty zc o d) (hm : NewOp P ty zc u e) (hij : i ≠ j) (hde : d ≠ e) (hT : ∀ w', Below w.heap.size w w' → T w')
    (r : Region.ready md ops listed = [i, j]) (ri : Region.ready md ops (listed.setIfInBounds i true) = [j]) (rj : Region.ready md ops (listed.setIfInBounds j true) = [i])
    (h : ∀ g k w', w.heap.size ≤ g → w.heap.size ≤ k → g ≠ k → Blk w' g ty zc → Blk w' k ty zc → Below w.heap.size w w' → wpAnyG P md ops Q T st fuel ((listed.setIfInBounds i true).setIfInBounds j true) ((a.put (some d) (.pointer (some ⟨g, 0, none⟩))).put (some e) (.pointer (some ⟨k, 0, none⟩))) w') :
    wpAnyG P md ops Q T st (fuel + 2) listed a w := by
  have hb := nextA (Mem.start w) (.cells zc ty)
  have hs : (w.alloc (.cells zc ty)).heap.size = w.heap.size + 1 := World.size_alloc _ _
  refine wpAnyG_each (by rw [r]; simp) fun q hq => ?_
  rw [r] at hq
  rcases List.mem_cons.1 hq with rfl | hq
  · refine ⟨o, ho, fun K hK => step_new w hn hr (hK.out _ _ (fun _ => hT _ hb) fun _ => ?_)⟩
    refine wpAnyG_new hr hu hm (fun w' hb' => hT w' (next hb hb')) ri fun k w' hk B hb' => ?_
    exact h _ _ w' (Nat.le_refl _) (by omega) (by omega) ((Blk.new w _ _).keep hb') B (next hb hb')
  · obtain rfl := List.mem_singleton.1 hq
    refine ⟨u, hu, fun K hK => step_new w hm hr (hK.out _ _ (fun _ => hT _ hb) fun _ => ?_)⟩
    refine wpAnyG_new hr ho hn (fun w' hb' => hT w' (next hb hb')) rj fun k w' hk B hb' => ?_
    rw [← setIf_comm _ hij, ← put_comm _ hde]
    exact h _ _ w' (by omega) (Nat.le_refl _) (by omega) B ((Blk.new w _ _).keep hb') (next hb hb')
/-- Three new variables, in any order. -/
theorem wpAnyG_new3 {i j k d e f : Nat} {o u v : Oper} {fuel : Nat} {listed : Array Bool} {a : Act} {w : World} (hr : NewRun P ty zc) (ho : ops[i]? = some o) (hu : ops[j]? = some u) (hv : ops[k]? = some v) (hn : NewOp P ty zc o d) (hm : NewOp P ty zc u e) (hl : NewOp P ty zc v f)
    (hij : i ≠ j) (hik : i ≠ k) (hjk : j ≠ k) (hde : d ≠ e) (hdf : d ≠ f) (hef : e ≠ f) (hT : ∀ w', Below w.heap.size w w' → T w')
    (r : Region.ready md ops listed = [i, j, k])
    (r1 : Region.ready md ops (listed.setIfInBounds i true) = [j, k]) (r12 : Region.ready md ops ((listed.setIfInBounds i true).setIfInBounds j true) = [k]) (r13 : Region.ready md ops ((listed.setIfInBounds i true).setIfInBounds k true) = [j])
    (r2 : Region.ready md ops (listed.setIfInBounds j true) = [i, k]) (r23 : Region.ready md ops ((listed.setIfInBounds j true).setIfInBounds k true) = [i])
    (r3 : Region.ready md ops (listed.setIfInBounds k true) = [i, j])
    (h : ∀ g p q w', w.heap.size ≤ g → w.heap.size ≤ p → w.heap.size ≤ q → g ≠ p → g ≠ q → p ≠ q → Blk w' g ty zc → Blk w' p ty zc → Blk w' q ty zc → Below w.heap.size w w' → wpAnyG P md ops Q T st fuel (((listed.setIfInBounds i true).setIfInBounds j true).setIfInBounds k true) (((a.put (some d) (.pointer (some ⟨g, 0, none⟩))).put (some e) (.pointer (some ⟨p, 0, none⟩))).put (some f) (.pointer (some ⟨q, 0, none⟩))) w') :
    wpAnyG P md ops Q T st (fuel + 3) listed a w := by
  have hb := nextA (Mem.start w) (.cells zc ty)
  have hs : (w.alloc (.cells zc ty)).heap.size = w.heap.size + 1 := World.size_alloc _ _
  refine wpAnyG_each (by rw [r]; simp) fun x hx => ?_
  rw [r] at hx
  rcases List.mem_cons.1 hx with rfl | hx
  · refine ⟨o, ho, fun K hK => step_new w hn hr (hK.out _ _ (fun _ => hT _ hb) fun _ => ?_)⟩
    refine wpAnyG_new2 hr hu hv hm hl hjk hef (fun w' hb' => hT w' (next hb hb')) r1 r12 r13 fun p q w' h1 h2 h3 B C hb' => ?_
    exact h _ _ _ w' (Nat.le_refl _) (by omega) (by omega) (by omega) (by omega) h3 ((Blk.new w _ _).keep hb') B C (next hb hb')
  · rcases List.mem_cons.1 hx with rfl | hx
    · refine ⟨u, hu, fun K hK => step_new w hm hr (hK.out _ _ (fun _ => hT _ hb) fun _ => ?_)⟩
      refine wpAnyG_new2 hr ho hv hn hl hik hdf (fun w' hb' => hT w' (next hb hb')) r2 (by rw [← setIf_comm _ hij]; exact r12) r23 fun p q w' h1 h2 h3 B C hb' => ?_
      rw [← setIf_comm _ hij, ← put_comm _ hde]
      exact h _ _ _ w' (by omega) (Nat.le_refl _) (by omega) (by omega) h3 (by omega) B ((Blk.new w _ _).keep hb') C (next hb hb')
    · obtain rfl := List.mem_singleton.1 hx
      refine ⟨v, hv, fun K hK => step_new w hl hr (hK.out _ _ (fun _ => hT _ hb) fun _ => ?_)⟩
      refine wpAnyG_new2 hr ho hu hn hm hij hde (fun w' hb' => hT w' (next hb hb')) r3 (by rw [← setIf_comm _ hik]; exact r13) (by rw [← setIf_comm _ hjk]; exact r23) fun p q w' h1 h2 h3 B C hb' => ?_
      rw [← setIf_comm _ hik, setIf_comm (listed.setIfInBounds i true) (Ne.symm hjk), ← put_comm _ hdf, put_comm (a.put _ _) (Ne.symm hef)]
      exact h _ _ _ w' (by omega) (by omega) (Nat.le_refl _) h3 (by omega) (by omega) B C ((Blk.new w _ _).keep hb') (next hb hb')
end
end Go.Proofs.YtebdmfmadbikaaaDoor.Rng
/- Drawn regions in which one of two may come up. -/
namespace Go.Proofs.YtebdmfmadbikaaaDoor.Rng
open Go.RowKit Go.Shelf Mem
set_option linter.unusedVariables false

section
variable {P : Program} {ops : Array Oper} {Q : Exit → Act → World → Prop} {md : Region.Mode} {T : World → Prop} {st : List Nat}
/-- One of two may come up. -/
theorem wpAnyG_two {i j : Nat} {o u : Oper} {fuel : Nat} {listed : Array Bool} {a : Act} {w : World} (hr : Region.ready md ops listed = [i, j]) (ho : ops[i]? = some o) (hu : ops[j]? = some u)
    (h : ∀ K' : Act → World → Prop, Shut (∀ a w, (stOk st (listed.setIfInBounds i true) = true → T w) → ((stOk st (listed.setIfInBounds i true) = true → T w) → wpAnyG P md ops Q T st fuel (listed.setIfInBounds i true) a w) → K' a w) → if Region.wanted o (yielded ops a.tmps) = true then Oper.wp P o a w K' Q else K' (a.put o.dst undef) w)
    (h2 : ∀ K' : Act → World → Prop, Shut (∀ a w, (stOk st (listed.setIfInBounds j true) = true → T w) → ((stOk st (listed.setIfInBounds j true) = true → T w) → wpAnyG P md ops Q T st fuel (listed.setIfInBounds j true) a w) → K' a w) → if Region.wanted u (yielded ops a.tmps) = true then Oper.wp P u a w K' Q else K' (a.put u.dst undef) w) :
    wpAnyG P md ops Q T st (fuel + 1) listed a w := by
  refine ⟨(fun h0 => by rw [hr] at h0; cases h0), fun k hk => ?_⟩
  rw [hr] at hk
  rcases List.mem_cons.1 hk with rfl | hk
  · exact wpOp_step ho (fun K' hK => h K' (fun a w hS hW => hK a w ⟨hS, hW hS⟩))
  · obtain rfl := List.mem_singleton.1 hk
    exact wpOp_step hu (fun K' hK => h2 K' (fun a w hS hW => hK a w ⟨hS, hW hS⟩))
end
end Go.Proofs.YtebdmfmadbikaaaDoor.Rng
/- The law WireKnown, walked. Printed by genwknown.py (raw numbers of the seat). -/
namespace Go.Proofs.YtebdmfmadbikaaaDoor.WiW
open Go.RowKit Go.Shelf Go.Lib Mem Fds FdW Wi Rng
set_option linter.unusedVariables false
set_option linter.unusedSimpArgs false

theorem small_min (w : World) (B k : Nat) (hk : k ≤ 20) : MIn0 w B (small k) s0 := ⟨Cells.nil, Cells.nil, Bytes.nil, by show k < 256; omega, by simp [small], by simp [small], by simp [small], by simp [small], fun x hx => (by cases hx)⟩
theorem full_few (k : Nat) : few (full k) = true := by simp [few, full, ksum]
theorem cells_farS {S : Nat → Prop} {V V' : World} {g : Nat} {xs : List Value} (h : Cells V V.heap.size (some ⟨g, 0, none⟩) xs) (hg : ¬ S g) (hF : Fr S V V') : Cells V' V'.heap.size (some ⟨g, 0, none⟩) xs := fun hl => by
  obtain ⟨b, off, e, hb, hc⟩ := h hl
  injection e with e
  injection e with e1 e2
  subst e1; subst e2
  exact ⟨g, 0, rfl, Nat.lt_of_lt_of_le hb hF.size, fun k v hk => by rw [← hc k v hk]; exact World.cell?_of_block (hF.block g hb hg)⟩
theorem one_fr {V : World} {q i : Nat} {u : Value} : Fr (fun k => k = q) V (V.setCell ⟨q, i, none⟩ u) := (Fr.refl (fun k => k = q) V).setCell (p := ⟨q, i, none⟩) (fun _ => rfl) u
/-- The message as its numbers stand. -/
def mid (k : Nat) : Msg := { full k with ids := [], nodes := [], data := [] }
/-- What is there while a message is made: its box may have turned. -/
structure Mk (w : World) (q2 q3 k : Nat) (m : Msg) (s : Sl) (w2 W : World) : Prop where
  a : Blk W q2 27 (mv (small k) s0)
  b : Blk W q3 27 (mv m s)
  f : Fr (fun k => k = q3) w2 W
  t : HasT W
  bel : Below w.heap.size w W
  lt : w.heap.size ≤ q3
  ne : q2 ≠ q3
  p0 : 0 < q3
theorem Mk.set {w w2 W W' : World} {q2 q3 k : Nat} {m m' : Msg} {s s' : Sl} (h : Mk w q2 q3 k m s w2 W) (hb : Below W.heap.size W W') (i : Nat) (u : Value) (he : (mv m s).setIfInBounds i u = mv m' s') : Mk w q2 q3 k m' s' w2 (W'.setCell ⟨q3, i, none⟩ u) := by
  have h0 : ¬ (0 = q3) := by have := h.p0; omega
  refine ⟨(h.a.keep hb).far (fun e => h.ne e.symm) u, ?_, (h.f.trans (Fr.quiet hb : Fr (fun k => k = q3) W W') fun _ _ h => h).trans one_fr fun _ _ h => h, (h.t.keep hb).fr one_fr h0, (next h.bel hb).trans (one_fr.below (Nat.le_trans h.bel.size hb.size) fun k hk => by rw [hk]; exact h.lt), h.lt, h.ne, h.p0⟩
  have := (h.b.keep hb).set_ i u
  rw [he] at this; exact this
/-- The boxes of a kind's two messages, and what came before. -/
def KS (w : World) (q2 q3 k : Nat) (s : Sl) (W : World) : Prop :=
  Blk W q2 27 (mv (small k) s0) ∧ Blk W q3 27 (mv (full k) s) ∧ MIn0 W W.heap.size (full k) s ∧ HasT W ∧ Below w.heap.size w W
theorem KS.keep {w W W' : World} {q2 q3 k : Nat} {s : Sl} (h : KS w q2 q3 k s W) (hb : Below W.heap.size W W') : KS w q2 q3 k s W' :=
  ⟨h.1.keep hb, h.2.1.keep hb, h.2.2.1.keep hb, h.2.2.2.1.keep hb, next h.2.2.2.2 hb⟩
theorem xor1 (x : UInt8) : ∃ y : UInt8, bits .xor .u8 (x.toNat : Int) 1 = (y.toNat : Int) := by
  have h : ∀ n, n < 256 → bits .xor .u8 ((n : Nat) : Int) 1 = ((UInt8.ofNat n ^^^ 1).toNat : Int) := by decide +kernel
  exact ⟨_, h _ x.toNat_lt⟩
theorem rowB {V : World} {B g j : Nat} {u : Value} (hg : B ≤ g) (hB : B ≤ V.heap.size) : Below B V (V.setCell ⟨g, j, none⟩ u) := one_fr.below hB fun k hk => by rw [hk]; exact hg
theorem gets_l (w : World) (hT : HasT w) (A : Option Addr) (b : List UInt8) (n c : Nat) (hn : b.length = n) (hnc : n ≤ c) (hmx : c ≤ maxLen) (hb : Bytes w w.heap.size A b) : Calls Tryd.prog 4 #[.slice A n c] w fun e w' => e = .returned (.bool true) ∧ Below w.heap.size w w' := by
  subst hn; exact gets_law w hT A b c hnc hmx hb
theorem back_l (w : World) (hT : HasT w) (m : Msg) (s : Sl) (hm : MIn0 w w.heap.size m s) (n : Msg) (t : Sl) (hn : MIn0 w w.heap.size n t) (A : Option Addr) (b : List UInt8) (l c : Nat) (hl : b.length = l) (hnc : l ≤ c) (hmx : c ≤ maxLen) (hb : Bytes w w.heap.size A b) : Calls Tryd.prog 5 #[.agg (mv m s), .agg (mv n t), .slice A l c] w fun e w' => e = .returned (.bool true) ∧ Below w.heap.size w w' := by
  subst hl; exact back_law w hT m s hm n t hn A b c hnc hmx hb
theorem cell_freeze (w : World) (g k n : Nat) (p : Addr) : (w.freeze ⟨g, k, none⟩ n).cell? p = w.cell? p := by
  unfold World.freeze
  split
  · rfl
  · unfold World.cell?
    simp only [Array.getElem?_modify]
    by_cases h : g = p.block
    · rw [if_pos h]
      cases hh : w.heap[p.block]? with
      | none => rfl
      | some o => cases o <;> rfl
    · rw [if_neg h]
/-- A constant's bytes, marked: no cell turns. -/
theorem step_frz {ops : Array Oper} {o : Oper} {a : Act} {R : Act → World → Prop} {Q : Exit → Act → World → Prop} {E : Prop} (w : World) (hw : Region.wanted o (yielded ops a.tmps) = true) (x : Operand) (ho : o.op = .convert 25 25 x) (g : Nat) (C : Array Value) (n c : Nat) (hx : a.eval x = .slice (some ⟨g, 0, none⟩) n c) (hB : Blk w g 5 C)
    (h : ∀ w', (∀ p, w'.cell? p = w.cell? p) → Fr (fun k => k = g) w w' → w'.heap.size = w.heap.size → R (a.put o.dst (.slice (some ⟨g, 0, none⟩) n c)) w') : if Region.wanted o (yielded ops a.tmps) = true then Oper.wp Tryd.prog o a w R Q else E := by
  rw [if_pos hw]
  have hh : w.heap[g]? = some (.cells C 5 (0, 0)) := hB
  have hsh : w.shape? g = some (5, C.size) := by unfold World.shape?; rw [hh]
  have hr : (convert 25 25 (.slice (some ⟨g, 0, none⟩) n c)).run Tryd.prog w = .ok (.slice (some ⟨g, 0, none⟩) n c) (w.freeze ⟨g, C.size, none⟩ 1) := by
    simp [convert, run_underlying Tryd.underlying25, run_underlying Tryd.underlying5, markStringish, hsh]
  unfold Oper.wp execOp
  simp only [ho, hx, Sem.run_bind, hr, Result.andThen_ok, Sem.run_pure]
  refine h _ (fun p => cell_freeze w g _ _ p) ?_ ?_
  · unfold World.freeze
    rw [if_neg (by decide)]
    exact ⟨rfl, rfl, rfl, by simp, fun k hk hn => by
      show (w.heap.modify g _)[k]? = _
      rw [Array.getElem?_modify, if_neg (fun e => hn e.symm)]⟩
  · unfold World.freeze
    rw [if_neg (by decide)]
    simp
theorem MIn0.same {w w' : World} {m : Msg} {s : Sl} (h : MIn0 w w.heap.size m s) (hc : ∀ p, w'.cell? p = w.cell? p) (hs : w'.heap.size = w.heap.size) : MIn0 w' w'.heap.size m s := by
  rw [hs]; exact ⟨h.ids.keep fun p _ => hc p, h.nodes.keep fun p _ => hc p, Cells.keep h.data fun p _ => hc p, h.kind, h.lk, h.li, h.ln, h.ld, h.lik⟩
def LIE : List UInt8 := [108, 105, 101]
theorem lie_bytes {w : World} {g : Nat} (h : Blk w g 5 #[.int .u8 108, .int .u8 105, .int .u8 101]) : Bytes w w.heap.size (some ⟨g, 0, none⟩) LIE := fun _ => ⟨g, 0, rfl, h.lt, fun k v hk => by
  rw [Nat.zero_add, h.cell, ← Array.getElem?_toList]; exact hk⟩
theorem bytes_same {w w' : World} {A : Option Addr} {l : List UInt8} (h : Bytes w w.heap.size A l) (hc : ∀ p, w'.cell? p = w.cell? p) (hs : w'.heap.size = w.heap.size) : Bytes w' w'.heap.size A l := by
  rw [hs]; exact Cells.keep h fun p _ => hc p
theorem lies_l (w : World) (hT : HasT w) (m : Msg) (s : Sl) (hm : MIn0 w w.heap.size m s) (A : Option Addr) (hb : Bytes w w.heap.size A LIE) : Calls Tryd.prog 7 #[.agg (mv m s), .slice A 3 3] w fun e w' => e = .returned (.bool true) ∧ Below w.heap.size w w' :=
  lies_law w hT m s hm A LIE 3 (by decide) (by unfold maxLen; decide) hb
theorem mv_servd (n : Nat) (A : Option Addr) : mv (servd n) ⟨none, 0, none, 0, A, n⟩ = #[.int .u8 9, .int .i64 0, .int .i64 0, .int .i64 0, .string { data := #[] }, .int .i64 0, .int .i64 0, .int .i64 0, .int .i64 0, .int .i64 0, .bool false, .slice none 0 0, .slice none 0 0, .slice A n n] := by
  have e : (servd n).data.length = n := nz_len n
  unfold mv
  rw [e]; rfl
theorem servd_in {w : World} {A : Option Addr} {n : Nat} (hn : n ≤ 1000000) (hb : Bytes w w.heap.size A (nz n)) : MIn w w.heap.size (servd n) ⟨none, 0, none, 0, A, n⟩ :=
  ⟨Cells.nil, Cells.nil, hb, by show 9 < 256; decide, by show 0 ≤ 100000000; decide, by show 0 ≤ 100000000; decide, by show 0 ≤ 100000000; decide, by show (nz n).length ≤ 100000000; rw [nz_len]; omega, fun x hx => (by cases hx)⟩
theorem put_big (w : World) (hT : HasT w) (A : Option Addr) (n : Nat) (hn : n ≤ 1000000) (hb : Bytes w w.heap.size A (nz n)) (h : 65536 < n) : Calls Tryd.prog 14 #[.agg #[.int .u8 9, .int .i64 0, .int .i64 0, .int .i64 0, .string { data := #[] }, .int .i64 0, .int .i64 0, .int .i64 0, .int .i64 0, .int .i64 0, .bool false, .slice none 0 0, .slice none 0 0, .slice A n n]] w fun e w' => e = .returned (.tuple #[.slice none 0 0, .int .i64 2]) ∧ Below w.heap.size w w' := by
  rw [← mv_servd]
  exact put_no w _ _ hT (servd_in hn hb) (servd_bad n h)
theorem put_fit (w : World) (hT : HasT w) (A : Option Addr) (n : Nat) (hn : n ≤ 65536) (hb : Bytes w w.heap.size A (nz n)) : Calls Tryd.prog 14 #[.agg #[.int .u8 9, .int .i64 0, .int .i64 0, .int .i64 0, .string { data := #[] }, .int .i64 0, .int .i64 0, .int .i64 0, .int .i64 0, .int .i64 0, .bool false, .slice none 0 0, .slice none 0 0, .slice A n n]] w fun e w' => ∃ B L c x, e = .returned (.tuple #[.slice B L c, .int .i64 0]) ∧ x.length = L ∧ L ≤ c ∧ c ≤ maxLen ∧ L ≤ 800000 ∧ Wi.get x = some (servd n) ∧ Bytes w' w'.heap.size B x ∧ Below w.heap.size w w' := by
  rw [← mv_servd]
  refine (put_yes w _ _ _ hT (servd_in (by omega) hb) (servd_may n hn) rfl).mono fun e w' h => ?_
  obtain ⟨B, c, h1, h2, h3⟩ := h
  have hl := h2.le
  rw [List.length_map] at hl
  exact ⟨B, _, c, _, h1, rfl, hl, h2.max, bytes_le ((may_iff _).1 (servd_may n hn)), get_put (servd_may n hn), h2.bytes, h3⟩
/-- The two messages, and bytes. -/
def KB (w : World) (q2 q3 k : Nat) (s : Sl) (A : Option Addr) (b : List UInt8) (W : World) : Prop := KS w q2 q3 k s W ∧ Bytes W W.heap.size A b
theorem KB.keep {w W W' : World} {q2 q3 k : Nat} {s : Sl} {A : Option Addr} {b : List UInt8} (h : KB w q2 q3 k s A b W) (hb : Below W.heap.size W W') : KB w q2 q3 k s A b W' := ⟨h.1.keep hb, (h.2.below hb).up hb.size⟩
set_option maxRecDepth 100000 in
set_option maxHeartbeats 32000000 in
theorem known_law (w : World) (hT : HasT w) : Calls Tryd.prog 8 #[] w fun e w' => e = .returned (.bool true) ∧ Below w.heap.size w w' := by
  have HT0 := Lib.hid hT
  clear hT
  go_enter Tryd.func8, Tryd.ntmps8
  go_wp2_with fail
  go_loopw [1] (fun i wr => ∃ k : Nat, i = .int .u8 (k : Int) ∧ 1 ≤ k ∧ k ≤ 21 ∧ HasT wr ∧ Below w.heap.size w wr) (fun i _ => 21 - (intOf i).toNat)
  case atStart => exact ⟨1, rfl, by decide, by decide, HT0.out, Mem.start w⟩
  case round =>
    obtain ⟨k, rfl, hk1, hk2, hT, hb⟩ := hrel
    have HR := Lib.hid (And.intro hT hb)
    have HK := Lib.hid (And.intro hk1 hk2)
    clear hT hb
    by_cases hk : k ≤ 20
    · have HK2 := Lib.hid hk
      have d0 : decide ((k : Int) ≤ 20) = true := decide_eq_true (by omega)
      have hwk : IntKind.u8.wrap ((k : Int) + 1) = ((k + 1 : Nat) : Int) := by have e : ∀ x : Int, IntKind.u8.wrap x = x % 256 := fun _ => rfl; rw [e]; omega
      clear hk hk1 hk2
      go_upto_region 6 with (first
        | ((with_reducible show wpList _ _ _ ((⟨none, .store 27 (.tmp 2) (.tmp 24), _, _, _, _⟩ : Oper) :: _) _ _); refine wpList_store_msg wr rfl (.tmp 2) (.tmp 24) rfl (small k) s0 rfl rfl ?_; intro w1 hB hW; obtain ⟨q2, hq2⟩ : ∃ x, wr.heap.size = x := ⟨_, rfl⟩; rw [hq2] at hB ⊢; have H1 := Lib.hid (And.intro hB (And.intro hW hq2)); clear hB hW hq2)
        | ((with_reducible show wpList _ _ _ ((⟨some 25, _, _, _, _, _⟩ : Oper) :: _) _ _); refine wpList_load_mid rfl 27 (.tmp 2) rfl q2 0 rfl (mv (small k) s0).toList _ (range_of H1.out.1) Tryd.underlying27 rfl minfo ?_)
        | ((with_reducible show wpList _ _ _ ((⟨none, .store 27 (.tmp 3) (.tmp 25), _, _, _, _⟩ : Oper) :: _) _ _); refine wpList_store_msg w1 rfl (.tmp 3) (.tmp 25) rfl (small k) s0 rfl rfl ?_; intro w2 hB hW; obtain ⟨q3, hq3⟩ : ∃ x, w1.heap.size = x := ⟨_, rfl⟩; rw [hq3] at hB ⊢; have H2 := Lib.hid (And.intro hB (And.intro hW hq3)); clear hB hW hq3))
      have c3 := H2.out.1.cell 3
      have c4 := H2.out.1.cell 4
      have c5 := H2.out.1.cell 5
      have c6 := H2.out.1.cell 6
      have c7 := H2.out.1.cell 7
      have c8 := H2.out.1.cell 8
      have c9 := H2.out.1.cell 9
      have c10 := H2.out.1.cell 10
      simp [mv, small] at c3 c4 c5 c6 c7 c8 c9 c10
      have z3 := H2.out.1.frozen 3
      have z4 := H2.out.1.frozen 4
      have z5 := H2.out.1.frozen 5
      have z6 := H2.out.1.frozen 6
      have z7 := H2.out.1.frozen 7
      have z8 := H2.out.1.frozen 8
      have z9 := H2.out.1.frozen 9
      have z10 := H2.out.1.frozen 10
      go_upto_region 14 with fail
      have HM := Lib.hid (show Mk w q2 q3 k (mid k) s0 w2 ((((((((w2.setCell ⟨q3, 3, none⟩ (.int .i64 4611686018427387904)).setCell ⟨q3, 4, none⟩ (.string { data := #[107, 101, 121] })).setCell ⟨q3, 5, none⟩ (.int .i64 7)).setCell ⟨q3, 6, none⟩ (.int .i64 9)).setCell ⟨q3, 7, none⟩ (.int .i64 2147483647)).setCell ⟨q3, 8, none⟩ (.int .i64 65535)).setCell ⟨q3, 9, none⟩ (.int .i64 254)).setCell ⟨q3, 10, none⟩ (.bool true)) from by
        obtain ⟨hB1, hW1, hq2⟩ := H1.out
        obtain ⟨hB2, hW2, hq3⟩ := H2.out
        have hw0 := HR.out.2.size
        have h12 : q2 < q3 := by rw [← hq3]; exact hB1.lt
        have hb2 : Below w.heap.size w w2 := next (next HR.out.2 hW1) hW2
        have ht2 : HasT w2 := (HR.out.1.keep hW1).keep hW2
        have M0 : Mk w q2 q3 k (small k) s0 w2 w2 := ⟨hB1.keep hW2, hB2, Fr.refl _ _, ht2, hb2, by omega, by omega, by omega⟩
        have M1 := M0.set (m' := { small k with req := 4611686018427387904 }) (s' := s0) (Mem.start _) 3 (.int .i64 4611686018427387904) rfl
        have M2 := M1.set (m' := { small k with req := 4611686018427387904, key := [107, 101, 121] }) (s' := s0) (Mem.start _) 4 (.string { data := #[107, 101, 121] }) rfl
        have M3 := M2.set (m' := { small k with req := 4611686018427387904, key := [107, 101, 121], ver := 7 }) (s' := s0) (Mem.start _) 5 (.int .i64 7) rfl
        have M4 := M3.set (m' := { small k with req := 4611686018427387904, key := [107, 101, 121], ver := 7, inc := 9 }) (s' := s0) (Mem.start _) 6 (.int .i64 9) rfl
        have M5 := M4.set (m' := { small k with req := 4611686018427387904, key := [107, 101, 121], ver := 7, inc := 9, size := 2147483647 }) (s' := s0) (Mem.start _) 7 (.int .i64 2147483647) rfl
        have M6 := M5.set (m' := { small k with req := 4611686018427387904, key := [107, 101, 121], ver := 7, inc := 9, size := 2147483647, code := 65535 }) (s' := s0) (Mem.start _) 8 (.int .i64 65535) rfl
        have M7 := M6.set (m' := { small k with req := 4611686018427387904, key := [107, 101, 121], ver := 7, inc := 9, size := 2147483647, code := 65535, node := 254 }) (s' := s0) (Mem.start _) 9 (.int .i64 254) rfl
        exact M7.set (m' := mid k) (s' := s0) (Mem.start _) 10 (.bool true) rfl)
      clear c3 c4 c5 c6 c7 c8 c9 c10 z3 z4 z5 z6 z7 z8 z9 z10 H1 H2
      generalize ((((((((w2.setCell ⟨q3, 3, none⟩ (.int .i64 4611686018427387904)).setCell ⟨q3, 4, none⟩ (.string { data := #[107, 101, 121] })).setCell ⟨q3, 5, none⟩ (.int .i64 7)).setCell ⟨q3, 6, none⟩ (.int .i64 9)).setCell ⟨q3, 7, none⟩ (.int .i64 2147483647)).setCell ⟨q3, 8, none⟩ (.int .i64 65535)).setCell ⟨q3, 9, none⟩ (.int .i64 254)).setCell ⟨q3, 10, none⟩ (.bool true)) = w3 at *
      obtain ⟨w4, hw4⟩ : ∃ x : World, w3.alloc (.cells #[.string { data := #[97] }, .int .i64 4611686018427387904, .string { data := #[] }, .int .i64 0] 50 ) = x := ⟨_, rfl⟩
      have HNw4 := Lib.hid (show Cells w4 w4.heap.size (some ⟨w3.heap.size, 0, none⟩) (#[.string { data := #[97] }, .int .i64 4611686018427387904, .string { data := #[] }, .int .i64 0] : Array Value).toList ∧ Below w3.heap.size w3 w4 from by rw [← hw4]; exact ⟨cells_made _ _ _ _, nextA (Mem.start _) _⟩)
      have HBw4 := Lib.hid (HM.out.b.keep HNw4.out.2)
      have c0 := HBw4.out.cell 11
      have c1 := HBw4.out.frozen 11
      simp [mv, mid] at c0
      go_upto_region 15 with fail
      have HMw5 := Lib.hid (HM.out.set HNw4.out.2 11 (.slice (some ⟨w3.heap.size, 0, none⟩) 2 2) (m' := { mid k with ids := (full k).ids }) (s' := ⟨some ⟨w3.heap.size, 0, none⟩, 2, none, 0, none, 0⟩) rfl)
      clear c0 c1 hw4
      obtain ⟨w5, hw5⟩ : ∃ x, w4.setCell ⟨q3, 11, none⟩ (.slice (some ⟨w3.heap.size, 0, none⟩) 2 2) = x := ⟨_, rfl⟩
      rw [hw5] at HMw5 ⊢
      have HFaw5 := Lib.hid (show Fr (fun k => k = q3) w4 w5 from by rw [← hw5]; exact one_fr)
      have HFbw5 := Lib.hid (show Fr (fun k => k = q3) w3 w5 from (Fr.quiet HNw4.out.2).trans HFaw5.out fun _ _ h => h)
      obtain ⟨g4, hg4⟩ : ∃ x, w3.heap.size = x := ⟨_, rfl⟩
      have HGg4 := Lib.hid (show q3 < g4 by rw [← hg4]; exact HM.out.b.lt)
      rw [hg4] at HNw4 HMw5 ⊢
      clear hw5 hg4
      obtain ⟨w6, hw6⟩ : ∃ x : World, w5.alloc (.cells #[.int .i64 0, .int .i64 254] 3 ) = x := ⟨_, rfl⟩
      have HNw6 := Lib.hid (show Cells w6 w6.heap.size (some ⟨w5.heap.size, 0, none⟩) (#[.int .i64 0, .int .i64 254] : Array Value).toList ∧ Below w5.heap.size w5 w6 from by rw [← hw6]; exact ⟨cells_made _ _ _ _, nextA (Mem.start _) _⟩)
      have HBw6 := Lib.hid (HMw5.out.b.keep HNw6.out.2)
      have c0 := HBw6.out.cell 12
      have c1 := HBw6.out.frozen 12
      simp [mv, mid] at c0
      go_upto_region 16 with fail
      have HMw7 := Lib.hid (HMw5.out.set HNw6.out.2 12 (.slice (some ⟨w5.heap.size, 0, none⟩) 2 2) (m' := { mid k with ids := (full k).ids, nodes := (full k).nodes }) (s' := ⟨some ⟨g4, 0, none⟩, 2, some ⟨w5.heap.size, 0, none⟩, 2, none, 0⟩) rfl)
      clear c0 c1 hw6
      obtain ⟨w7, hw7⟩ : ∃ x, w6.setCell ⟨q3, 12, none⟩ (.slice (some ⟨w5.heap.size, 0, none⟩) 2 2) = x := ⟨_, rfl⟩
      rw [hw7] at HMw7 ⊢
      have HFaw7 := Lib.hid (show Fr (fun k => k = q3) w6 w7 from by rw [← hw7]; exact one_fr)
      have HFbw7 := Lib.hid (show Fr (fun k => k = q3) w5 w7 from (Fr.quiet HNw6.out.2).trans HFaw7.out fun _ _ h => h)
      obtain ⟨g6, hg6⟩ : ∃ x, w5.heap.size = x := ⟨_, rfl⟩
      have HGg6 := Lib.hid (show q3 < g6 by rw [← hg6]; exact HMw5.out.b.lt)
      rw [hg6] at HNw6 HMw7 ⊢
      clear hw7 hg6
      obtain ⟨w8, hw8⟩ : ∃ x : World, w7.alloc (.cells #[.int .u8 100, .int .u8 97, .int .u8 116, .int .u8 97] 5 (4, 5)) = x := ⟨_, rfl⟩
      have HNw8 := Lib.hid (show Cells w8 w8.heap.size (some ⟨w7.heap.size, 0, none⟩) (#[.int .u8 100, .int .u8 97, .int .u8 116, .int .u8 97] : Array Value).toList ∧ Below w7.heap.size w7 w8 from by rw [← hw8]; exact ⟨cells_made _ _ _ _, nextA (Mem.start _) _⟩)
      have hcv : (convert 25 25 (.slice (some ⟨w7.heap.size, 0, none⟩) 4 4)).run Tryd.prog (w7.alloc (.cells #[.int .u8 100, .int .u8 97, .int .u8 116, .int .u8 97] 5)) = .ok (.slice (some ⟨w7.heap.size, 0, none⟩) 4 4) w8 := by rw [← hw8]; exact Lib.run_convert_bytes_const w7 25 5 #[.int .u8 100, .int .u8 97, .int .u8 116, .int .u8 97] 4 4 Tryd.underlying25 Tryd.underlying5
      clear hw8
      have HBw8 := Lib.hid (HMw7.out.b.keep HNw8.out.2)
      have c0 := HBw8.out.cell 13
      have c1 := HBw8.out.frozen 13
      simp [mv, mid] at c0
      go_upto_region 17 with fail
      have HMw9 := Lib.hid (HMw7.out.set HNw8.out.2 13 (.slice (some ⟨w7.heap.size, 0, none⟩) 4 4) (m' := full k) (s' := ⟨some ⟨g4, 0, none⟩, 2, some ⟨g6, 0, none⟩, 2, some ⟨w7.heap.size, 0, none⟩, 4⟩) rfl)
      clear c0 c1 hcv
      obtain ⟨w9, hw9⟩ : ∃ x, w8.setCell ⟨q3, 13, none⟩ (.slice (some ⟨w7.heap.size, 0, none⟩) 4 4) = x := ⟨_, rfl⟩
      rw [hw9] at HMw9 ⊢
      have HFaw9 := Lib.hid (show Fr (fun k => k = q3) w8 w9 from by rw [← hw9]; exact one_fr)
      have HFbw9 := Lib.hid (show Fr (fun k => k = q3) w7 w9 from (Fr.quiet HNw8.out.2).trans HFaw9.out fun _ _ h => h)
      obtain ⟨g8, hg8⟩ : ∃ x, w7.heap.size = x := ⟨_, rfl⟩
      have HGg8 := Lib.hid (show q3 < g8 by rw [← hg8]; exact HMw7.out.b.lt)
      rw [hg8] at HNw8 HMw9 ⊢
      clear hw9 hg8
      obtain ⟨sl, hsl⟩ : ∃ s : Sl, (⟨some ⟨g4, 0, none⟩, 2, some ⟨g6, 0, none⟩, 2, some ⟨g8, 0, none⟩, 4⟩ : Sl) = s := ⟨_, rfl⟩
      have HKS := Lib.hid (show KS w q2 q3 k sl w9 from by
        rw [← hsl]
        have e1 : ¬ g4 = q3 := Nat.ne_of_gt HGg4.out
        have e2 : ¬ g6 = q3 := Nat.ne_of_gt HGg6.out
        have e3 : ¬ g8 = q3 := Nat.ne_of_gt HGg8.out
        refine ⟨HMw9.out.a, HMw9.out.b, ⟨?_, ?_, ?_, by have := HK2.out; show k < 256; omega, by simp [full], by simp [full], by simp [full], by simp [full], ?_⟩, HMw9.out.t, HMw9.out.bel⟩
        · exact cells_farS HNw4.out.1 e1 ((HFaw5.out.trans HFbw7.out fun _ _ h => h).trans HFbw9.out fun _ _ h => h)
        · exact cells_farS HNw6.out.1 e2 (HFaw7.out.trans HFbw9.out fun _ _ h => h)
        · exact cells_farS HNw8.out.1 e3 HFaw9.out
        · intro x hx; simp [full] at hx; rcases hx with rfl | rfl <;> simp)
      clear HNw4 HNw6 HNw8 HFaw5 HFaw7 HFaw9 HFbw5 HFbw7 HFbw9 HM HMw5 HMw7 HMw9 HBw4 HBw6 HBw8 HGg4 HGg6 HGg8 hsl
      go_wp2_with ((with_reducible show wpList _ _ _ ((⟨some 44, _, _, _, _, _⟩ : Oper) :: _) _ _); refine wpList_load_mid rfl 27 (.tmp 3) rfl q3 0 rfl (mv (full k) sl).toList _ (range_of HKS.out.2.1) Tryd.underlying27 rfl minfo ?_)
      refine (plain_any w9 (full k) sl (HKS.out.2.2.1.small (full_few k))).mono ?_
      rintro e w10 ⟨A1, c1, rfl, hI, hb⟩
      have H10 := Lib.hid (And.intro (HKS.out.keep hb) hI)
      clear hI hb HKS
      go_wp2_with fail
      refine (rbytes_any w10 (full k) A1 c1 sl.na sl.nc H10.out.2 (full_mayB k HK.out.1 HK2.out)).mono ?_
      rintro e w11 ⟨A2, c2, rfl, ho, hb⟩
      obtain ⟨bs, hbs⟩ : ∃ b, Wi.bytes (full k) = b := ⟨_, rfl⟩
      obtain ⟨L, hL⟩ : ∃ L, bs.length = L := ⟨_, rfl⟩
      rw [hbs] at ho ⊢
      rw [hL]
      have H11 := Lib.hid (And.intro (H10.out.1.keep hb) ho)
      have HL := Lib.hid (show Wi.bytes (full k) = bs ∧ bs.length = L ∧ L ≤ 800000 ∧ Wi.get bs = some (keep (full k) (flds k)) by
        have h := bytes_leB (full_mayB k HK.out.1 HK2.out)
        have h2 := full_get k HK.out.1 HK2.out
        rw [hbs] at h h2
        exact ⟨hbs, hL, by omega, h2⟩)
      clear ho hb hbs hL H10
      go_wp2_with fail
      refine (rget_yes w11 A2 bs L c2 HL.out.2.1.symm (by have h := H11.out.2.le; rw [List.length_map, HL.out.2.1] at h; exact h) (maxle H11.out.2.max) H11.out.2.bytes (by rw [HL.out.2.1]; have := HL.out.2.2.1; omega) _ HL.out.2.2.2).mono ?_
      rintro e w12 ⟨A3, c3, na, nc, rfl, hI, hb⟩
      obtain ⟨m3, hm3⟩ : ∃ m, keep (full k) (flds k) = m := ⟨_, rfl⟩
      have HK3 := Lib.hid (show m3.kind = k by rw [← hm3]; rfl)
      rw [hm3] at hI ⊢
      have H12 := Lib.hid (H11.out.1.keep hb)
      clear hI hb hm3 H11
      obtain ⟨byx, hby⟩ : ∃ x, w12.heap.size = x := ⟨_, rfl⟩
      have hB4 := Blk.new w12 33 #[.int .u8 0, .int .i64 0, .int .i64 0, .int .i64 0, .string { data := #[] }, .int .i64 0, .int .i64 0, .int .i64 0, .int .i64 0, .int .i64 0, .bool false, .slice none 0 0, .slice none 0 0, .string { data := #[] }]
      rw [hby] at hB4
      have HB4 := Lib.hid hB4
      have HBY := Lib.hid hby
      clear hB4
      go_wp2_with (first
        | ((with_reducible show wpList _ _ _ ((⟨none, .store _ _ _, _, _, _, _⟩ : Oper) :: _) _ _); refine wpList_store_mid rfl 33 (.tmp 4) (.tmp 48) rfl byx 0 (pvk m3 A3 m3.ids.length c3 na nc) (by simp [Act.eval, hby]) rfl (there_p HB4.out) pinfo (pvk_one _ _ _ _ _ _) ?_; have hf5 : Fr (fun k => k = byx) (w12.alloc (.cells #[.int .u8 0, .int .i64 0, .int .i64 0, .int .i64 0, .string { data := #[] }, .int .i64 0, .int .i64 0, .int .i64 0, .int .i64 0, .int .i64 0, .bool false, .slice none 0 0, .slice none 0 0, .string { data := #[] }] 33)) ((w12.alloc (.cells #[.int .u8 0, .int .i64 0, .int .i64 0, .int .i64 0, .string { data := #[] }, .int .i64 0, .int .i64 0, .int .i64 0, .int .i64 0, .int .i64 0, .bool false, .slice none 0 0, .slice none 0 0, .string { data := #[] }] 33)).setCells byx 0 (pvk m3 A3 m3.ids.length c3 na nc).toList) := fr_setCells (S := fun k => k = byx) rfl _ _ _ (Fr.refl _ _); have hB5 := set14p HB4.out m3 A3 m3.ids.length c3 na nc; obtain ⟨w13, hw13⟩ : ∃ x, (w12.alloc (.cells #[.int .u8 0, .int .i64 0, .int .i64 0, .int .i64 0, .string { data := #[] }, .int .i64 0, .int .i64 0, .int .i64 0, .int .i64 0, .int .i64 0, .bool false, .slice none 0 0, .slice none 0 0, .string { data := #[] }] 33)).setCells byx 0 (pvk m3 A3 m3.ids.length c3 na nc).toList = x := ⟨_, rfl⟩; rw [hw13] at hf5 hB5 ⊢; have HB13 := Lib.hid (show Below w12.heap.size w12 w13 from (nextA (Mem.start w12) _).trans (hf5.below (by simp) fun k hk => by omega)); have e0 := hB5.cell 0; simp [pvk] at e0; rw [HK3.out] at e0; clear hf5 hB5 hw13 hby)
        | ((with_reducible show wpList _ _ _ ((⟨some 58, _, _, _, _, _⟩ : Oper) :: _) _ _); refine wpList_load_mid rfl 27 (.tmp 3) rfl q3 0 rfl (mv (full k) sl).toList _ (range_of (H12.out.keep HB13.out).2.1) Tryd.underlying27 rfl minfo ?_))
      refine (plain_any w13 (full k) sl ((H12.out.keep HB13.out).2.2.1.small (full_few k))).mono ?_
      rintro e w14 ⟨A4, c4, rfl, hI, hb⟩
      have H14 := Lib.hid (And.intro ((H12.out.keep HB13.out).keep hb) hI)
      clear hI hb H12 HB13 HB4 HBY e0
      go_wp2_with fail
      refine (rbytes_any w14 (full k) A4 c4 sl.na sl.nc H14.out.2 (full_mayB k HK.out.1 HK2.out)).mono ?_
      rintro e w15 ⟨A5, c5, rfl, ho, hb⟩
      rw [HL.out.1] at ho ⊢
      rw [HL.out.2.1]
      have H15 := Lib.hid (show KB w q2 q3 k sl A5 bs w15 from ⟨H14.out.1.keep hb, ho.bytes⟩)
      have HC5 := Lib.hid (show L ≤ c5 from by have h := ho.le; rw [List.length_map, HL.out.2.1] at h; exact h)
      have HM5 := Lib.hid ho.max
      clear ho hb H14
      go_wp2_with fail
      go_loopw [7] (fun i wr => ∃ j : Nat, i = .int .i64 (j : Int) ∧ j ≤ L ∧ KB w q2 q3 k sl A5 bs wr) (fun i _ => L - (intOf i).toNat)
      case atStart => exact ⟨0, rfl, Nat.zero_le _, H15.out⟩
      case round =>
        obtain ⟨j, rfl, hj, hP⟩ := hrel
        have HP := Lib.hid hP
        clear hP
        have hL1 : (L : Int) ≤ 800000 := by have := HL.out.2.2.1; omega
        by_cases hjl : j < L
        · have HJ := Lib.hid hjl
          have h1 : (j : Int) < (L : Int) := by omega
          have h0 : (0 : Int) ≤ (j : Int) := by omega
          have es := run_str (P := Tryd.prog) wr 25 5 Tryd.underlying25 Tryd.underlying5 HP.out.2 c5 9 Tryd.underlying9
          rw [HL.out.2.1] at es
          clear hjl hj
          go_wp2_with (first
            | ((with_reducible show wpList _ _ _ ((⟨some 69, _, _, _, _, _⟩ : Oper) :: _) _ _); refine wpList_bytesOfB wr (by rfl) 9 25 (.tmp 68) rfl 5 Tryd.underlying9 Tryd.underlying25 Tryd.underlying5 bs (by rw [HL.out.2.1]; have := HL.out.2.2.1; unfold maxLen; omega) rfl ?_; intro ck w1 hck hr hbl hs; rw [HL.out.2.1] at hck ⊢; obtain ⟨g, hgw⟩ : ∃ q, wr.heap.size = q := ⟨_, rfl⟩; have H1 := Lib.hid (show Row w1 g (some ⟨g, 0, none⟩) (bs.map u8v) ∧ Below wr.heap.size wr w1 ∧ L ≤ ck ∧ ck ≤ maxLen ∧ g = wr.heap.size from ⟨by rw [← hgw]; exact hr.row, hbl, hck, by obtain ⟨_, _, _, _, _, _, _, h⟩ := hr; exact h, hgw.symm⟩); rw [hgw]; clear hck hr hbl hs hgw es; obtain ⟨g', hg1, hg2, hg3, hcell, hfz, hset⟩ := H1.out.1.at_ (k := j) (by rw [List.length_map, HL.out.2.1]; exact HJ.out); injection hg1 with hg1; injection hg1 with hg1; subst hg1; rw [List.getElem_map] at hcell; have HSET := Lib.hid hset; clear hset hg2 hg3; obtain ⟨x, hx⟩ : ∃ x, bs[j]'(by rw [HL.out.2.1]; exact HJ.out) = x := ⟨_, rfl⟩; rw [hx] at hcell; simp only [u8v] at hcell; obtain ⟨y, hy⟩ := xor1 x; clear hx)
            | ((with_reducible show wpList _ _ _ ((⟨some 79, _, _, _, _, _⟩ : Oper) :: _) _ _); obtain ⟨w2, hw2⟩ : ∃ x, w1.setCell ⟨g, j, none⟩ (.int .u8 (y.toNat : Int)) = x := ⟨_, rfl⟩; rw [hw2]; have H2 := Lib.hid (show Bytes w2 w2.heap.size (some ⟨g, 0, none⟩) (bs.set j y) ∧ Below wr.heap.size wr w2 from by rw [← hw2]; exact ⟨by have h := (HSET.out (u8v y)).cells; rw [← List.map_set] at h; exact h, H1.out.2.1.trans (rowB (by rw [H1.out.2.2.2.2]; exact Nat.le_refl _) H1.out.2.1.size)⟩); have HCK := Lib.hid (And.intro H1.out.2.2.1 H1.out.2.2.2.1); clear hw2 hcell hfz hy H1 HSET; have es := run_str (P := Tryd.prog) w2 25 5 Tryd.underlying25 Tryd.underlying5 (HP.out.keep H2.out.2).2 c5 9 Tryd.underlying9; rw [HL.out.2.1] at es)
            | ((with_reducible show wpList _ _ _ ((⟨some 80, _, _, _, _, _⟩ : Oper) :: _) _ _); refine wpList_bytesOfB w2 (by rfl) 9 25 (.tmp 79) rfl 5 Tryd.underlying9 Tryd.underlying25 Tryd.underlying5 bs (by rw [HL.out.2.1]; have := HL.out.2.2.1; unfold maxLen; omega) rfl ?_; intro cd w3 hck hr hbl hs; rw [HL.out.2.1] at hck ⊢; obtain ⟨gd, hgw⟩ : ∃ q, w2.heap.size = q := ⟨_, rfl⟩; have H3 := Lib.hid (show Row w3 gd (some ⟨gd, 0, none⟩) (bs.map u8v) ∧ Below w2.heap.size w2 w3 ∧ L ≤ cd ∧ cd ≤ maxLen ∧ gd = w2.heap.size from ⟨by rw [← hgw]; exact hr.row, hbl, hck, by obtain ⟨_, _, _, _, _, _, _, h⟩ := hr; exact h, hgw.symm⟩); rw [hgw]; clear hck hr hbl hs hgw es; obtain ⟨g', hg1, hg2, hg3, hcell, hfz, hset⟩ := H3.out.1.at_ (k := j) (by rw [List.length_map, HL.out.2.1]; exact HJ.out); injection hg1 with hg1; injection hg1 with hg1; subst hg1; have HSET := Lib.hid hset; clear hset hg2 hg3))
          obtain ⟨w4, hw4⟩ : ∃ x, w3.setCell ⟨gd, j, none⟩ (.int .u8 255) = x := ⟨_, rfl⟩
          have H4 := Lib.hid (show KB w q2 q3 k sl A5 bs w4 ∧ Bytes w4 w4.heap.size (some ⟨g, 0, none⟩) (bs.set j y) ∧ Bytes w4 w4.heap.size (some ⟨gd, 0, none⟩) (bs.set j 255) from (by
            have h24 : Below w2.heap.size w2 w4 := (by rw [← hw4]; exact H3.out.2.1.trans (rowB (by rw [H3.out.2.2.2.2]; exact Nat.le_refl _) H3.out.2.1.size))
            refine ⟨(HP.out.keep H2.out.2).keep h24, (H2.out.1.below h24).up h24.size, ?_⟩
            rw [← hw4]
            have h := (HSET.out (u8v 255)).cells
            rw [← List.map_set] at h
            exact h))
          rw [hw4]
          have HCD := Lib.hid (And.intro H3.out.2.2.1 H3.out.2.2.2.1)
          have hjc : (j : Int) ≤ (c5 : Int) := by have := HC5.out; have := HJ.out; omega
          clear hw4 hcell hfz H3 HSET
          refine (gets_l w4 H4.out.1.1.2.2.2.1 (some ⟨g, 0, none⟩) (bs.set j y) L ck (by rw [List.length_set]; exact HL.out.2.1) HCK.out.1 HCK.out.2 H4.out.2.1).mono ?_
          rintro e w5 ⟨rfl, hb⟩
          have H5 := Lib.hid (show KB w q2 q3 k sl A5 bs w5 ∧ Bytes w5 w5.heap.size (some ⟨g, 0, none⟩) (bs.set j y) ∧ Bytes w5 w5.heap.size (some ⟨gd, 0, none⟩) (bs.set j 255) from ⟨H4.out.1.keep hb, (H4.out.2.1.below hb).up hb.size, (H4.out.2.2.below hb).up hb.size⟩)
          clear hb H4 H2
          go_wp2_with fail
          refine (gets_l w5 H5.out.1.1.2.2.2.1 (some ⟨gd, 0, none⟩) (bs.set j 255) L cd (by rw [List.length_set]; exact HL.out.2.1) HCD.out.1 HCD.out.2 H5.out.2.2).mono ?_
          rintro e w6 ⟨rfl, hb⟩
          have H6 := Lib.hid (show KB w q2 q3 k sl A5 bs w6 ∧ Bytes w6 w6.heap.size (some ⟨g, 0, none⟩) (bs.set j y) from ⟨H5.out.1.keep hb, (H5.out.2.1.below hb).up hb.size⟩)
          clear hb H5
          go_wp2_with fail
          refine (gets_l w6 H6.out.1.1.2.2.2.1 A5 (bs.take j) j c5 (by rw [List.length_take, HL.out.2.1]; have := HJ.out; omega) (by have := HC5.out; have := HJ.out; omega) HM5.out (H6.out.1.2.take j)).mono ?_
          rintro e w7 ⟨rfl, hb⟩
          have H7 := Lib.hid (show KB w q2 q3 k sl A5 bs w7 ∧ Bytes w7 w7.heap.size (some ⟨g, 0, none⟩) (bs.set j y) from ⟨H6.out.1.keep hb, (H6.out.2.below hb).up hb.size⟩)
          clear hb H6
          have ca0 := H7.out.1.1.1.cell 0
          have ca1 := H7.out.1.1.1.cell 1
          have ca2 := H7.out.1.1.1.cell 2
          have ca3 := H7.out.1.1.1.cell 3
          have ca4 := H7.out.1.1.1.cell 4
          have ca5 := H7.out.1.1.1.cell 5
          have ca6 := H7.out.1.1.1.cell 6
          have ca7 := H7.out.1.1.1.cell 7
          have ca8 := H7.out.1.1.1.cell 8
          have ca9 := H7.out.1.1.1.cell 9
          have ca10 := H7.out.1.1.1.cell 10
          have ca11 := H7.out.1.1.1.cell 11
          have ca12 := H7.out.1.1.1.cell 12
          have ca13 := H7.out.1.1.1.cell 13
          have cb0 := H7.out.1.1.2.1.cell 0
          have cb1 := H7.out.1.1.2.1.cell 1
          have cb2 := H7.out.1.1.2.1.cell 2
          have cb3 := H7.out.1.1.2.1.cell 3
          have cb4 := H7.out.1.1.2.1.cell 4
          have cb5 := H7.out.1.1.2.1.cell 5
          have cb6 := H7.out.1.1.2.1.cell 6
          have cb7 := H7.out.1.1.2.1.cell 7
          have cb8 := H7.out.1.1.2.1.cell 8
          have cb9 := H7.out.1.1.2.1.cell 9
          have cb10 := H7.out.1.1.2.1.cell 10
          have cb11 := H7.out.1.1.2.1.cell 11
          have cb12 := H7.out.1.1.2.1.cell 12
          have cb13 := H7.out.1.1.2.1.cell 13
          simp [mv] at ca0 cb0 ca1 cb1 ca2 cb2 ca3 cb3 ca4 cb4 ca5 cb5 ca6 cb6 ca7 cb7 ca8 cb8 ca9 cb9 ca10 cb10 ca11 cb11 ca12 cb12 ca13 cb13
          go_wp2_with fail
          refine (back_l w7 H7.out.1.1.2.2.2.1 (small k) s0 (small_min _ _ k HK2.out) (full k) sl H7.out.1.1.2.2.1 (some ⟨g, 0, none⟩) (bs.set j y) L ck (by rw [List.length_set]; exact HL.out.2.1) HCK.out.1 HCK.out.2 H7.out.2).mono ?_
          rintro e w8 ⟨rfl, hb⟩
          have H8 := Lib.hid (H7.out.1.keep hb)
          clear hb ca0 cb0 ca1 cb1 ca2 cb2 ca3 cb3 ca4 cb4 ca5 cb5 ca6 cb6 ca7 cb7 ca8 cb8 ca9 cb9 ca10 cb10 ca11 cb11 ca12 cb12 ca13 cb13
          go_wp2_with fail
          go_roundw
          case rel => exact ⟨j + 1, rfl, HJ.out, H8.out⟩
          case measure => simp [intOf]; have := HJ.out; omega
        · obtain rfl : L = j := by omega
          clear hjl hj
          go_wp2_with fail
          go_loopw [10] (fun i wr => ∃ n : Nat, i = .int .i64 (n : Int) ∧ n ≤ 23 ∧ KB w q2 q3 k sl A5 bs wr) (fun i _ => 23 - (intOf i).toNat)
          case atStart => exact ⟨0, rfl, by decide, HP.out⟩
          case round =>
            obtain ⟨n, rfl, hn, hP⟩ := hrel
            have HP2 := Lib.hid hP
            clear hP
            by_cases hnl : n < 23
            · have HN := Lib.hid hnl
              have h1 : (n : Int) < 23 := by omega
              have h0 : (0 : Int) ≤ (n : Int) := by omega
              clear hnl hn
              go_wp2_with fail
              have HD := Lib.hid (show KB w q2 q3 k sl A5 bs wr.drew from HP2.out.keep (nextN (Mem.start wr) 1))
              refine wp_region_noPanic ?_
              refine wp_heldG (fun V => KB w q2 q3 k sl A5 bs V) [] (by kernel_rfl) ?hs0 ?rg0
              case hs0 => exact HD.out
              case rg0 =>
              intro hHeld
              obtain ⟨wd, hwd⟩ : ∃ x : World, wr.drew = x := ⟨_, rfl⟩
              rw [hwd] at HD hHeld ⊢
              clear hwd
              have HB40 := Lib.hid (Mem.start wd)
              refine tkG 0 ⟨some 110, .load 27 (.tmp 2), 27, _, #[], none⟩ (v := ?_) ?_ (by assumption) ?_
              rotate_left
              · intro w hSw
                refine exec_load 27 (.tmp 2) ?_ _ ?_ (.agg (mv (small k) s0)) (load_msg hSw.1.1)
                · rfl
                · rfl
              try simp only [Act.put, List.setIfInBounds_toArray, List.set_cons_zero, List.set_cons_succ]
              refine puG 1 ⟨some 111, .move (.tmp 10), 3, _, #[], none⟩ (v := ?_) ?_ (fun _ => by assumption) ?_
              rotate_left
              · intro w hSw
                go_simp
                try with_reducible rfl
              try simp only [Act.put, List.setIfInBounds_toArray, List.set_cons_zero, List.set_cons_succ]
              refine onG 2 ⟨some 112, .call { callee := Callee.value (Operand.func 21), args := #[.tmp 110, .tmp 111], argTypes := #[27, 3] }, 27, _, #[⟨0, .data⟩, ⟨1, .data⟩], none⟩ (fun K hK => ?_)
              go_simp
              refine (bent_any wd (small k) s0 n HN.out (small_min _ _ k HK2.out)).mono ?_
              rintro e w41 ⟨m1, s1, rfl, hM, hb⟩
              have HB41 := Lib.hid (next HB40.out hb)
              have HM1 := Lib.hid hM
              clear hM hb
              try dsimp only
              refine hK.out _ _ ?_ (fun hHeld => ?_)
              · intro _
                try dsimp only
                exact HD.out.keep HB41.out
              clear hK K
              try simp only [Act.put, List.setIfInBounds_toArray, List.set_cons_zero, List.set_cons_succ]
              have hHeld := hHeld (by kernel_rfl)
              refine onG 3 ⟨some 113, .call { callee := Callee.value (Operand.func 3), args := #[.tmp 112], argTypes := #[27] }, 4, _, #[⟨2, .data⟩, ⟨2, .chain⟩], none⟩ (fun K hK => ?_)
              go_simp
              refine (puts_law w41 (HD.out.keep HB41.out).1.2.2.2.1 m1 s1 HM1.out).mono ?_
              rintro e w42 ⟨rfl, hb⟩
              have HB42 := Lib.hid (next HB41.out hb)
              clear hb
              try dsimp only
              refine hK.out _ _ ?_ (fun hHeld => ?_)
              · intro _
                try dsimp only
                exact HD.out.keep HB42.out
              clear hK K
              try simp only [Act.put, List.setIfInBounds_toArray, List.set_cons_zero, List.set_cons_succ]
              have hHeld := hHeld (by kernel_rfl)
              refine puG 4 ⟨some 114, .unOp UnOp.not 4 (.tmp 113), 4, _, #[⟨3, .data⟩], none⟩ (v := ?_) ?_ (fun _ => by assumption) ?_
              rotate_left
              · intro w hSw
                go_simp
                try with_reducible rfl
              try simp only [Act.put, List.setIfInBounds_toArray, List.set_cons_zero, List.set_cons_succ]
              refine puG 5 ⟨some 115, .move (.tmp 114), 4, _, #[⟨4, .data⟩, ⟨3, .chain⟩], none⟩ (v := ?_) ?_ (fun _ => by assumption) ?_
              rotate_left
              · intro w hSw
                go_simp
                try with_reducible rfl
              try simp only [Act.put, List.setIfInBounds_toArray, List.set_cons_zero, List.set_cons_succ]
              refine tkG 6 ⟨some 116, .load 27 (.tmp 2), 27, _, #[⟨5, .guard⟩], some (5, false)⟩ (v := ?_) ?_ (by assumption) ?_
              rotate_left
              · intro w hSw
                refine exec_load 27 (.tmp 2) ?_ _ ?_ (.agg (mv (small k) s0)) (load_msg hSw.1.1)
                · rfl
                · rfl
              try simp only [Act.put, List.setIfInBounds_toArray, List.set_cons_zero, List.set_cons_succ]
              refine puG 7 ⟨some 117, .move (.tmp 10), 3, _, #[⟨5, .guard⟩], some (5, false)⟩ (v := ?_) ?_ (fun _ => by assumption) ?_
              rotate_left
              · intro w hSw
                go_simp
                try with_reducible rfl
              try simp only [Act.put, List.setIfInBounds_toArray, List.set_cons_zero, List.set_cons_succ]
              refine tkG 9 ⟨some 119, .load 27 (.tmp 2), 27, _, #[⟨5, .guard⟩], some (5, false)⟩ (v := ?_) ?_ (by assumption) ?_
              rotate_left
              · intro w hSw
                refine exec_load 27 (.tmp 2) ?_ _ ?_ (.agg (mv (small k) s0)) (load_msg hSw.1.1)
                · rfl
                · rfl
              try simp only [Act.put, List.setIfInBounds_toArray, List.set_cons_zero, List.set_cons_succ]
              refine puG 10 ⟨some 120, .move (.tmp 6), 25, _, #[⟨5, .guard⟩], some (5, false)⟩ (v := ?_) ?_ (fun _ => by assumption) ?_
              rotate_left
              · intro w hSw
                go_simp
                try with_reducible rfl
              try simp only [Act.put, List.setIfInBounds_toArray, List.set_cons_zero, List.set_cons_succ]
              refine onG 8 ⟨some 118, .call { callee := Callee.value (Operand.func 21), args := #[.tmp 116, .tmp 117], argTypes := #[27, 3] }, 27, _, #[⟨6, .data⟩, ⟨7, .data⟩, ⟨5, .chain⟩, ⟨5, .guard⟩], some (5, false)⟩ (fun K hK => ?_)
              go_simp
              refine (bent_any w42 (small k) s0 n HN.out (small_min _ _ k HK2.out)).mono ?_
              rintro e w43 ⟨m2, s2, rfl, hM, hb⟩
              have HB43 := Lib.hid (next HB42.out hb)
              have HM2 := Lib.hid hM
              clear hM hb
              try dsimp only
              refine hK.out _ _ ?_ (fun hHeld => ?_)
              · intro _
                try dsimp only
                exact HD.out.keep HB43.out
              clear hK K
              try simp only [Act.put, List.setIfInBounds_toArray, List.set_cons_zero, List.set_cons_succ]
              have hHeld := hHeld (by kernel_rfl)
              refine onG 11 ⟨some 121, .call { callee := Callee.value (Operand.func 5), args := #[.tmp 118, .tmp 119, .tmp 120], argTypes := #[27, 27, 25] }, 4, _, #[⟨8, .data⟩, ⟨9, .data⟩, ⟨10, .data⟩, ⟨8, .chain⟩, ⟨5, .guard⟩], some (5, false)⟩ (fun K hK => ?_)
              go_simp
              refine (back_l w43 (HD.out.keep HB43.out).1.2.2.2.1 m2 s2 HM2.out (small k) s0 (small_min _ _ k HK2.out) A5 bs L c5 HL.out.2.1 HC5.out HM5.out (HD.out.keep HB43.out).2).mono ?_
              rintro e w44 ⟨rfl, hb⟩
              have HB44 := Lib.hid (next HB43.out hb)
              clear hb
              try dsimp only
              refine hK.out _ _ ?_ (fun hHeld => ?_)
              · intro _
                try dsimp only
                exact HD.out.keep HB44.out
              clear hK K
              try simp only [Act.put, List.setIfInBounds_toArray, List.set_cons_zero, List.set_cons_succ]
              have hHeld := hHeld (by kernel_rfl)
              refine puG 12 ⟨some 122, .unOp UnOp.not 4 (.tmp 121), 4, _, #[⟨11, .data⟩, ⟨5, .guard⟩], some (5, false)⟩ (v := ?_) ?_ (fun _ => by assumption) ?_
              rotate_left
              · intro w hSw
                go_simp
                try with_reducible rfl
              try simp only [Act.put, List.setIfInBounds_toArray, List.set_cons_zero, List.set_cons_succ]
              refine puG 13 ⟨some 123, .pick (.tmp 115) (Operand.const (Value.bool true)) (.tmp 122), 4, _, #[⟨5, .data⟩, ⟨12, .data⟩], none⟩ (v := ?_) ?_ (fun _ => by assumption) ?_
              rotate_left
              · intro w hSw
                go_simp
                try with_reducible rfl
              try simp only [Act.put, List.setIfInBounds_toArray, List.set_cons_zero, List.set_cons_succ]
              refine puG 14 ⟨some 124, .move (.tmp 123), 4, _, #[⟨13, .data⟩, ⟨11, .chain⟩], none⟩ (v := ?_) ?_ (fun _ => by assumption) ?_
              rotate_left
              · intro w hSw
                go_simp
                try with_reducible rfl
              try simp only [Act.put, List.setIfInBounds_toArray, List.set_cons_zero, List.set_cons_succ]
              refine tkG 15 ⟨some 125, .load 27 (.tmp 2), 27, _, #[⟨14, .guard⟩], some (14, false)⟩ (v := ?_) ?_ (by assumption) ?_
              rotate_left
              · intro w hSw
                refine exec_load 27 (.tmp 2) ?_ _ ?_ (.agg (mv (small k) s0)) (load_msg hSw.1.1)
                · rfl
                · rfl
              try simp only [Act.put, List.setIfInBounds_toArray, List.set_cons_zero, List.set_cons_succ]
              refine puG 16 ⟨some 126, .move (.tmp 10), 3, _, #[⟨14, .guard⟩], some (14, false)⟩ (v := ?_) ?_ (fun _ => by assumption) ?_
              rotate_left
              · intro w hSw
                go_simp
                try with_reducible rfl
              try simp only [Act.put, List.setIfInBounds_toArray, List.set_cons_zero, List.set_cons_succ]
              refine tkG 18 ⟨some 128, .load 27 (.tmp 3), 27, _, #[⟨14, .guard⟩], some (14, false)⟩ (v := ?_) ?_ (by assumption) ?_
              rotate_left
              · intro w hSw
                refine exec_load 27 (.tmp 3) ?_ _ ?_ (.agg (mv (full k) sl)) (load_msg hSw.1.2.1)
                · rfl
                · rfl
              try simp only [Act.put, List.setIfInBounds_toArray, List.set_cons_zero, List.set_cons_succ]
              refine puG 19 ⟨some 129, .move (.tmp 10), 3, _, #[⟨14, .guard⟩], some (14, false)⟩ (v := ?_) ?_ (fun _ => by assumption) ?_
              rotate_left
              · intro w hSw
                go_simp
                try with_reducible rfl
              try simp only [Act.put, List.setIfInBounds_toArray, List.set_cons_zero, List.set_cons_succ]
              refine onG 17 ⟨some 127, .call { callee := Callee.value (Operand.func 21), args := #[.tmp 125, .tmp 126], argTypes := #[27, 3] }, 27, _, #[⟨15, .data⟩, ⟨16, .data⟩, ⟨14, .chain⟩, ⟨14, .guard⟩], some (14, false)⟩ (fun K hK => ?_)
              go_simp
              refine (bent_any w44 (small k) s0 n HN.out (small_min _ _ k HK2.out)).mono ?_
              rintro e w45 ⟨m3, s3, rfl, hM, hb⟩
              have HB45 := Lib.hid (next HB44.out hb)
              have HM3 := Lib.hid hM
              clear hM hb
              try dsimp only
              refine hK.out _ _ ?_ (fun hHeld => ?_)
              · intro _
                try dsimp only
                exact HD.out.keep HB45.out
              clear hK K
              try simp only [Act.put, List.setIfInBounds_toArray, List.set_cons_zero, List.set_cons_succ]
              have hHeld := hHeld (by kernel_rfl)
              refine onG 20 ⟨some 130, .call { callee := Callee.value (Operand.func 21), args := #[.tmp 128, .tmp 129], argTypes := #[27, 3] }, 27, _, #[⟨18, .data⟩, ⟨19, .data⟩, ⟨17, .chain⟩, ⟨14, .guard⟩], some (14, false)⟩ (fun K hK => ?_)
              go_simp
              refine (bent_any w45 (full k) sl n HN.out (HD.out.keep HB45.out).1.2.2.1).mono ?_
              rintro e w46 ⟨m4, s4, rfl, hM, hb⟩
              have HB46 := Lib.hid (next HB45.out hb)
              have HM3_46 := Lib.hid (HM3.out.keep hb)
              have HM4 := Lib.hid hM
              clear hM hb
              try dsimp only
              refine hK.out _ _ ?_ (fun hHeld => ?_)
              · intro _
                try dsimp only
                exact HD.out.keep HB46.out
              clear hK K
              try simp only [Act.put, List.setIfInBounds_toArray, List.set_cons_zero, List.set_cons_succ]
              have hHeld := hHeld (by kernel_rfl)
              refine onG 21 ⟨some 131, .call { callee := Callee.value (Operand.func 6), args := #[.tmp 127, .tmp 130], argTypes := #[27, 27] }, 4, _, #[⟨17, .data⟩, ⟨20, .data⟩, ⟨20, .chain⟩, ⟨14, .guard⟩], some (14, false)⟩ (fun K hK => ?_)
              go_simp
              refine (same_law w46 (HD.out.keep HB46.out).1.2.2.2.1 m3 s3 HM3_46.out m4 s4 HM4.out).mono ?_
              rintro e w47 ⟨rfl, hb⟩
              have HB47 := Lib.hid (next HB46.out hb)
              clear hb
              try dsimp only
              refine hK.out _ _ ?_ (fun hHeld => ?_)
              · intro _
                try dsimp only
                exact HD.out.keep HB47.out
              clear hK K
              try simp only [Act.put, List.setIfInBounds_toArray, List.set_cons_zero, List.set_cons_succ]
              have hHeld := hHeld (by kernel_rfl)
              refine puG 22 ⟨some 132, .unOp UnOp.not 4 (.tmp 131), 4, _, #[⟨21, .data⟩, ⟨14, .guard⟩], some (14, false)⟩ (v := ?_) ?_ (fun _ => by assumption) ?_
              rotate_left
              · intro w hSw
                go_simp
                try with_reducible rfl
              try simp only [Act.put, List.setIfInBounds_toArray, List.set_cons_zero, List.set_cons_succ]
              refine puG 23 ⟨some 133, .pick (.tmp 124) (Operand.const (Value.bool true)) (.tmp 132), 4, _, #[⟨14, .data⟩, ⟨22, .data⟩], none⟩ (v := ?_) ?_ (fun _ => by assumption) ?_
              rotate_left
              · intro w hSw
                go_simp
                try with_reducible rfl
              try simp only [Act.put, List.setIfInBounds_toArray, List.set_cons_zero, List.set_cons_succ]
              refine puG 24 ⟨some 134, .move (.tmp 133), 4, _, #[⟨23, .data⟩, ⟨21, .chain⟩], none⟩ (v := ?_) ?_ (fun _ => by assumption) ?_
              rotate_left
              · intro w hSw
                go_simp
                try with_reducible rfl
              try simp only [Act.put, List.setIfInBounds_toArray, List.set_cons_zero, List.set_cons_succ]
              refine tkG 25 ⟨some 135, .load 27 (.tmp 2), 27, _, #[⟨24, .guard⟩], some (24, false)⟩ (v := ?_) ?_ (by assumption) ?_
              rotate_left
              · intro w hSw
                refine exec_load 27 (.tmp 2) ?_ _ ?_ (.agg (mv (small k) s0)) (load_msg hSw.1.1)
                · rfl
                · rfl
              try simp only [Act.put, List.setIfInBounds_toArray, List.set_cons_zero, List.set_cons_succ]
              refine puG 26 ⟨some 136, .move (.tmp 10), 3, _, #[⟨24, .guard⟩], some (24, false)⟩ (v := ?_) ?_ (fun _ => by assumption) ?_
              rotate_left
              · intro w hSw
                go_simp
                try with_reducible rfl
              try simp only [Act.put, List.setIfInBounds_toArray, List.set_cons_zero, List.set_cons_succ]
              refine wpAnyG_two (i := 27) (j := 28) (o := ⟨some 137, .call { callee := Callee.value (Operand.func 21), args := #[.tmp 135, .tmp 136], argTypes := #[27, 3] }, 27, _, #[⟨25, .data⟩, ⟨26, .data⟩, ⟨24, .chain⟩, ⟨24, .guard⟩], some (24, false)⟩) (u := ⟨some 138, .buildSlice 25 3 #[(0, Operand.const (Value.int IntKind.u8 108)), (1, Operand.const (Value.int IntKind.u8 105)), (2, Operand.const (Value.int IntKind.u8 101))], 25, _, #[⟨24, .guard⟩], some (24, false)⟩) (by kernel_rfl) rfl rfl (fun K hK => ?_) (fun K hK => ?_)
              · skip
                go_simp
                refine (bent_any w47 (small k) s0 n HN.out (small_min _ _ k HK2.out)).mono ?_
                rintro e w48 ⟨m5, s5, rfl, hM, hb⟩
                have HB48 := Lib.hid (next HB47.out hb)
                have HM5 := Lib.hid hM
                clear hM hb
                try dsimp only
                refine hK.out _ _ ?_ (fun hHeld => ?_)
                · intro _
                  try dsimp only
                  exact HD.out.keep HB48.out
                clear hK K
                try simp only [Act.put, List.setIfInBounds_toArray, List.set_cons_zero, List.set_cons_succ]
                have hHeld := hHeld (by kernel_rfl)
                refine onG 28 ⟨some 138, .buildSlice 25 3 #[(0, Operand.const (Value.int IntKind.u8 108)), (1, Operand.const (Value.int IntKind.u8 105)), (2, Operand.const (Value.int IntKind.u8 101))], 25, _, #[⟨24, .guard⟩], some (24, false)⟩ (fun K hK => ?_)
                go_simp
                obtain ⟨g9, hg9⟩ : ∃ x, w48.heap.size = x := ⟨_, rfl⟩
                obtain ⟨w49, hw49⟩ : ∃ x : World, w48.alloc (.cells #[.int .u8 108, .int .u8 105, .int .u8 101] 5) = x := ⟨_, rfl⟩
                have hb : Below w48.heap.size w48 w49 := by rw [← hw49]; exact nextA (Mem.start _) _
                have HL49 := Lib.hid (show Blk w49 g9 5 #[.int .u8 108, .int .u8 105, .int .u8 101] from by rw [← hw49, ← hg9]; exact Blk.new _ _ _)
                have HG9 := Lib.hid (show wd.heap.size ≤ g9 by rw [← hg9]; exact HB48.out.size)
                have HB49 := Lib.hid (next HB48.out hb)
                have HM5_49 := Lib.hid (HM5.out.keep hb)
                rw [hw49, hg9]
                clear hw49 hg9 hb
                try dsimp only
                refine hK.out _ _ ?_ (fun hHeld => ?_)
                · intro _
                  try dsimp only
                  exact HD.out.keep HB49.out
                clear hK K
                try simp only [Act.put, List.setIfInBounds_toArray, List.set_cons_zero, List.set_cons_succ]
                have hHeld := hHeld (by kernel_rfl)
                refine onG 29 ⟨some 139, .convert 25 25 (.tmp 138), 25, _, #[⟨28, .data⟩, ⟨24, .guard⟩], some (24, false)⟩ (fun K hK => ?_)
                refine step_frz w49 (by rfl) (.tmp 138) rfl g9 #[.int .u8 108, .int .u8 105, .int .u8 101] 3 3 rfl HL49.out ?_
                intro w50 hcs hfr hsz
                have HL50 := Lib.hid (bytes_same (lie_bytes HL49.out) hcs hsz)
                have HB50 := Lib.hid (HB49.out.trans (hfr.below HB49.out.size fun k hk => by rw [hk]; exact HG9.out))
                have HM5_50 := Lib.hid (HM5_49.out.same hcs hsz)
                clear hcs hfr hsz
                try dsimp only
                refine hK.out _ _ ?_ (fun hHeld => ?_)
                · intro _
                  try dsimp only
                  exact HD.out.keep HB50.out
                clear hK K
                try simp only [Act.put, List.setIfInBounds_toArray, List.set_cons_zero, List.set_cons_succ]
                have hHeld := hHeld (by kernel_rfl)
                refine onG 30 ⟨some 140, .call { callee := Callee.value (Operand.func 7), args := #[.tmp 137, .tmp 139], argTypes := #[27, 25] }, 4, _, #[⟨27, .data⟩, ⟨29, .data⟩, ⟨27, .chain⟩, ⟨24, .guard⟩], some (24, false)⟩ (fun K hK => ?_)
                go_simp
                refine (lies_l w50 (HD.out.keep HB50.out).1.2.2.2.1 m5 s5 HM5_50.out (some ⟨g9, 0, none⟩) HL50.out).mono ?_
                rintro e w51 ⟨rfl, hb⟩
                have HB51 := Lib.hid (next HB50.out hb)
                clear hb
                try dsimp only
                refine hK.out _ _ ?_ (fun hHeld => ?_)
                · intro _
                  try dsimp only
                  exact HD.out.keep HB51.out
                clear hK K
                try simp only [Act.put, List.setIfInBounds_toArray, List.set_cons_zero, List.set_cons_succ]
                have hHeld := hHeld (by kernel_rfl)
                refine puG 31 ⟨some 141, .unOp UnOp.not 4 (.tmp 140), 4, _, #[⟨30, .data⟩, ⟨24, .guard⟩], some (24, false)⟩ (v := ?_) ?_ (fun _ => by assumption) ?_
                rotate_left
                · intro w hSw
                  go_simp
                  try with_reducible rfl
                try simp only [Act.put, List.setIfInBounds_toArray, List.set_cons_zero, List.set_cons_succ]
                refine puG 32 ⟨some 142, .pick (.tmp 134) (Operand.const (Value.bool true)) (.tmp 141), 4, _, #[⟨24, .data⟩, ⟨31, .data⟩], none⟩ (v := ?_) ?_ (fun _ => by assumption) ?_
                rotate_left
                · intro w hSw
                  go_simp
                  try with_reducible rfl
                try simp only [Act.put, List.setIfInBounds_toArray, List.set_cons_zero, List.set_cons_succ]
                refine wpAnyG_done (by kernel_rfl) ?_ _
                refine NoPanic.normal ?_
                go_wp2_with fail
                go_roundw
                case rel => exact ⟨n + 1, rfl, HN.out, HD.out.keep HB51.out⟩
                case measure => simp [intOf]; have := HN.out; omega
              · skip
                go_simp
                obtain ⟨g9, hg9⟩ : ∃ x, w47.heap.size = x := ⟨_, rfl⟩
                obtain ⟨w52, hw52⟩ : ∃ x : World, w47.alloc (.cells #[.int .u8 108, .int .u8 105, .int .u8 101] 5) = x := ⟨_, rfl⟩
                have hb : Below w47.heap.size w47 w52 := by rw [← hw52]; exact nextA (Mem.start _) _
                have HL52 := Lib.hid (show Blk w52 g9 5 #[.int .u8 108, .int .u8 105, .int .u8 101] from by rw [← hw52, ← hg9]; exact Blk.new _ _ _)
                have HG9 := Lib.hid (show wd.heap.size ≤ g9 by rw [← hg9]; exact HB47.out.size)
                have HB52 := Lib.hid (next HB47.out hb)
                rw [hw52, hg9]
                clear hw52 hg9 hb
                try dsimp only
                refine hK.out _ _ ?_ (fun hHeld => ?_)
                · intro _
                  try dsimp only
                  exact HD.out.keep HB52.out
                clear hK K
                try simp only [Act.put, List.setIfInBounds_toArray, List.set_cons_zero, List.set_cons_succ]
                have hHeld := hHeld (by kernel_rfl)
                refine wpAnyG_two (i := 27) (j := 29) (o := ⟨some 137, .call { callee := Callee.value (Operand.func 21), args := #[.tmp 135, .tmp 136], argTypes := #[27, 3] }, 27, _, #[⟨25, .data⟩, ⟨26, .data⟩, ⟨24, .chain⟩, ⟨24, .guard⟩], some (24, false)⟩) (u := ⟨some 139, .convert 25 25 (.tmp 138), 25, _, #[⟨28, .data⟩, ⟨24, .guard⟩], some (24, false)⟩) (by kernel_rfl) rfl rfl (fun K hK => ?_) (fun K hK => ?_)
                · skip
                  go_simp
                  refine (bent_any w52 (small k) s0 n HN.out (small_min _ _ k HK2.out)).mono ?_
                  rintro e w53 ⟨m5, s5, rfl, hM, hb⟩
                  have HB53 := Lib.hid (next HB52.out hb)
                  have HL53 := Lib.hid (HL52.out.keep hb)
                  have HM5 := Lib.hid hM
                  clear hM hb
                  try dsimp only
                  refine hK.out _ _ ?_ (fun hHeld => ?_)
                  · intro _
                    try dsimp only
                    exact HD.out.keep HB53.out
                  clear hK K
                  try simp only [Act.put, List.setIfInBounds_toArray, List.set_cons_zero, List.set_cons_succ]
                  have hHeld := hHeld (by kernel_rfl)
                  refine onG 29 ⟨some 139, .convert 25 25 (.tmp 138), 25, _, #[⟨28, .data⟩, ⟨24, .guard⟩], some (24, false)⟩ (fun K hK => ?_)
                  refine step_frz w53 (by rfl) (.tmp 138) rfl g9 #[.int .u8 108, .int .u8 105, .int .u8 101] 3 3 rfl HL53.out ?_
                  intro w54 hcs hfr hsz
                  have HL54 := Lib.hid (bytes_same (lie_bytes HL53.out) hcs hsz)
                  have HB54 := Lib.hid (HB53.out.trans (hfr.below HB53.out.size fun k hk => by rw [hk]; exact HG9.out))
                  have HM5_54 := Lib.hid (HM5.out.same hcs hsz)
                  clear hcs hfr hsz
                  try dsimp only
                  refine hK.out _ _ ?_ (fun hHeld => ?_)
                  · intro _
                    try dsimp only
                    exact HD.out.keep HB54.out
                  clear hK K
                  try simp only [Act.put, List.setIfInBounds_toArray, List.set_cons_zero, List.set_cons_succ]
                  have hHeld := hHeld (by kernel_rfl)
                  refine onG 30 ⟨some 140, .call { callee := Callee.value (Operand.func 7), args := #[.tmp 137, .tmp 139], argTypes := #[27, 25] }, 4, _, #[⟨27, .data⟩, ⟨29, .data⟩, ⟨27, .chain⟩, ⟨24, .guard⟩], some (24, false)⟩ (fun K hK => ?_)
                  go_simp
                  refine (lies_l w54 (HD.out.keep HB54.out).1.2.2.2.1 m5 s5 HM5_54.out (some ⟨g9, 0, none⟩) HL54.out).mono ?_
                  rintro e w55 ⟨rfl, hb⟩
                  have HB55 := Lib.hid (next HB54.out hb)
                  clear hb
                  try dsimp only
                  refine hK.out _ _ ?_ (fun hHeld => ?_)
                  · intro _
                    try dsimp only
                    exact HD.out.keep HB55.out
                  clear hK K
                  try simp only [Act.put, List.setIfInBounds_toArray, List.set_cons_zero, List.set_cons_succ]
                  have hHeld := hHeld (by kernel_rfl)
                  refine puG 31 ⟨some 141, .unOp UnOp.not 4 (.tmp 140), 4, _, #[⟨30, .data⟩, ⟨24, .guard⟩], some (24, false)⟩ (v := ?_) ?_ (fun _ => by assumption) ?_
                  rotate_left
                  · intro w hSw
                    go_simp
                    try with_reducible rfl
                  try simp only [Act.put, List.setIfInBounds_toArray, List.set_cons_zero, List.set_cons_succ]
                  refine puG 32 ⟨some 142, .pick (.tmp 134) (Operand.const (Value.bool true)) (.tmp 141), 4, _, #[⟨24, .data⟩, ⟨31, .data⟩], none⟩ (v := ?_) ?_ (fun _ => by assumption) ?_
                  rotate_left
                  · intro w hSw
                    go_simp
                    try with_reducible rfl
                  try simp only [Act.put, List.setIfInBounds_toArray, List.set_cons_zero, List.set_cons_succ]
                  refine wpAnyG_done (by kernel_rfl) ?_ _
                  refine NoPanic.normal ?_
                  go_wp2_with fail
                  go_roundw
                  case rel => exact ⟨n + 1, rfl, HN.out, HD.out.keep HB55.out⟩
                  case measure => simp [intOf]; have := HN.out; omega
                · skip
                  refine step_frz w52 (by rfl) (.tmp 138) rfl g9 #[.int .u8 108, .int .u8 105, .int .u8 101] 3 3 rfl HL52.out ?_
                  intro w56 hcs hfr hsz
                  have HL56 := Lib.hid (bytes_same (lie_bytes HL52.out) hcs hsz)
                  have HB56 := Lib.hid (HB52.out.trans (hfr.below HB52.out.size fun k hk => by rw [hk]; exact HG9.out))
                  clear hcs hfr hsz
                  try dsimp only
                  refine hK.out _ _ ?_ (fun hHeld => ?_)
                  · intro _
                    try dsimp only
                    exact HD.out.keep HB56.out
                  clear hK K
                  try simp only [Act.put, List.setIfInBounds_toArray, List.set_cons_zero, List.set_cons_succ]
                  have hHeld := hHeld (by kernel_rfl)
                  refine onG 27 ⟨some 137, .call { callee := Callee.value (Operand.func 21), args := #[.tmp 135, .tmp 136], argTypes := #[27, 3] }, 27, _, #[⟨25, .data⟩, ⟨26, .data⟩, ⟨24, .chain⟩, ⟨24, .guard⟩], some (24, false)⟩ (fun K hK => ?_)
                  go_simp
                  refine (bent_any w56 (small k) s0 n HN.out (small_min _ _ k HK2.out)).mono ?_
                  rintro e w57 ⟨m5, s5, rfl, hM, hb⟩
                  have HB57 := Lib.hid (next HB56.out hb)
                  have HL57 := Lib.hid ((HL56.out.below hb).up hb.size)
                  have HM5 := Lib.hid hM
                  clear hM hb
                  try dsimp only
                  refine hK.out _ _ ?_ (fun hHeld => ?_)
                  · intro _
                    try dsimp only
                    exact HD.out.keep HB57.out
                  clear hK K
                  try simp only [Act.put, List.setIfInBounds_toArray, List.set_cons_zero, List.set_cons_succ]
                  have hHeld := hHeld (by kernel_rfl)
                  refine onG 30 ⟨some 140, .call { callee := Callee.value (Operand.func 7), args := #[.tmp 137, .tmp 139], argTypes := #[27, 25] }, 4, _, #[⟨27, .data⟩, ⟨29, .data⟩, ⟨27, .chain⟩, ⟨24, .guard⟩], some (24, false)⟩ (fun K hK => ?_)
                  go_simp
                  refine (lies_l w57 (HD.out.keep HB57.out).1.2.2.2.1 m5 s5 HM5.out (some ⟨g9, 0, none⟩) HL57.out).mono ?_
                  rintro e w58 ⟨rfl, hb⟩
                  have HB58 := Lib.hid (next HB57.out hb)
                  clear hb
                  try dsimp only
                  refine hK.out _ _ ?_ (fun hHeld => ?_)
                  · intro _
                    try dsimp only
                    exact HD.out.keep HB58.out
                  clear hK K
                  try simp only [Act.put, List.setIfInBounds_toArray, List.set_cons_zero, List.set_cons_succ]
                  have hHeld := hHeld (by kernel_rfl)
                  refine puG 31 ⟨some 141, .unOp UnOp.not 4 (.tmp 140), 4, _, #[⟨30, .data⟩, ⟨24, .guard⟩], some (24, false)⟩ (v := ?_) ?_ (fun _ => by assumption) ?_
                  rotate_left
                  · intro w hSw
                    go_simp
                    try with_reducible rfl
                  try simp only [Act.put, List.setIfInBounds_toArray, List.set_cons_zero, List.set_cons_succ]
                  refine puG 32 ⟨some 142, .pick (.tmp 134) (Operand.const (Value.bool true)) (.tmp 141), 4, _, #[⟨24, .data⟩, ⟨31, .data⟩], none⟩ (v := ?_) ?_ (fun _ => by assumption) ?_
                  rotate_left
                  · intro w hSw
                    go_simp
                    try with_reducible rfl
                  try simp only [Act.put, List.setIfInBounds_toArray, List.set_cons_zero, List.set_cons_succ]
                  refine wpAnyG_done (by kernel_rfl) ?_ _
                  refine NoPanic.normal ?_
                  go_wp2_with fail
                  go_roundw
                  case rel => exact ⟨n + 1, rfl, HN.out, HD.out.keep HB58.out⟩
                  case measure => simp [intOf]; have := HN.out; omega
            · obtain rfl : n = 23 := by omega
              clear hnl hn
              go_wp2_with fail
              go_roundw
              case rel => exact ⟨k + 1, rfl, by have := HK.out.1; omega, by have := HK2.out; omega, HP2.out.1.2.2.2.1, HP2.out.1.2.2.2.2⟩
              case measure => simp [intOf]; have := HK2.out; omega
    · obtain rfl : k = 21 := by omega
      clear hk hk1 hk2
      go_wp2_with ((with_reducible show wpList _ _ _ ((⟨some 144, _, _, _, _, _⟩ : Oper) :: _) _ _); refine wpList_mkB wr rfl _ _ rfl 65537 65537 rfl rfl rfl (by decide) ?_; intro w1 ho hb; have H1 := Lib.hid (show HasT w1 ∧ Below w.heap.size w w1 ∧ Bytes w1 w1.heap.size (some ⟨wr.heap.size, 0, none⟩) (nz 65537) from ⟨HR.out.1.keep hb, next HR.out.2 hb, ho.bytes⟩); clear ho hb)
      refine (put_big w1 H1.out.1 _ 65537 (by decide) H1.out.2.2 (by decide)).mono ?_
      rintro e w2 ⟨rfl, hb⟩
      have H2 := Lib.hid (And.intro (H1.out.1.keep hb) (next H1.out.2.1 hb))
      clear hb H1
      go_wp2_with ((with_reducible show wpList _ _ _ ((⟨some 150, _, _, _, _, _⟩ : Oper) :: _) _ _); refine wpList_mkB w2 rfl _ _ rfl 65536 65536 rfl rfl rfl (by decide) ?_; intro w3 ho hb; have H3 := Lib.hid (show HasT w3 ∧ Below w.heap.size w w3 ∧ Bytes w3 w3.heap.size (some ⟨w2.heap.size, 0, none⟩) (nz 65536) from ⟨H2.out.1.keep hb, next H2.out.2 hb, ho.bytes⟩); clear ho hb)
      refine (put_fit w3 H3.out.1 _ 65536 (by decide) H3.out.2.2).mono ?_
      rintro e w4 ⟨B4, L4, c4, x4, rfl, hx1, hx2, hx3, hx4, hx5, hx6, hb⟩
      have H4 := Lib.hid (And.intro (H3.out.1.keep hb) (And.intro (next H3.out.2.1 hb) (And.intro hx1 (And.intro hx2 (And.intro hx3 (And.intro hx4 (And.intro hx5 hx6)))))))
      clear hx1 hx2 hx3 hx4 hx5 hx6 hb H3
      go_wp2_with fail
      refine (get_yes w4 B4 x4 L4 c4 H4.out.2.2.1.symm H4.out.2.2.2.1 (maxle H4.out.2.2.2.2.1) H4.out.2.2.2.2.2.2.2 H4.out.1 (by rw [H4.out.2.2.1]; have := H4.out.2.2.2.2.2.1; omega) _ H4.out.2.2.2.2.2.2.1).mono ?_
      rintro e w5 ⟨s5, rfl, _, hb⟩
      obtain ⟨m5, hm5⟩ : ∃ m, servd 65536 = m := ⟨_, rfl⟩
      have HM5 := Lib.hid (show m5.data.length = 65536 by rw [← hm5]; exact nz_len _)
      rw [hm5]
      have H5 := Lib.hid (And.intro (H4.out.1.keep hb) (next H4.out.2.1 hb))
      clear hb hm5 H4
      go_wp2_with ((with_reducible show wpList _ _ _ ((⟨none, .store 27 (.tmp 15) (.tmp 158), _, _, _, _⟩ : Oper) :: _) _ _); refine wpList_store_msg w5 rfl (.tmp 15) (.tmp 158) rfl m5 s5 rfl rfl ?_; intro w6 hB hW; obtain ⟨q6, hq6⟩ : ∃ x, w5.heap.size = x := ⟨_, rfl⟩; rw [hq6] at hB ⊢; have H6 := Lib.hid (And.intro hB (And.intro (H5.out.1.keep hW) (next H5.out.2 hW))); clear hB hW hq6)
      refine (put_yes w6 offer s0 _ H6.out.2.1 ⟨Cells.nil, Cells.nil, Bytes.nil, by decide, by decide, by decide, by decide, by decide, fun x hx => (by cases hx)⟩ offer_may offer_bytes).mono ?_
      rintro e w7 ⟨A7, c7, rfl, ho, hb⟩
      have H7 := Lib.hid (And.intro (H6.out.1.keep hb) (And.intro (H6.out.2.1.keep hb) (next H6.out.2.2 hb)))
      obtain ⟨g7, hg7, _, _, o0, _⟩ := ho.at_ (k := 0) (by decide)
      obtain ⟨g8, hg8, _, _, o4, _⟩ := ho.at_ (k := 4) (by decide)
      obtain ⟨g9, hg9, _, _, o12, _⟩ := ho.at_ (k := 12) (by decide)
      subst hg7
      injection hg8 with hg8; injection hg8 with hg8; subst hg8
      injection hg9 with hg9; injection hg9 with hg9; subst hg9
      simp [u8v] at o0 o4 o12
      have c13 := H7.out.1.cell 13
      simp [mv] at c13
      rw [HM5.out] at c13
      clear ho hb H6
      go_wp2_with fail
      refine (gets_l w7 H7.out.2.1 none [] 0 0 rfl (Nat.le_refl _) (by unfold maxLen; decide) Bytes.nil).mono ?_
      rintro e w8 ⟨rfl, hb⟩
      have H8 := Lib.hid (And.intro (H7.out.2.1.keep hb) (next H7.out.2.2 hb))
      clear hb c13 o0 o4 o12
      go_wp2_with fail
      refine (works_any w8 H8.out.1).mono ?_
      rintro e w9 ⟨rfl, hb⟩
      have H9 := Lib.hid (next H8.out.2 hb)
      clear hb
      go_wp2_with fail
      go_ret
      exact ⟨rfl, H9.out⟩
end Go.Proofs.YtebdmfmadbikaaaDoor.WiW
/- The law WireKnown of chapter 17 holds for every input. It has no conditions. The table of package wire is as the program's text lays it: the card ties it. -/
namespace Go.Proofs.YtebdmfmadbikaaaDoor.lawWireKnown
open Go.ChangeShapes Go.WideShapes Go.ChangeAt Go.WideMaps Go.WideElems Go.RowKit Wi WiW
open Go.ChangeMaps (open_string shut_string)

theorem own : ownKnob Tryd.prog.godebug = none := by kernel_rfl
theorem laidOut : laidOutB Tryd.prog = true := by kernel_rfl
def laidHas : List (String × DataW Unit) := [("starfish/wire.has", Rows.laid_starfish_wire_has)]
theorem door_met (os : Os) (args : Array Value) : laidMetH Tryd.prog laidHas ((World.doorLaid Tryd.prog 400 os).forCall (fun _ _ => 0) ⟨#[], args, []⟩).memory :=
  laidMetH_of_parts3 (fuel := 8) (laidMet_of_run' 8 (by kernel_rfl) (by kernel_rfl)) (by kernel_rfl) (by kernel_rfl)

set_option maxRecDepth 100000 in
theorem lifted (os : Os) (started : os.Started) (H : Type) (enc : TypeId × Value → H) :
    ReturnsInHanded {} Tryd.checked os 8 .any (fun w args => (Rows.wireKnownSpec.pre enc Tryd.prog Tryd.f8 [] false w args ∧ laidMetH Tryd.prog laidHas w) ∧ sizedMet enc Tryd.prog Tryd.f8 (OpenSpec.ofChange Rows.wireKnownSpec) false w args)
      (Rows.wireKnownSpec.post enc Tryd.prog Tryd.f8 false true false false) := by
  refine returnsInHanded_of_change_and (C := Tryd.checked) (X := fun w _ => laidMetH Tryd.prog laidHas w) (fun _ _ _ hh h => h.of_heap hh) own started (by kernel_rfl) Tryd.func8
    (ChangeSpec.witness_shaped (enc := enc) (C := Tryd.checked) (os := os) (X := fun w _ => laidMetH Tryd.prog laidHas w) false (World.doorLaid Tryd.prog 400 os) #[] 8 rfl (World.shaped_of_RefB (by kernel_rfl) (by kernel_rfl)) (by kernel_rfl) (by kernel_rfl) (by kernel_rfl) (door_met os _)) ?_
  intro W base args ds gs before hval0 hW _ _ hL _
  have hval : ∀ (j : Nat) t v, Tryd.f8.params[j]? = some t → args[j]? = some v → Value.okWide Tryd.prog W .any base t v := hval0
  have hW' := hW
  obtain ⟨p, q, hA0, hV, rfl, hfz, hnd⟩ := hW
  have hA : DataW.TrodAll enc Tryd.prog W 0 (fun _ => true) true Tryd.f8.params.toList args.toList ds p := hA0
  rw [Tryd.params8] at hA hval
  obtain ⟨hargs, rfl, rfl⟩ := trodAll_nil hA
  obtain rfl : args = #[] := by cases args; simp_all
  obtain ⟨rfl, rfl⟩ := trodVars_none hV
  have hT := Open.of_laid hL
  clear hA0 hval0
  refine (WiW.known_law W hT).mono fun e W' ⟨he, bel⟩ => ?_
  subst he
  exact ⟨_, rfl, _, _, _, [], _, [], hW', trodAll_mk1 (shut_bool Tryd.underlying4 _), trodAll_mk0, rfl, bel.frame _, fun h => by cases h⟩

theorem over : Rows.wireKnownRow.holds Tryd.pinned (OpenSpec.ofChange Rows.wireKnownSpec) :=
  OpenClaim.holds_of_wide 8 Tryd.f8 rfl rfl rfl rfl rfl rfl rfl ⟨rfl, rfl, rfl, rfl, rfl⟩ rfl rfl rfl rfl rfl (by kernel_rfl) Tryd.func8 (by kernel_rfl)
    (of_decide_eq_true (by kernel_rfl)) (by unfold Func.isWrapper; first | (rw [if_pos (by decide +kernel)]; kernel_rfl) | (rw [if_neg (by decide +kernel)]; exact ⟨rfl, rfl⟩))
    (fun os started H enc _ => lifted os started H enc)

theorem proved : Rows.WireKnownCardSaid :=
  Claim7.holds_tied_plain_at .later [] [.data] true (true, "32600b34a2d601042b001b14756ceee11ad63b91ed9f562ee0bf23b2c2791f2a") true
    over (fun _ h => by cases h) (by kernel_rfl) (fun _ h => by cases h) wireKnown_row_tie rfl ⟨rfl, rfl⟩ (by kernel_rfl) rfl
    (fun f fn hf hfn => by
      obtain rfl : f = 8 := Option.some.inj ((show Tryd.prog.funcNamed "starfish/starfishlaw17.WireKnown" = some 8 by kernel_rfl).symm.trans hf) |>.symm
      obtain rfl : fn = Tryd.f8 := (Option.some.inj (Tryd.func8.symm.trans hfn)).symm
      exact ⟨by kernel_rfl, fun j t ht => by
        rw [Tryd.params8] at ht
        simp at ht⟩)
    (by kernel_rfl)
#print axioms proved
end Go.Proofs.YtebdmfmadbikaaaDoor.lawWireKnown
