/- The law WireBack, walked. Printed by genwback.py (raw numbers of the seat). -/
import Derived.Test.YtebdmfmadbikaaaDoorWrGetA
import Derived.Test.YtebdmfmadbikaaaDoorWrBox
import Derived.Test.YtebdmfmadbikaaaDoorWb
import Derived.Test.YtebdmfmadbikaaaDoorBapp
namespace Go.Proofs.YtebdmfmadbikaaaDoor.WiW
open Go.RowKit Go.Shelf Mem Fds FdW Wi Rng
set_option linter.unusedVariables false
set_option linter.unusedSimpArgs false

theorem u8info17 : (Tryd.prog.info? 5).map (fun i => (i.zero, i.size, i.bytes)) = some (some (.int .u8 0), 1, 1) := by kernel_rfl
/-- What is got is a message that came in. -/
theorem RowsO.min {w : World} {B : Nat} {m : Msg} {s : Sl} (h : RowsO w B m s) (hm : may m = true) : MIn w w.heap.size m s := by
  have hF := (may_iff m).1 hm
  exact ⟨h.1.cells, h.2.1.cells, h.2.2.cells, by have := hF.kind; omega, by have := hF.key; omega, by have := hF.ids; omega, by have := hF.nodes; omega, by have := hF.data; omega, fun x hx => by have := (hF.id x hx).1; omega⟩
/-- Put, where it may be; and not. -/
theorem put_yes (w : World) (m : Msg) (s : Sl) (x : List UInt8) (hT : HasT w) (hI : MIn w w.heap.size m s) (hm : may m = true) (hx : Wi.bytes m = x) : Calls Tryd.prog 14 #[.agg (mv m s)] w fun e w' => ∃ A c, e = .returned (.tuple #[.slice A x.length c, .int .i64 0]) ∧ Mem.Own w' w.heap.size 5 A c (x.map u8v) ∧ Below w.heap.size w w' := by
  refine (Put_any w m s hT hI).mono fun e w' h => ?_
  unfold PutR at h
  rw [if_pos hm, hx] at h
  exact h
theorem put_no (w : World) (m : Msg) (s : Sl) (hT : HasT w) (hI : MIn w w.heap.size m s) (hm : may m = false) : Calls Tryd.prog 14 #[.agg (mv m s)] w fun e w' => e = .returned (.tuple #[.slice none 0 0, .int .i64 2]) ∧ Below w.heap.size w w' := by
  refine (Put_any w m s hT hI).mono fun e w' h => ?_
  unfold PutR at h
  rw [if_neg (by rw [hm]; simp)] at h
  exact h
/-- Get, where there is a message; and not. -/
theorem get_yes (w : World) (A : Option Addr) (b : List UInt8) (n c : Nat) (hn : n = b.length) (hnc : n ≤ c) (hcc : c ≤ 9223372036854775807) (hA : Bytes w w.heap.size A b) (hT : HasT w) (hbl : b.length ≤ 1000000) (m : Msg) (hg : Wi.get b = some m) :
    Calls Tryd.prog 15 #[.slice A n c] w fun e w' => ∃ s, e = .returned (.tuple #[.agg (mv m s), .int .i64 0]) ∧ RowsO w' w.heap.size m s ∧ Below w.heap.size w w' := by
  refine (get_any w A b n c hn hnc hcc hA hT hbl).mono fun e w' h => ?_
  obtain ⟨hb, h⟩ := h
  rw [hg] at h
  obtain ⟨s, h1, h2⟩ := h
  exact ⟨s, h1, h2, hb⟩
theorem get_no (w : World) (A : Option Addr) (b : List UInt8) (n c : Nat) (hn : n = b.length) (hnc : n ≤ c) (hcc : c ≤ 9223372036854775807) (hA : Bytes w w.heap.size A b) (hT : HasT w) (hbl : b.length ≤ 1000000) (hg : Wi.get b = none) :
    Calls Tryd.prog 15 #[.slice A n c] w fun e w' => e = .returned (.tuple #[.agg (mv mz s0), .int .i64 170]) ∧ Below w.heap.size w w' := by
  refine (get_any w A b n c hn hnc hcc hA hT hbl).mono fun e w' h => ?_
  obtain ⟨hb, h⟩ := h
  rw [hg] at h
  exact ⟨h, hb⟩
theorem maxle {c : Nat} (h : c ≤ maxLen) : c ≤ 9223372036854775807 := by unfold maxLen at h; omega
theorem str_beq2 (x y : List UInt8) : ((str x).toList == (str y).toList) = decide (x = y) := by
  rw [str_toList, str_toList, Bool.eq_iff_iff, beq_iff_eq, decide_eq_true_iff]
set_option maxRecDepth 100000 in
set_option maxHeartbeats 16000000 in
theorem back_nn (w : World) (hT : HasT w) (m : Msg) (s : Sl) (hm : MIn0 w w.heap.size m s) (n : Msg) (t : Sl) (hn : MIn0 w w.heap.size n t) (A : Option Addr) (b : List UInt8) (c : Nat) (hle : b.length ≤ c) (hmx : c ≤ maxLen) (hb : Bytes w w.heap.size A b) (hf : few m = true) (hg : few n = true) (hbl : b.length ≤ 5000) (hmm : may m = false) (hy : Wi.get b = none) :
    Calls Tryd.prog 5 #[.agg (mv m s), .agg (mv n t), .slice A b.length c] w fun e w' => e = .returned (.bool true) ∧ Below w.heap.size w w' := by
  obtain ⟨bx, hbx⟩ : ∃ bx, w.heap.size = bx := ⟨_, rfl⟩
  obtain ⟨w1, hw1⟩ : ∃ x : World, (w.alloc (.cells (mv m s) 27)).alloc (.cells (mv n t) 27) = x := ⟨_, rfl⟩
  have H1 := Lib.hid (show Two w bx m s n t w1 by
    rw [← hw1, ← hbx]
    refine ⟨(Blk.new w _ _).keep (nextA (Mem.start _) _), ?_, nextA (nextA (Mem.start w) _) _⟩
    have := Blk.new (w.alloc (.cells (mv m s) 27)) 27 (mv n t)
    rw [World.size_alloc] at this; exact this)
  have HI := Lib.hid (And.intro hT (And.intro hm (And.intro hn hb)))
  have HF := Lib.hid (And.intro hf hg)
  have HM := Lib.hid (And.intro (hm.small hf) (hn.small hg))
  have HL := Lib.hid (And.intro hle (And.intro (maxle hmx) hbl))
  have dl : decide ((5000 : Int) < ((b.length : Nat) : Int)) = false := decide_eq_false (by omega)
  have HMM := Lib.hid hmm
  clear hmm
  have HY := Lib.hid hy
  clear hy
  have ca0 := H1.out.1.cell 0
  have ca1 := H1.out.1.cell 1
  have ca2 := H1.out.1.cell 2
  have ca3 := H1.out.1.cell 3
  have ca4 := H1.out.1.cell 4
  have ca5 := H1.out.1.cell 5
  have ca6 := H1.out.1.cell 6
  have ca7 := H1.out.1.cell 7
  have ca8 := H1.out.1.cell 8
  have ca9 := H1.out.1.cell 9
  have ca10 := H1.out.1.cell 10
  have ca11 := H1.out.1.cell 11
  have ca12 := H1.out.1.cell 12
  have ca13 := H1.out.1.cell 13
  simp [mv] at ca0 ca1 ca2 ca3 ca4 ca5 ca6 ca7 ca8 ca9 ca10 ca11 ca12 ca13
  clear hT hm hn hb hle hmx hf hg hbl
  go_enter Tryd.func5, Tryd.ntmps5
  go_wp2_with fail
  refine (few_any w1 m s (HI.out.2.1.keep H1.out.2.2)).mono ?_
  rintro e w2 ⟨rfl, hb⟩
  rw [HF.out.1]
  have H2 := Lib.hid (H1.out.keep hb)
  clear hb ca0 ca1 ca2 ca3 ca4 ca5 ca6 ca7 ca8 ca9 ca10 ca11 ca12 ca13 hw1 hbx
  have cb0 := H2.out.2.1.cell 0
  have cb1 := H2.out.2.1.cell 1
  have cb2 := H2.out.2.1.cell 2
  have cb3 := H2.out.2.1.cell 3
  have cb4 := H2.out.2.1.cell 4
  have cb5 := H2.out.2.1.cell 5
  have cb6 := H2.out.2.1.cell 6
  have cb7 := H2.out.2.1.cell 7
  have cb8 := H2.out.2.1.cell 8
  have cb9 := H2.out.2.1.cell 9
  have cb10 := H2.out.2.1.cell 10
  have cb11 := H2.out.2.1.cell 11
  have cb12 := H2.out.2.1.cell 12
  have cb13 := H2.out.2.1.cell 13
  simp [mv] at cb0 cb1 cb2 cb3 cb4 cb5 cb6 cb7 cb8 cb9 cb10 cb11 cb12 cb13
  go_wp2_with fail
  refine (few_any w2 n t (HI.out.2.2.1.keep H2.out.2.2)).mono ?_
  rintro e w3 ⟨rfl, hb⟩
  rw [HF.out.2]
  have H3 := Lib.hid (H2.out.keep hb)
  clear hb cb0 cb1 cb2 cb3 cb4 cb5 cb6 cb7 cb8 cb9 cb10 cb11 cb12 cb13
  have cc0 := H3.out.1.cell 0
  have cc1 := H3.out.1.cell 1
  have cc2 := H3.out.1.cell 2
  have cc3 := H3.out.1.cell 3
  have cc4 := H3.out.1.cell 4
  have cc5 := H3.out.1.cell 5
  have cc6 := H3.out.1.cell 6
  have cc7 := H3.out.1.cell 7
  have cc8 := H3.out.1.cell 8
  have cc9 := H3.out.1.cell 9
  have cc10 := H3.out.1.cell 10
  have cc11 := H3.out.1.cell 11
  have cc12 := H3.out.1.cell 12
  have cc13 := H3.out.1.cell 13
  simp [mv] at cc0 cc1 cc2 cc3 cc4 cc5 cc6 cc7 cc8 cc9 cc10 cc11 cc12 cc13
  go_wp2_with fail
  refine (put_no w3 m s (HI.out.1.keep H3.out.2.2) (HM.out.1.keep H3.out.2.2) HMM.out).mono ?_
  rintro e w4 ⟨rfl, hb⟩
  have H4 := Lib.hid (H3.out.keep hb)
  clear hb cc0 cc1 cc2 cc3 cc4 cc5 cc6 cc7 cc8 cc9 cc10 cc11 cc12 cc13
  go_wp2_with fail
  refine (get_no w4 A b b.length c rfl HL.out.1 HL.out.2.1 ((HI.out.2.2.2.below H4.out.2.2).up H4.out.2.2.size) (HI.out.1.keep H4.out.2.2) (by have := HL.out.2.2; omega) HY.out).mono ?_
  rintro e v1 ⟨rfl, hb⟩
  have K1 := Lib.hid (H4.out.keep hb)
  clear hb
  go_wp2_with ((with_reducible show wpList _ _ _ ((⟨none, .store 27 (.tmp 17) (.tmp 109), _, _, _, _⟩ : Oper) :: _) _ _); refine wpList_store_msg v1 rfl (.tmp 17) (.tmp 109) rfl mz s0 rfl rfl ?_; intro v2 hB hW; have K2 := Lib.hid (K1.out.keep hW); clear hB hW)
  refine (works_any v2 (HI.out.1.keep K2.out.2.2)).mono ?_
  rintro e v3 ⟨rfl, hb⟩
  have K3 := Lib.hid (next K2.out.2.2 hb)
  clear hb
  go_wp2_with fail
  go_ret
  exact ⟨rfl, K3.out⟩
set_option maxRecDepth 100000 in
set_option maxHeartbeats 16000000 in
theorem back_ny (w : World) (hT : HasT w) (m : Msg) (s : Sl) (hm : MIn0 w w.heap.size m s) (n : Msg) (t : Sl) (hn : MIn0 w w.heap.size n t) (A : Option Addr) (b : List UInt8) (c : Nat) (hle : b.length ≤ c) (hmx : c ≤ maxLen) (hb : Bytes w w.heap.size A b) (hf : few m = true) (hg : few n = true) (hbl : b.length ≤ 5000) (hmm : may m = false) (y : Msg) (hy : Wi.get b = some y) :
    Calls Tryd.prog 5 #[.agg (mv m s), .agg (mv n t), .slice A b.length c] w fun e w' => e = .returned (.bool true) ∧ Below w.heap.size w w' := by
  obtain ⟨bx, hbx⟩ : ∃ bx, w.heap.size = bx := ⟨_, rfl⟩
  obtain ⟨w1, hw1⟩ : ∃ x : World, (w.alloc (.cells (mv m s) 27)).alloc (.cells (mv n t) 27) = x := ⟨_, rfl⟩
  have H1 := Lib.hid (show Two w bx m s n t w1 by
    rw [← hw1, ← hbx]
    refine ⟨(Blk.new w _ _).keep (nextA (Mem.start _) _), ?_, nextA (nextA (Mem.start w) _) _⟩
    have := Blk.new (w.alloc (.cells (mv m s) 27)) 27 (mv n t)
    rw [World.size_alloc] at this; exact this)
  have HI := Lib.hid (And.intro hT (And.intro hm (And.intro hn hb)))
  have HF := Lib.hid (And.intro hf hg)
  have HM := Lib.hid (And.intro (hm.small hf) (hn.small hg))
  have HL := Lib.hid (And.intro hle (And.intro (maxle hmx) hbl))
  have dl : decide ((5000 : Int) < ((b.length : Nat) : Int)) = false := decide_eq_false (by omega)
  have HMM := Lib.hid hmm
  clear hmm
  have HY := Lib.hid hy
  clear hy
  have ca0 := H1.out.1.cell 0
  have ca1 := H1.out.1.cell 1
  have ca2 := H1.out.1.cell 2
  have ca3 := H1.out.1.cell 3
  have ca4 := H1.out.1.cell 4
  have ca5 := H1.out.1.cell 5
  have ca6 := H1.out.1.cell 6
  have ca7 := H1.out.1.cell 7
  have ca8 := H1.out.1.cell 8
  have ca9 := H1.out.1.cell 9
  have ca10 := H1.out.1.cell 10
  have ca11 := H1.out.1.cell 11
  have ca12 := H1.out.1.cell 12
  have ca13 := H1.out.1.cell 13
  simp [mv] at ca0 ca1 ca2 ca3 ca4 ca5 ca6 ca7 ca8 ca9 ca10 ca11 ca12 ca13
  clear hT hm hn hb hle hmx hf hg hbl
  go_enter Tryd.func5, Tryd.ntmps5
  go_wp2_with fail
  refine (few_any w1 m s (HI.out.2.1.keep H1.out.2.2)).mono ?_
  rintro e w2 ⟨rfl, hb⟩
  rw [HF.out.1]
  have H2 := Lib.hid (H1.out.keep hb)
  clear hb ca0 ca1 ca2 ca3 ca4 ca5 ca6 ca7 ca8 ca9 ca10 ca11 ca12 ca13 hw1 hbx
  have cb0 := H2.out.2.1.cell 0
  have cb1 := H2.out.2.1.cell 1
  have cb2 := H2.out.2.1.cell 2
  have cb3 := H2.out.2.1.cell 3
  have cb4 := H2.out.2.1.cell 4
  have cb5 := H2.out.2.1.cell 5
  have cb6 := H2.out.2.1.cell 6
  have cb7 := H2.out.2.1.cell 7
  have cb8 := H2.out.2.1.cell 8
  have cb9 := H2.out.2.1.cell 9
  have cb10 := H2.out.2.1.cell 10
  have cb11 := H2.out.2.1.cell 11
  have cb12 := H2.out.2.1.cell 12
  have cb13 := H2.out.2.1.cell 13
  simp [mv] at cb0 cb1 cb2 cb3 cb4 cb5 cb6 cb7 cb8 cb9 cb10 cb11 cb12 cb13
  go_wp2_with fail
  refine (few_any w2 n t (HI.out.2.2.1.keep H2.out.2.2)).mono ?_
  rintro e w3 ⟨rfl, hb⟩
  rw [HF.out.2]
  have H3 := Lib.hid (H2.out.keep hb)
  clear hb cb0 cb1 cb2 cb3 cb4 cb5 cb6 cb7 cb8 cb9 cb10 cb11 cb12 cb13
  have cc0 := H3.out.1.cell 0
  have cc1 := H3.out.1.cell 1
  have cc2 := H3.out.1.cell 2
  have cc3 := H3.out.1.cell 3
  have cc4 := H3.out.1.cell 4
  have cc5 := H3.out.1.cell 5
  have cc6 := H3.out.1.cell 6
  have cc7 := H3.out.1.cell 7
  have cc8 := H3.out.1.cell 8
  have cc9 := H3.out.1.cell 9
  have cc10 := H3.out.1.cell 10
  have cc11 := H3.out.1.cell 11
  have cc12 := H3.out.1.cell 12
  have cc13 := H3.out.1.cell 13
  simp [mv] at cc0 cc1 cc2 cc3 cc4 cc5 cc6 cc7 cc8 cc9 cc10 cc11 cc12 cc13
  go_wp2_with fail
  refine (put_no w3 m s (HI.out.1.keep H3.out.2.2) (HM.out.1.keep H3.out.2.2) HMM.out).mono ?_
  rintro e w4 ⟨rfl, hb⟩
  have H4 := Lib.hid (H3.out.keep hb)
  clear hb cc0 cc1 cc2 cc3 cc4 cc5 cc6 cc7 cc8 cc9 cc10 cc11 cc12 cc13
  go_wp2_with fail
  refine (get_yes w4 A b b.length c rfl HL.out.1 HL.out.2.1 ((HI.out.2.2.2.below H4.out.2.2).up H4.out.2.2.size) (HI.out.1.keep H4.out.2.2) (by have := HL.out.2.2; omega) y HY.out).mono ?_
  rintro e v1 ⟨sy, rfl, hr, hb⟩
  have K1 := Lib.hid (And.intro (H4.out.keep hb) hr)
  clear hb hr
  go_wp2_with ((with_reducible show wpList _ _ _ ((⟨none, .store 27 (.tmp 17) (.tmp 109), _, _, _, _⟩ : Oper) :: _) _ _); refine wpList_store_msg v1 rfl (.tmp 17) (.tmp 109) rfl y sy rfl rfl ?_; intro v2 hB hW; have K2 := Lib.hid (And.intro (K1.out.1.keep hW) (And.intro (K1.out.2.keep hW) hB)); clear hB hW; obtain ⟨gy, hgy⟩ : ∃ x, v1.heap.size = x := ⟨_, rfl⟩; rw [hgy] at K2 ⊢; clear hgy; have cy0 := K2.out.2.2.cell 0; have cy1 := K2.out.2.2.cell 1; have cy2 := K2.out.2.2.cell 2; have cy3 := K2.out.2.2.cell 3; have cy4 := K2.out.2.2.cell 4; have cy5 := K2.out.2.2.cell 5; have cy6 := K2.out.2.2.cell 6; have cy7 := K2.out.2.2.cell 7; have cy8 := K2.out.2.2.cell 8; have cy9 := K2.out.2.2.cell 9; have cy10 := K2.out.2.2.cell 10; have cy11 := K2.out.2.2.cell 11; have cy12 := K2.out.2.2.cell 12; have cy13 := K2.out.2.2.cell 13; simp [mv] at cy0 cy1 cy2 cy3 cy4 cy5 cy6 cy7 cy8 cy9 cy10 cy11 cy12 cy13)
  refine (put_yes v2 y sy b (HI.out.1.keep K2.out.1.2.2) (K2.out.2.1.min (put_get HY.out).1) (put_get HY.out).1 (put_get HY.out).2).mono ?_
  rintro e v3 ⟨Az, cz, rfl, ho, hb⟩
  have K3 := Lib.hid (And.intro (next K2.out.1.2.2 hb) ho)
  clear hb ho cy0 cy1 cy2 cy3 cy4 cy5 cy6 cy7 cy8 cy9 cy10 cy11 cy12 cy13
  have ez := run_str (P := Tryd.prog) v3 25 5 Tryd.underlying25 Tryd.underlying5 K3.out.2.bytes cz 9 Tryd.underlying9
  have eb := run_str (P := Tryd.prog) v3 25 5 Tryd.underlying25 Tryd.underlying5 (HI.out.2.2.2.below K3.out.1) c 9 Tryd.underlying9
  go_wp2_with fail
  refine (works_any v3 (HI.out.1.keep K3.out.1)).mono ?_
  rintro e v4 ⟨rfl, hb⟩
  have K4 := Lib.hid (next K3.out.1 hb)
  clear hb ez eb
  go_wp2_with fail
  go_ret
  exact ⟨rfl, K4.out⟩
set_option maxRecDepth 100000 in
set_option maxHeartbeats 16000000 in
theorem back_ynn (w : World) (hT : HasT w) (m : Msg) (s : Sl) (hm : MIn0 w w.heap.size m s) (n : Msg) (t : Sl) (hn : MIn0 w w.heap.size n t) (A : Option Addr) (b : List UInt8) (c : Nat) (hle : b.length ≤ c) (hmx : c ≤ maxLen) (hb : Bytes w w.heap.size A b) (hf : few m = true) (hg : few n = true) (hbl : b.length ≤ 5000) (x : List UInt8) (hmm : may m = true) (hx : Wi.bytes m = x) (hnn : may n = false) (hy : Wi.get b = none) :
    Calls Tryd.prog 5 #[.agg (mv m s), .agg (mv n t), .slice A b.length c] w fun e w' => e = .returned (.bool true) ∧ Below w.heap.size w w' := by
  obtain ⟨bx, hbx⟩ : ∃ bx, w.heap.size = bx := ⟨_, rfl⟩
  obtain ⟨w1, hw1⟩ : ∃ x : World, (w.alloc (.cells (mv m s) 27)).alloc (.cells (mv n t) 27) = x := ⟨_, rfl⟩
  have H1 := Lib.hid (show Two w bx m s n t w1 by
    rw [← hw1, ← hbx]
    refine ⟨(Blk.new w _ _).keep (nextA (Mem.start _) _), ?_, nextA (nextA (Mem.start w) _) _⟩
    have := Blk.new (w.alloc (.cells (mv m s) 27)) 27 (mv n t)
    rw [World.size_alloc] at this; exact this)
  have HI := Lib.hid (And.intro hT (And.intro hm (And.intro hn hb)))
  have HF := Lib.hid (And.intro hf hg)
  have HM := Lib.hid (And.intro (hm.small hf) (hn.small hg))
  have HL := Lib.hid (And.intro hle (And.intro (maxle hmx) hbl))
  have dl : decide ((5000 : Int) < ((b.length : Nat) : Int)) = false := decide_eq_false (by omega)
  have HMM := Lib.hid (And.intro hmm hx)
  have HX := Lib.hid (show Wi.get x = some m ∧ Wi.get (x.take (x.length - 1)) = none ∧ Wi.get (x ++ [0]) = none by
    refine ⟨by rw [← hx]; exact get_put hmm, get_fewer hmm (by rw [← hx]; exact bytes_ne m) hx, by rw [← hx]; exact get_more hmm 0⟩)
  have hne : x ≠ [] := by rw [← hx]; exact bytes_ne m
  have hps := List.length_pos_iff.2 hne
  obtain ⟨k, hk⟩ : ∃ k, x.length = k + 1 := ⟨x.length - 1, by omega⟩
  have HK := Lib.hid (show x.length = k + 1 ∧ k + 1 ≤ 800000 by rw [← hk, ← hx]; exact ⟨rfl, bytes_le ((may_iff m).1 hmm)⟩)
  clear hmm hx hk hne hps
  have HNN := Lib.hid hnn
  clear hnn
  have HY := Lib.hid hy
  clear hy
  have ca0 := H1.out.1.cell 0
  have ca1 := H1.out.1.cell 1
  have ca2 := H1.out.1.cell 2
  have ca3 := H1.out.1.cell 3
  have ca4 := H1.out.1.cell 4
  have ca5 := H1.out.1.cell 5
  have ca6 := H1.out.1.cell 6
  have ca7 := H1.out.1.cell 7
  have ca8 := H1.out.1.cell 8
  have ca9 := H1.out.1.cell 9
  have ca10 := H1.out.1.cell 10
  have ca11 := H1.out.1.cell 11
  have ca12 := H1.out.1.cell 12
  have ca13 := H1.out.1.cell 13
  simp [mv] at ca0 ca1 ca2 ca3 ca4 ca5 ca6 ca7 ca8 ca9 ca10 ca11 ca12 ca13
  clear hT hm hn hb hle hmx hf hg hbl
  go_enter Tryd.func5, Tryd.ntmps5
  go_wp2_with fail
  refine (few_any w1 m s (HI.out.2.1.keep H1.out.2.2)).mono ?_
  rintro e w2 ⟨rfl, hb⟩
  rw [HF.out.1]
  have H2 := Lib.hid (H1.out.keep hb)
  clear hb ca0 ca1 ca2 ca3 ca4 ca5 ca6 ca7 ca8 ca9 ca10 ca11 ca12 ca13 hw1 hbx
  have cb0 := H2.out.2.1.cell 0
  have cb1 := H2.out.2.1.cell 1
  have cb2 := H2.out.2.1.cell 2
  have cb3 := H2.out.2.1.cell 3
  have cb4 := H2.out.2.1.cell 4
  have cb5 := H2.out.2.1.cell 5
  have cb6 := H2.out.2.1.cell 6
  have cb7 := H2.out.2.1.cell 7
  have cb8 := H2.out.2.1.cell 8
  have cb9 := H2.out.2.1.cell 9
  have cb10 := H2.out.2.1.cell 10
  have cb11 := H2.out.2.1.cell 11
  have cb12 := H2.out.2.1.cell 12
  have cb13 := H2.out.2.1.cell 13
  simp [mv] at cb0 cb1 cb2 cb3 cb4 cb5 cb6 cb7 cb8 cb9 cb10 cb11 cb12 cb13
  go_wp2_with fail
  refine (few_any w2 n t (HI.out.2.2.1.keep H2.out.2.2)).mono ?_
  rintro e w3 ⟨rfl, hb⟩
  rw [HF.out.2]
  have H3 := Lib.hid (H2.out.keep hb)
  clear hb cb0 cb1 cb2 cb3 cb4 cb5 cb6 cb7 cb8 cb9 cb10 cb11 cb12 cb13
  have cc0 := H3.out.1.cell 0
  have cc1 := H3.out.1.cell 1
  have cc2 := H3.out.1.cell 2
  have cc3 := H3.out.1.cell 3
  have cc4 := H3.out.1.cell 4
  have cc5 := H3.out.1.cell 5
  have cc6 := H3.out.1.cell 6
  have cc7 := H3.out.1.cell 7
  have cc8 := H3.out.1.cell 8
  have cc9 := H3.out.1.cell 9
  have cc10 := H3.out.1.cell 10
  have cc11 := H3.out.1.cell 11
  have cc12 := H3.out.1.cell 12
  have cc13 := H3.out.1.cell 13
  simp [mv] at cc0 cc1 cc2 cc3 cc4 cc5 cc6 cc7 cc8 cc9 cc10 cc11 cc12 cc13
  go_wp2_with fail
  refine (put_yes w3 m s x (HI.out.1.keep H3.out.2.2) (HM.out.1.keep H3.out.2.2) HMM.out.1 HMM.out.2).mono ?_
  rintro e w4 ⟨A1, c1, rfl, ho, hb⟩
  rw [HK.out.1]
  have hl1 := ho.le
  have hl2 := ho.max
  rw [List.length_map, HK.out.1] at hl1
  have HC1 := Lib.hid (And.intro hl1 (maxle hl2))
  have H4 := Lib.hid (And.intro (H3.out.keep hb) ho)
  clear hb ho cc0 cc1 cc2 cc3 cc4 cc5 cc6 cc7 cc8 cc9 cc10 cc11 cc12 cc13 hl1 hl2
  have hk8 : (k : Int) ≤ 800000 := by have := HK.out.2; omega
  have hk0 : (0 : Int) ≤ (k : Int) := by omega
  have e0 : (((k : Int) + 1) == 0) = false := by rw [beq_eq_false_iff_ne]; omega
  have e1 : (k + 1 == 0) = false := by rw [beq_eq_false_iff_ne]; omega
  have hkc : (k : Int) ≤ (c1 : Int) := by have := HC1.out.1; omega
  have hcm : (c1 : Int) ≤ 9223372036854775807 := by have := HC1.out.2; omega
  go_wp2_with fail
  refine (get_yes w4 A1 x (k + 1) c1 HK.out.1.symm HC1.out.1 HC1.out.2 H4.out.2.bytes (HI.out.1.keep H4.out.1.2.2) (by rw [HK.out.1]; have := HK.out.2; omega) m HX.out.1).mono ?_
  rintro e w5 ⟨s1, rfl, hr, hb⟩
  have H5 := Lib.hid (And.intro (H4.out.1.keep hb) (And.intro (H4.out.2.keep hb) hr))
  clear hb hr e0 e1
  go_wp2_with ((with_reducible show wpList _ _ _ ((⟨none, .store 27 (.tmp 9) (.tmp 52), _, _, _, _⟩ : Oper) :: _) _ _); refine wpList_store_msg w5 rfl (.tmp 9) (.tmp 52) rfl (m) s1 rfl rfl ?_; intro w6 hB hW; have H6 := Lib.hid (And.intro (H5.out.1.keep hW) (And.intro (H5.out.2.1.keep hW) (And.intro (H5.out.2.2.keep hW) hB))); clear hB hW; obtain ⟨g1, hg1⟩ : ∃ x, w5.heap.size = x := ⟨_, rfl⟩; rw [hg1] at H6 ⊢; clear hg1)
  refine (get_no w6 A1 (x.take k) k c1 (by rw [List.length_take, HK.out.1]; omega) (by have := HC1.out.1; omega) HC1.out.2 (H6.out.2.1.bytes.take k) (HI.out.1.keep H6.out.1.2.2) (by rw [List.length_take, HK.out.1]; have := HK.out.2; omega) (by have := HX.out.2.1; rw [HK.out.1] at this; exact this)).mono ?_
  rintro e w7 ⟨rfl, hb⟩
  have H7 := Lib.hid (And.intro (H6.out.1.keep hb) (And.intro (H6.out.2.1.keep hb) (And.intro (H6.out.2.2.1.keep hb) (H6.out.2.2.2.keep hb))))
  clear hb
  obtain ⟨i0, hi0, hz0, hz1, hz2⟩ := info_parts u8info17
  go_wp2_with (first
    | ((with_reducible show wpList _ _ _ ((⟨none, _, _, _, _, _⟩ : Oper) :: _) _ _); refine wpList_store_msg w7 rfl (.tmp 11) (.tmp 61) rfl mz s0 rfl rfl ?_; intro w8 hB hW; have H8 := Lib.hid (And.intro (H7.out.1.keep hW) (And.intro (H7.out.2.1.keep hW) (And.intro (H7.out.2.2.1.keep hW) (H7.out.2.2.2.keep hW)))); clear hB hW; have ex := run_str (P := Tryd.prog) w8 25 5 Tryd.underlying25 Tryd.underlying5 H8.out.2.1.bytes c1 9 Tryd.underlying9; rw [HK.out.1] at ex)
    | ((with_reducible show wpList _ _ _ ((⟨some 66, _, _, _, _, _⟩ : Oper) :: _) _ _); refine wpList_bytesOfB w8 (by rfl) 9 25 (.tmp 65) rfl 5 Tryd.underlying9 Tryd.underlying25 Tryd.underlying5 x (by rw [HK.out.1]; have := HK.out.2; unfold maxLen; omega) rfl ?_; intro ck w9 hck hr hbl hs; rw [HK.out.1] at hck ⊢; have H9 := Lib.hid (And.intro hck (And.intro hr hbl)); clear hck hr hbl hs; obtain ⟨g3, hg3⟩ : ∃ q, w8.heap.size = q := ⟨_, rfl⟩; rw [hg3] at H9 ⊢; have HG3 := Lib.hid hg3; clear hg3)
    | ((with_reducible show wpList _ _ _ ((⟨some 68, _, _, _, _, _⟩ : Oper) :: _) _ _); refine wpList_app1m _ rfl (.tmp 66) (.tmp 67) 25 5 rfl i0 _ 1 Tryd.underlying25 hi0 hz0 hz1 hz2 rfl g3 (k + 1) ck (x.map u8v) rfl (by rw [List.length_map]; exact HK.out.1) (H9.out.2.1.keep (nextA (Mem.start w9) _)) ⟨w9.heap.size, 0, none⟩ 1 (.int .u8 0) rfl (by rw [new_cell]; rfl) rfl (by have := HK.out.2; unfold maxLen; omega) (by have := HK.out.2; omega) ?_; intro A4 c4 w10 hc4 hcc4 hcm4 hb10; have hw8 : Below w8.heap.size w8 w10 := (by have h9 := H9.out.2.2; have h10 := (nextA (Mem.start w9) (.cells #[.int .u8 0] 5)).mono (show g3 ≤ w9.heap.size from by have := h9.size; have := HG3.out; omega); rw [HG3.out]; exact (h9.trans h10).trans hb10); have HA4 := Lib.hid (show Bytes w10 w10.heap.size A4 (x ++ [0]) ∧ k + 1 + 1 ≤ c4 ∧ c4 ≤ maxLen from ⟨by have e : (x ++ [0]).map u8v = x.map u8v ++ [.int .u8 0] := (by rw [List.map_append]; rfl); unfold Bytes; rw [e]; exact hc4, hcc4, hcm4⟩); have H10 := Lib.hid (And.intro (H8.out.1.keep hw8) (And.intro (H8.out.2.1.keep hw8) (And.intro (H8.out.2.2.1.keep hw8) (H8.out.2.2.2.keep hw8)))); clear hc4 hcc4 hcm4 hb10 hw8))
  refine (get_no w10 A4 (x ++ [0]) (k + 1 + 1) c4 (by rw [List.length_append, HK.out.1]; rfl) HA4.out.2.1 (maxle HA4.out.2.2) HA4.out.1 (HI.out.1.keep H10.out.1.2.2) (by rw [List.length_append, HK.out.1]; have := HK.out.2; simp; omega) HX.out.2.2).mono ?_
  rintro e w11 ⟨rfl, hb⟩
  have H11 := Lib.hid (And.intro (H10.out.1.keep hb) (And.intro (H10.out.2.1.keep hb) (And.intro (H10.out.2.2.1.keep hb) (H10.out.2.2.2.keep hb))))
  clear hb ex hi0 hz0 hz1 hz2
  go_wp2_with ((with_reducible show wpList _ _ _ ((⟨none, _, _, _, _, _⟩ : Oper) :: _) _ _); refine wpList_store_msg w11 rfl (.tmp 13) (.tmp 70) rfl mz s0 rfl rfl ?_; intro w12 hB hW; have H12 := Lib.hid (And.intro (H11.out.1.keep hW) (And.intro (H11.out.2.1.keep hW) (And.intro (H11.out.2.2.1.keep hW) (H11.out.2.2.2.keep hW)))); clear hB hW; have ca0 := H12.out.1.1.cell 0; have ca1 := H12.out.1.1.cell 1; have ca2 := H12.out.1.1.cell 2; have ca3 := H12.out.1.1.cell 3; have ca4 := H12.out.1.1.cell 4; have ca5 := H12.out.1.1.cell 5; have ca6 := H12.out.1.1.cell 6; have ca7 := H12.out.1.1.cell 7; have ca8 := H12.out.1.1.cell 8; have ca9 := H12.out.1.1.cell 9; have ca10 := H12.out.1.1.cell 10; have ca11 := H12.out.1.1.cell 11; have ca12 := H12.out.1.1.cell 12; have ca13 := H12.out.1.1.cell 13; simp [mv] at ca0 ca1 ca2 ca3 ca4 ca5 ca6 ca7 ca8 ca9 ca10 ca11 ca12 ca13; have cg0 := H12.out.2.2.2.cell 0; have cg1 := H12.out.2.2.2.cell 1; have cg2 := H12.out.2.2.2.cell 2; have cg3 := H12.out.2.2.2.cell 3; have cg4 := H12.out.2.2.2.cell 4; have cg5 := H12.out.2.2.2.cell 5; have cg6 := H12.out.2.2.2.cell 6; have cg7 := H12.out.2.2.2.cell 7; have cg8 := H12.out.2.2.2.cell 8; have cg9 := H12.out.2.2.2.cell 9; have cg10 := H12.out.2.2.2.cell 10; have cg11 := H12.out.2.2.2.cell 11; have cg12 := H12.out.2.2.2.cell 12; have cg13 := H12.out.2.2.2.cell 13; simp [mv] at cg0 cg1 cg2 cg3 cg4 cg5 cg6 cg7 cg8 cg9 cg10 cg11 cg12 cg13)
  refine (same_any w12 m m s s1 (HM.out.1.keep H12.out.1.2.2) (H12.out.2.2.1.min HMM.out.1)).mono ?_
  rintro e w13 ⟨rfl, hb⟩
  rw [same_refl]
  have H13 := Lib.hid (And.intro (H12.out.1.keep hb) (H12.out.2.1.keep hb))
  clear hb ca0 ca1 ca2 ca3 ca4 ca5 ca6 ca7 ca8 ca9 ca10 ca11 ca12 ca13 cg0 cg1 cg2 cg3 cg4 cg5 cg6 cg7 cg8 cg9 cg10 cg11 cg12 cg13
  have cb0 := H13.out.1.2.1.cell 0
  have cb1 := H13.out.1.2.1.cell 1
  have cb2 := H13.out.1.2.1.cell 2
  have cb3 := H13.out.1.2.1.cell 3
  have cb4 := H13.out.1.2.1.cell 4
  have cb5 := H13.out.1.2.1.cell 5
  have cb6 := H13.out.1.2.1.cell 6
  have cb7 := H13.out.1.2.1.cell 7
  have cb8 := H13.out.1.2.1.cell 8
  have cb9 := H13.out.1.2.1.cell 9
  have cb10 := H13.out.1.2.1.cell 10
  have cb11 := H13.out.1.2.1.cell 11
  have cb12 := H13.out.1.2.1.cell 12
  have cb13 := H13.out.1.2.1.cell 13
  simp [mv] at cb0 cb1 cb2 cb3 cb4 cb5 cb6 cb7 cb8 cb9 cb10 cb11 cb12 cb13
  go_wp2_with fail
  refine (put_no w13 n t (HI.out.1.keep H13.out.1.2.2) (HM.out.2.keep H13.out.1.2.2) HNN.out).mono ?_
  rintro e w14 ⟨rfl, hb⟩
  have H14 := Lib.hid (H13.out.1.keep hb)
  clear hb cb0 cb1 cb2 cb3 cb4 cb5 cb6 cb7 cb8 cb9 cb10 cb11 cb12 cb13
  go_wp2_with fail
  refine wp_region_noPanic ?_
  refine wp_heldG (fun V => Two w bx m s n t V) [] (by kernel_rfl) ?hs0 ?rg0
  case hs0 =>
    exact H14.out.keep (nextN (Mem.start _) 1)
  case rg0 =>
  intro hHeld
  refine wpAnyG_pure (i := 0) (oi := { dst := some 93, op := Op.move (Operand.tmp 16), type := 22, pos := _, after := #[], guard := none }) (v := ?_) rfl (by kernel_rfl) (by kernel_rfl) (by kernel_rfl) (by kernel_rfl) (fun _ _ _ h => h) (Or.inl ⟨by rfl, ?_⟩) (fun _ => by assumption) ?_
  rotate_left
  · intro w hSw
    try dsimp only at hSw
    go_simp
    try with_reducible rfl
  try simp only [Act.put, List.setIfInBounds_toArray, List.set_cons_zero, List.set_cons_succ]
  refine wpAnyG_pure (i := 1) (oi := { dst := some 94, op := Op.binOp BinOp.eql 22 (Operand.tmp 93) (Operand.const (Value.int IntKind.i64 0)) 22, type := 4, pos := _, after := #[{ on := 0, ground := Ground.data }], guard := none }) (v := ?_) rfl (by kernel_rfl) (by kernel_rfl) (by kernel_rfl) (by kernel_rfl) (fun _ _ _ h => h) (Or.inl ⟨by rfl, ?_⟩) (fun _ => by assumption) ?_
  rotate_left
  · intro w hSw
    try dsimp only at hSw
    go_simp
    try with_reducible rfl
  try simp only [Act.put, List.setIfInBounds_toArray, List.set_cons_zero, List.set_cons_succ]
  refine wpAnyG_pure (i := 2) (oi := { dst := some 95, op := Op.move (Operand.tmp 94), type := 4, pos := _, after := #[{ on := 1, ground := Ground.data }], guard := none }) (v := ?_) rfl (by kernel_rfl) (by kernel_rfl) (by kernel_rfl) (by kernel_rfl) (fun _ _ _ h => h) (Or.inl ⟨by rfl, ?_⟩) (fun _ => by assumption) ?_
  rotate_left
  · intro w hSw
    try dsimp only at hSw
    go_simp
    try with_reducible rfl
  try simp only [Act.put, List.setIfInBounds_toArray, List.set_cons_zero, List.set_cons_succ]
  refine wpAnyG_pure (i := 3) (oi := { dst := some 96, op := Op.move (Operand.tmp 7), type := 25, pos := _, after := #[{ on := 2, ground := Ground.guard }], guard := some (2, true) }) (v := undef) rfl (by kernel_rfl) (by kernel_rfl) (by kernel_rfl) (by kernel_rfl) (fun _ _ _ h => h) (Or.inr ⟨by rfl, rfl⟩) (fun _ => by assumption) ?_
  try simp only [Act.put, List.setIfInBounds_toArray, List.set_cons_zero, List.set_cons_succ]
  refine wpAnyG_pure (i := 4) (oi := { dst := some 97, op := Op.convert 25 9 (Operand.tmp 96), type := 9, pos := _, after := #[{ on := 3, ground := Ground.data }, { on := 2, ground := Ground.guard }], guard := some (2, true) }) (v := undef) rfl (by kernel_rfl) (by kernel_rfl) (by kernel_rfl) (by kernel_rfl) (fun _ _ _ h => h) (Or.inr ⟨by rfl, rfl⟩) (fun _ => by assumption) ?_
  try simp only [Act.put, List.setIfInBounds_toArray, List.set_cons_zero, List.set_cons_succ]
  refine wpAnyG_pure (i := 5) (oi := { dst := some 98, op := Op.move (Operand.tmp 15), type := 25, pos := _, after := #[{ on := 2, ground := Ground.guard }], guard := some (2, true) }) (v := undef) rfl (by kernel_rfl) (by kernel_rfl) (by kernel_rfl) (by kernel_rfl) (fun _ _ _ h => h) (Or.inr ⟨by rfl, rfl⟩) (fun _ => by assumption) ?_
  try simp only [Act.put, List.setIfInBounds_toArray, List.set_cons_zero, List.set_cons_succ]
  refine wpAnyG_pure (i := 6) (oi := { dst := some 99, op := Op.convert 25 9 (Operand.tmp 98), type := 9, pos := _, after := #[{ on := 5, ground := Ground.data }, { on := 2, ground := Ground.guard }], guard := some (2, true) }) (v := undef) rfl (by kernel_rfl) (by kernel_rfl) (by kernel_rfl) (by kernel_rfl) (fun _ _ _ h => h) (Or.inr ⟨by rfl, rfl⟩) (fun _ => by assumption) ?_
  try simp only [Act.put, List.setIfInBounds_toArray, List.set_cons_zero, List.set_cons_succ]
  refine wpAnyG_pure (i := 7) (oi := { dst := some 100, op := Op.binOp BinOp.eql 9 (Operand.tmp 97) (Operand.tmp 99) 9, type := 4, pos := _, after := #[{ on := 4, ground := Ground.data }, { on := 6, ground := Ground.data }, { on := 2, ground := Ground.guard }], guard := some (2, true) }) (v := undef) rfl (by kernel_rfl) (by kernel_rfl) (by kernel_rfl) (by kernel_rfl) (fun _ _ _ h => h) (Or.inr ⟨by rfl, rfl⟩) (fun _ => by assumption) ?_
  try simp only [Act.put, List.setIfInBounds_toArray, List.set_cons_zero, List.set_cons_succ]
  refine wpAnyG_pure (i := 8) (oi := { dst := some 101, op := Op.load 27 (Operand.tmp 3), type := 27, pos := _, after := #[{ on := 2, ground := Ground.guard }], guard := some (2, true) }) (v := undef) rfl (by kernel_rfl) (by kernel_rfl) (by kernel_rfl) (by kernel_rfl) (fun _ _ _ h => h) (Or.inr ⟨by rfl, rfl⟩) (fun _ => by assumption) ?_
  try simp only [Act.put, List.setIfInBounds_toArray, List.set_cons_zero, List.set_cons_succ]
  refine wpAnyG_pure (i := 9) (oi := { dst := some 102, op := Op.load 27 (Operand.tmp 4), type := 27, pos := _, after := #[{ on := 2, ground := Ground.guard }], guard := some (2, true) }) (v := undef) rfl (by kernel_rfl) (by kernel_rfl) (by kernel_rfl) (by kernel_rfl) (fun _ _ _ h => h) (Or.inr ⟨by rfl, rfl⟩) (fun _ => by assumption) ?_
  try simp only [Act.put, List.setIfInBounds_toArray, List.set_cons_zero, List.set_cons_succ]
  refine wpAnyG_pure (i := 10) (oi := { dst := some 103, op := Op.call { callee := Callee.value (Operand.func 18), args := #[Operand.tmp 101, Operand.tmp 102], argTypes := #[27, 27] }, type := 4, pos := _, after := #[{ on := 8, ground := Ground.data }, { on := 9, ground := Ground.data }, { on := 2, ground := Ground.chain }, { on := 2, ground := Ground.guard }], guard := some (2, true) }) (v := undef) rfl (by kernel_rfl) (by kernel_rfl) (by kernel_rfl) (by kernel_rfl) (fun _ _ _ h => h) (Or.inr ⟨by rfl, rfl⟩) (fun _ => by assumption) ?_
  try simp only [Act.put, List.setIfInBounds_toArray, List.set_cons_zero, List.set_cons_succ]
  refine wpAnyG_pure (i := 11) (oi := { dst := some 104, op := Op.binOp BinOp.neq 4 (Operand.tmp 100) (Operand.tmp 103) 4, type := 4, pos := _, after := #[{ on := 7, ground := Ground.data }, { on := 10, ground := Ground.data }, { on := 2, ground := Ground.guard }], guard := some (2, true) }) (v := undef) rfl (by kernel_rfl) (by kernel_rfl) (by kernel_rfl) (by kernel_rfl) (fun _ _ _ h => h) (Or.inr ⟨by rfl, rfl⟩) (fun _ => by assumption) ?_
  try simp only [Act.put, List.setIfInBounds_toArray, List.set_cons_zero, List.set_cons_succ]
  refine wpAnyG_pure (i := 12) (oi := { dst := some 105, op := Op.pick (Operand.tmp 95) (Operand.tmp 104) (Operand.const (Value.bool false)), type := 4, pos := _, after := #[{ on := 2, ground := Ground.data }, { on := 11, ground := Ground.data }], guard := none }) (v := ?_) rfl (by kernel_rfl) (by kernel_rfl) (by kernel_rfl) (by kernel_rfl) (fun _ _ _ h => h) (Or.inl ⟨by rfl, ?_⟩) (fun _ => by assumption) ?_
  rotate_left
  · intro w hSw
    try dsimp only at hSw
    go_simp
    try with_reducible rfl
  try simp only [Act.put, List.setIfInBounds_toArray, List.set_cons_zero, List.set_cons_succ]
  refine wpAnyG_done (by kernel_rfl) ?_ _
  refine NoPanic.normal ?_
  have H15 := Lib.hid hHeld
  clear hHeld
  go_wp2_with fail
  refine (get_no w14.drew A b b.length c rfl HL.out.1 HL.out.2.1 ((HI.out.2.2.2.below H15.out.2.2).up H15.out.2.2.size) (HI.out.1.keep H15.out.2.2) (by have := HL.out.2.2; omega) HY.out).mono ?_
  rintro e v1 ⟨rfl, hb⟩
  have K1 := Lib.hid (H15.out.keep hb)
  clear hb
  go_wp2_with ((with_reducible show wpList _ _ _ ((⟨none, .store 27 (.tmp 17) (.tmp 109), _, _, _, _⟩ : Oper) :: _) _ _); refine wpList_store_msg v1 rfl (.tmp 17) (.tmp 109) rfl mz s0 rfl rfl ?_; intro v2 hB hW; have K2 := Lib.hid (K1.out.keep hW); clear hB hW)
  refine (works_any v2 (HI.out.1.keep K2.out.2.2)).mono ?_
  rintro e v3 ⟨rfl, hb⟩
  have K3 := Lib.hid (next K2.out.2.2 hb)
  clear hb
  go_wp2_with fail
  go_ret
  exact ⟨rfl, K3.out⟩
set_option maxRecDepth 100000 in
set_option maxHeartbeats 16000000 in
theorem back_yny (w : World) (hT : HasT w) (m : Msg) (s : Sl) (hm : MIn0 w w.heap.size m s) (n : Msg) (t : Sl) (hn : MIn0 w w.heap.size n t) (A : Option Addr) (b : List UInt8) (c : Nat) (hle : b.length ≤ c) (hmx : c ≤ maxLen) (hb : Bytes w w.heap.size A b) (hf : few m = true) (hg : few n = true) (hbl : b.length ≤ 5000) (x : List UInt8) (hmm : may m = true) (hx : Wi.bytes m = x) (hnn : may n = false) (y : Msg) (hy : Wi.get b = some y) :
    Calls Tryd.prog 5 #[.agg (mv m s), .agg (mv n t), .slice A b.length c] w fun e w' => e = .returned (.bool true) ∧ Below w.heap.size w w' := by
  obtain ⟨bx, hbx⟩ : ∃ bx, w.heap.size = bx := ⟨_, rfl⟩
  obtain ⟨w1, hw1⟩ : ∃ x : World, (w.alloc (.cells (mv m s) 27)).alloc (.cells (mv n t) 27) = x := ⟨_, rfl⟩
  have H1 := Lib.hid (show Two w bx m s n t w1 by
    rw [← hw1, ← hbx]
    refine ⟨(Blk.new w _ _).keep (nextA (Mem.start _) _), ?_, nextA (nextA (Mem.start w) _) _⟩
    have := Blk.new (w.alloc (.cells (mv m s) 27)) 27 (mv n t)
    rw [World.size_alloc] at this; exact this)
  have HI := Lib.hid (And.intro hT (And.intro hm (And.intro hn hb)))
  have HF := Lib.hid (And.intro hf hg)
  have HM := Lib.hid (And.intro (hm.small hf) (hn.small hg))
  have HL := Lib.hid (And.intro hle (And.intro (maxle hmx) hbl))
  have dl : decide ((5000 : Int) < ((b.length : Nat) : Int)) = false := decide_eq_false (by omega)
  have HMM := Lib.hid (And.intro hmm hx)
  have HX := Lib.hid (show Wi.get x = some m ∧ Wi.get (x.take (x.length - 1)) = none ∧ Wi.get (x ++ [0]) = none by
    refine ⟨by rw [← hx]; exact get_put hmm, get_fewer hmm (by rw [← hx]; exact bytes_ne m) hx, by rw [← hx]; exact get_more hmm 0⟩)
  have hne : x ≠ [] := by rw [← hx]; exact bytes_ne m
  have hps := List.length_pos_iff.2 hne
  obtain ⟨k, hk⟩ : ∃ k, x.length = k + 1 := ⟨x.length - 1, by omega⟩
  have HK := Lib.hid (show x.length = k + 1 ∧ k + 1 ≤ 800000 by rw [← hk, ← hx]; exact ⟨rfl, bytes_le ((may_iff m).1 hmm)⟩)
  clear hmm hx hk hne hps
  have HNN := Lib.hid hnn
  clear hnn
  have HY := Lib.hid hy
  clear hy
  have ca0 := H1.out.1.cell 0
  have ca1 := H1.out.1.cell 1
  have ca2 := H1.out.1.cell 2
  have ca3 := H1.out.1.cell 3
  have ca4 := H1.out.1.cell 4
  have ca5 := H1.out.1.cell 5
  have ca6 := H1.out.1.cell 6
  have ca7 := H1.out.1.cell 7
  have ca8 := H1.out.1.cell 8
  have ca9 := H1.out.1.cell 9
  have ca10 := H1.out.1.cell 10
  have ca11 := H1.out.1.cell 11
  have ca12 := H1.out.1.cell 12
  have ca13 := H1.out.1.cell 13
  simp [mv] at ca0 ca1 ca2 ca3 ca4 ca5 ca6 ca7 ca8 ca9 ca10 ca11 ca12 ca13
  clear hT hm hn hb hle hmx hf hg hbl
  go_enter Tryd.func5, Tryd.ntmps5
  go_wp2_with fail
  refine (few_any w1 m s (HI.out.2.1.keep H1.out.2.2)).mono ?_
  rintro e w2 ⟨rfl, hb⟩
  rw [HF.out.1]
  have H2 := Lib.hid (H1.out.keep hb)
  clear hb ca0 ca1 ca2 ca3 ca4 ca5 ca6 ca7 ca8 ca9 ca10 ca11 ca12 ca13 hw1 hbx
  have cb0 := H2.out.2.1.cell 0
  have cb1 := H2.out.2.1.cell 1
  have cb2 := H2.out.2.1.cell 2
  have cb3 := H2.out.2.1.cell 3
  have cb4 := H2.out.2.1.cell 4
  have cb5 := H2.out.2.1.cell 5
  have cb6 := H2.out.2.1.cell 6
  have cb7 := H2.out.2.1.cell 7
  have cb8 := H2.out.2.1.cell 8
  have cb9 := H2.out.2.1.cell 9
  have cb10 := H2.out.2.1.cell 10
  have cb11 := H2.out.2.1.cell 11
  have cb12 := H2.out.2.1.cell 12
  have cb13 := H2.out.2.1.cell 13
  simp [mv] at cb0 cb1 cb2 cb3 cb4 cb5 cb6 cb7 cb8 cb9 cb10 cb11 cb12 cb13
  go_wp2_with fail
  refine (few_any w2 n t (HI.out.2.2.1.keep H2.out.2.2)).mono ?_
  rintro e w3 ⟨rfl, hb⟩
  rw [HF.out.2]
  have H3 := Lib.hid (H2.out.keep hb)
  clear hb cb0 cb1 cb2 cb3 cb4 cb5 cb6 cb7 cb8 cb9 cb10 cb11 cb12 cb13
  have cc0 := H3.out.1.cell 0
  have cc1 := H3.out.1.cell 1
  have cc2 := H3.out.1.cell 2
  have cc3 := H3.out.1.cell 3
  have cc4 := H3.out.1.cell 4
  have cc5 := H3.out.1.cell 5
  have cc6 := H3.out.1.cell 6
  have cc7 := H3.out.1.cell 7
  have cc8 := H3.out.1.cell 8
  have cc9 := H3.out.1.cell 9
  have cc10 := H3.out.1.cell 10
  have cc11 := H3.out.1.cell 11
  have cc12 := H3.out.1.cell 12
  have cc13 := H3.out.1.cell 13
  simp [mv] at cc0 cc1 cc2 cc3 cc4 cc5 cc6 cc7 cc8 cc9 cc10 cc11 cc12 cc13
  go_wp2_with fail
  refine (put_yes w3 m s x (HI.out.1.keep H3.out.2.2) (HM.out.1.keep H3.out.2.2) HMM.out.1 HMM.out.2).mono ?_
  rintro e w4 ⟨A1, c1, rfl, ho, hb⟩
  rw [HK.out.1]
  have hl1 := ho.le
  have hl2 := ho.max
  rw [List.length_map, HK.out.1] at hl1
  have HC1 := Lib.hid (And.intro hl1 (maxle hl2))
  have H4 := Lib.hid (And.intro (H3.out.keep hb) ho)
  clear hb ho cc0 cc1 cc2 cc3 cc4 cc5 cc6 cc7 cc8 cc9 cc10 cc11 cc12 cc13 hl1 hl2
  have hk8 : (k : Int) ≤ 800000 := by have := HK.out.2; omega
  have hk0 : (0 : Int) ≤ (k : Int) := by omega
  have e0 : (((k : Int) + 1) == 0) = false := by rw [beq_eq_false_iff_ne]; omega
  have e1 : (k + 1 == 0) = false := by rw [beq_eq_false_iff_ne]; omega
  have hkc : (k : Int) ≤ (c1 : Int) := by have := HC1.out.1; omega
  have hcm : (c1 : Int) ≤ 9223372036854775807 := by have := HC1.out.2; omega
  go_wp2_with fail
  refine (get_yes w4 A1 x (k + 1) c1 HK.out.1.symm HC1.out.1 HC1.out.2 H4.out.2.bytes (HI.out.1.keep H4.out.1.2.2) (by rw [HK.out.1]; have := HK.out.2; omega) m HX.out.1).mono ?_
  rintro e w5 ⟨s1, rfl, hr, hb⟩
  have H5 := Lib.hid (And.intro (H4.out.1.keep hb) (And.intro (H4.out.2.keep hb) hr))
  clear hb hr e0 e1
  go_wp2_with ((with_reducible show wpList _ _ _ ((⟨none, .store 27 (.tmp 9) (.tmp 52), _, _, _, _⟩ : Oper) :: _) _ _); refine wpList_store_msg w5 rfl (.tmp 9) (.tmp 52) rfl (m) s1 rfl rfl ?_; intro w6 hB hW; have H6 := Lib.hid (And.intro (H5.out.1.keep hW) (And.intro (H5.out.2.1.keep hW) (And.intro (H5.out.2.2.keep hW) hB))); clear hB hW; obtain ⟨g1, hg1⟩ : ∃ x, w5.heap.size = x := ⟨_, rfl⟩; rw [hg1] at H6 ⊢; clear hg1)
  refine (get_no w6 A1 (x.take k) k c1 (by rw [List.length_take, HK.out.1]; omega) (by have := HC1.out.1; omega) HC1.out.2 (H6.out.2.1.bytes.take k) (HI.out.1.keep H6.out.1.2.2) (by rw [List.length_take, HK.out.1]; have := HK.out.2; omega) (by have := HX.out.2.1; rw [HK.out.1] at this; exact this)).mono ?_
  rintro e w7 ⟨rfl, hb⟩
  have H7 := Lib.hid (And.intro (H6.out.1.keep hb) (And.intro (H6.out.2.1.keep hb) (And.intro (H6.out.2.2.1.keep hb) (H6.out.2.2.2.keep hb))))
  clear hb
  obtain ⟨i0, hi0, hz0, hz1, hz2⟩ := info_parts u8info17
  go_wp2_with (first
    | ((with_reducible show wpList _ _ _ ((⟨none, _, _, _, _, _⟩ : Oper) :: _) _ _); refine wpList_store_msg w7 rfl (.tmp 11) (.tmp 61) rfl mz s0 rfl rfl ?_; intro w8 hB hW; have H8 := Lib.hid (And.intro (H7.out.1.keep hW) (And.intro (H7.out.2.1.keep hW) (And.intro (H7.out.2.2.1.keep hW) (H7.out.2.2.2.keep hW)))); clear hB hW; have ex := run_str (P := Tryd.prog) w8 25 5 Tryd.underlying25 Tryd.underlying5 H8.out.2.1.bytes c1 9 Tryd.underlying9; rw [HK.out.1] at ex)
    | ((with_reducible show wpList _ _ _ ((⟨some 66, _, _, _, _, _⟩ : Oper) :: _) _ _); refine wpList_bytesOfB w8 (by rfl) 9 25 (.tmp 65) rfl 5 Tryd.underlying9 Tryd.underlying25 Tryd.underlying5 x (by rw [HK.out.1]; have := HK.out.2; unfold maxLen; omega) rfl ?_; intro ck w9 hck hr hbl hs; rw [HK.out.1] at hck ⊢; have H9 := Lib.hid (And.intro hck (And.intro hr hbl)); clear hck hr hbl hs; obtain ⟨g3, hg3⟩ : ∃ q, w8.heap.size = q := ⟨_, rfl⟩; rw [hg3] at H9 ⊢; have HG3 := Lib.hid hg3; clear hg3)
    | ((with_reducible show wpList _ _ _ ((⟨some 68, _, _, _, _, _⟩ : Oper) :: _) _ _); refine wpList_app1m _ rfl (.tmp 66) (.tmp 67) 25 5 rfl i0 _ 1 Tryd.underlying25 hi0 hz0 hz1 hz2 rfl g3 (k + 1) ck (x.map u8v) rfl (by rw [List.length_map]; exact HK.out.1) (H9.out.2.1.keep (nextA (Mem.start w9) _)) ⟨w9.heap.size, 0, none⟩ 1 (.int .u8 0) rfl (by rw [new_cell]; rfl) rfl (by have := HK.out.2; unfold maxLen; omega) (by have := HK.out.2; omega) ?_; intro A4 c4 w10 hc4 hcc4 hcm4 hb10; have hw8 : Below w8.heap.size w8 w10 := (by have h9 := H9.out.2.2; have h10 := (nextA (Mem.start w9) (.cells #[.int .u8 0] 5)).mono (show g3 ≤ w9.heap.size from by have := h9.size; have := HG3.out; omega); rw [HG3.out]; exact (h9.trans h10).trans hb10); have HA4 := Lib.hid (show Bytes w10 w10.heap.size A4 (x ++ [0]) ∧ k + 1 + 1 ≤ c4 ∧ c4 ≤ maxLen from ⟨by have e : (x ++ [0]).map u8v = x.map u8v ++ [.int .u8 0] := (by rw [List.map_append]; rfl); unfold Bytes; rw [e]; exact hc4, hcc4, hcm4⟩); have H10 := Lib.hid (And.intro (H8.out.1.keep hw8) (And.intro (H8.out.2.1.keep hw8) (And.intro (H8.out.2.2.1.keep hw8) (H8.out.2.2.2.keep hw8)))); clear hc4 hcc4 hcm4 hb10 hw8))
  refine (get_no w10 A4 (x ++ [0]) (k + 1 + 1) c4 (by rw [List.length_append, HK.out.1]; rfl) HA4.out.2.1 (maxle HA4.out.2.2) HA4.out.1 (HI.out.1.keep H10.out.1.2.2) (by rw [List.length_append, HK.out.1]; have := HK.out.2; simp; omega) HX.out.2.2).mono ?_
  rintro e w11 ⟨rfl, hb⟩
  have H11 := Lib.hid (And.intro (H10.out.1.keep hb) (And.intro (H10.out.2.1.keep hb) (And.intro (H10.out.2.2.1.keep hb) (H10.out.2.2.2.keep hb))))
  clear hb ex hi0 hz0 hz1 hz2
  go_wp2_with ((with_reducible show wpList _ _ _ ((⟨none, _, _, _, _, _⟩ : Oper) :: _) _ _); refine wpList_store_msg w11 rfl (.tmp 13) (.tmp 70) rfl mz s0 rfl rfl ?_; intro w12 hB hW; have H12 := Lib.hid (And.intro (H11.out.1.keep hW) (And.intro (H11.out.2.1.keep hW) (And.intro (H11.out.2.2.1.keep hW) (H11.out.2.2.2.keep hW)))); clear hB hW; have ca0 := H12.out.1.1.cell 0; have ca1 := H12.out.1.1.cell 1; have ca2 := H12.out.1.1.cell 2; have ca3 := H12.out.1.1.cell 3; have ca4 := H12.out.1.1.cell 4; have ca5 := H12.out.1.1.cell 5; have ca6 := H12.out.1.1.cell 6; have ca7 := H12.out.1.1.cell 7; have ca8 := H12.out.1.1.cell 8; have ca9 := H12.out.1.1.cell 9; have ca10 := H12.out.1.1.cell 10; have ca11 := H12.out.1.1.cell 11; have ca12 := H12.out.1.1.cell 12; have ca13 := H12.out.1.1.cell 13; simp [mv] at ca0 ca1 ca2 ca3 ca4 ca5 ca6 ca7 ca8 ca9 ca10 ca11 ca12 ca13; have cg0 := H12.out.2.2.2.cell 0; have cg1 := H12.out.2.2.2.cell 1; have cg2 := H12.out.2.2.2.cell 2; have cg3 := H12.out.2.2.2.cell 3; have cg4 := H12.out.2.2.2.cell 4; have cg5 := H12.out.2.2.2.cell 5; have cg6 := H12.out.2.2.2.cell 6; have cg7 := H12.out.2.2.2.cell 7; have cg8 := H12.out.2.2.2.cell 8; have cg9 := H12.out.2.2.2.cell 9; have cg10 := H12.out.2.2.2.cell 10; have cg11 := H12.out.2.2.2.cell 11; have cg12 := H12.out.2.2.2.cell 12; have cg13 := H12.out.2.2.2.cell 13; simp [mv] at cg0 cg1 cg2 cg3 cg4 cg5 cg6 cg7 cg8 cg9 cg10 cg11 cg12 cg13)
  refine (same_any w12 m m s s1 (HM.out.1.keep H12.out.1.2.2) (H12.out.2.2.1.min HMM.out.1)).mono ?_
  rintro e w13 ⟨rfl, hb⟩
  rw [same_refl]
  have H13 := Lib.hid (And.intro (H12.out.1.keep hb) (H12.out.2.1.keep hb))
  clear hb ca0 ca1 ca2 ca3 ca4 ca5 ca6 ca7 ca8 ca9 ca10 ca11 ca12 ca13 cg0 cg1 cg2 cg3 cg4 cg5 cg6 cg7 cg8 cg9 cg10 cg11 cg12 cg13
  have cb0 := H13.out.1.2.1.cell 0
  have cb1 := H13.out.1.2.1.cell 1
  have cb2 := H13.out.1.2.1.cell 2
  have cb3 := H13.out.1.2.1.cell 3
  have cb4 := H13.out.1.2.1.cell 4
  have cb5 := H13.out.1.2.1.cell 5
  have cb6 := H13.out.1.2.1.cell 6
  have cb7 := H13.out.1.2.1.cell 7
  have cb8 := H13.out.1.2.1.cell 8
  have cb9 := H13.out.1.2.1.cell 9
  have cb10 := H13.out.1.2.1.cell 10
  have cb11 := H13.out.1.2.1.cell 11
  have cb12 := H13.out.1.2.1.cell 12
  have cb13 := H13.out.1.2.1.cell 13
  simp [mv] at cb0 cb1 cb2 cb3 cb4 cb5 cb6 cb7 cb8 cb9 cb10 cb11 cb12 cb13
  go_wp2_with fail
  refine (put_no w13 n t (HI.out.1.keep H13.out.1.2.2) (HM.out.2.keep H13.out.1.2.2) HNN.out).mono ?_
  rintro e w14 ⟨rfl, hb⟩
  have H14 := Lib.hid (H13.out.1.keep hb)
  clear hb cb0 cb1 cb2 cb3 cb4 cb5 cb6 cb7 cb8 cb9 cb10 cb11 cb12 cb13
  go_wp2_with fail
  refine wp_region_noPanic ?_
  refine wp_heldG (fun V => Two w bx m s n t V) [] (by kernel_rfl) ?hs0 ?rg0
  case hs0 =>
    exact H14.out.keep (nextN (Mem.start _) 1)
  case rg0 =>
  intro hHeld
  refine wpAnyG_pure (i := 0) (oi := { dst := some 93, op := Op.move (Operand.tmp 16), type := 22, pos := _, after := #[], guard := none }) (v := ?_) rfl (by kernel_rfl) (by kernel_rfl) (by kernel_rfl) (by kernel_rfl) (fun _ _ _ h => h) (Or.inl ⟨by rfl, ?_⟩) (fun _ => by assumption) ?_
  rotate_left
  · intro w hSw
    try dsimp only at hSw
    go_simp
    try with_reducible rfl
  try simp only [Act.put, List.setIfInBounds_toArray, List.set_cons_zero, List.set_cons_succ]
  refine wpAnyG_pure (i := 1) (oi := { dst := some 94, op := Op.binOp BinOp.eql 22 (Operand.tmp 93) (Operand.const (Value.int IntKind.i64 0)) 22, type := 4, pos := _, after := #[{ on := 0, ground := Ground.data }], guard := none }) (v := ?_) rfl (by kernel_rfl) (by kernel_rfl) (by kernel_rfl) (by kernel_rfl) (fun _ _ _ h => h) (Or.inl ⟨by rfl, ?_⟩) (fun _ => by assumption) ?_
  rotate_left
  · intro w hSw
    try dsimp only at hSw
    go_simp
    try with_reducible rfl
  try simp only [Act.put, List.setIfInBounds_toArray, List.set_cons_zero, List.set_cons_succ]
  refine wpAnyG_pure (i := 2) (oi := { dst := some 95, op := Op.move (Operand.tmp 94), type := 4, pos := _, after := #[{ on := 1, ground := Ground.data }], guard := none }) (v := ?_) rfl (by kernel_rfl) (by kernel_rfl) (by kernel_rfl) (by kernel_rfl) (fun _ _ _ h => h) (Or.inl ⟨by rfl, ?_⟩) (fun _ => by assumption) ?_
  rotate_left
  · intro w hSw
    try dsimp only at hSw
    go_simp
    try with_reducible rfl
  try simp only [Act.put, List.setIfInBounds_toArray, List.set_cons_zero, List.set_cons_succ]
  refine wpAnyG_pure (i := 3) (oi := { dst := some 96, op := Op.move (Operand.tmp 7), type := 25, pos := _, after := #[{ on := 2, ground := Ground.guard }], guard := some (2, true) }) (v := undef) rfl (by kernel_rfl) (by kernel_rfl) (by kernel_rfl) (by kernel_rfl) (fun _ _ _ h => h) (Or.inr ⟨by rfl, rfl⟩) (fun _ => by assumption) ?_
  try simp only [Act.put, List.setIfInBounds_toArray, List.set_cons_zero, List.set_cons_succ]
  refine wpAnyG_pure (i := 4) (oi := { dst := some 97, op := Op.convert 25 9 (Operand.tmp 96), type := 9, pos := _, after := #[{ on := 3, ground := Ground.data }, { on := 2, ground := Ground.guard }], guard := some (2, true) }) (v := undef) rfl (by kernel_rfl) (by kernel_rfl) (by kernel_rfl) (by kernel_rfl) (fun _ _ _ h => h) (Or.inr ⟨by rfl, rfl⟩) (fun _ => by assumption) ?_
  try simp only [Act.put, List.setIfInBounds_toArray, List.set_cons_zero, List.set_cons_succ]
  refine wpAnyG_pure (i := 5) (oi := { dst := some 98, op := Op.move (Operand.tmp 15), type := 25, pos := _, after := #[{ on := 2, ground := Ground.guard }], guard := some (2, true) }) (v := undef) rfl (by kernel_rfl) (by kernel_rfl) (by kernel_rfl) (by kernel_rfl) (fun _ _ _ h => h) (Or.inr ⟨by rfl, rfl⟩) (fun _ => by assumption) ?_
  try simp only [Act.put, List.setIfInBounds_toArray, List.set_cons_zero, List.set_cons_succ]
  refine wpAnyG_pure (i := 6) (oi := { dst := some 99, op := Op.convert 25 9 (Operand.tmp 98), type := 9, pos := _, after := #[{ on := 5, ground := Ground.data }, { on := 2, ground := Ground.guard }], guard := some (2, true) }) (v := undef) rfl (by kernel_rfl) (by kernel_rfl) (by kernel_rfl) (by kernel_rfl) (fun _ _ _ h => h) (Or.inr ⟨by rfl, rfl⟩) (fun _ => by assumption) ?_
  try simp only [Act.put, List.setIfInBounds_toArray, List.set_cons_zero, List.set_cons_succ]
  refine wpAnyG_pure (i := 7) (oi := { dst := some 100, op := Op.binOp BinOp.eql 9 (Operand.tmp 97) (Operand.tmp 99) 9, type := 4, pos := _, after := #[{ on := 4, ground := Ground.data }, { on := 6, ground := Ground.data }, { on := 2, ground := Ground.guard }], guard := some (2, true) }) (v := undef) rfl (by kernel_rfl) (by kernel_rfl) (by kernel_rfl) (by kernel_rfl) (fun _ _ _ h => h) (Or.inr ⟨by rfl, rfl⟩) (fun _ => by assumption) ?_
  try simp only [Act.put, List.setIfInBounds_toArray, List.set_cons_zero, List.set_cons_succ]
  refine wpAnyG_pure (i := 8) (oi := { dst := some 101, op := Op.load 27 (Operand.tmp 3), type := 27, pos := _, after := #[{ on := 2, ground := Ground.guard }], guard := some (2, true) }) (v := undef) rfl (by kernel_rfl) (by kernel_rfl) (by kernel_rfl) (by kernel_rfl) (fun _ _ _ h => h) (Or.inr ⟨by rfl, rfl⟩) (fun _ => by assumption) ?_
  try simp only [Act.put, List.setIfInBounds_toArray, List.set_cons_zero, List.set_cons_succ]
  refine wpAnyG_pure (i := 9) (oi := { dst := some 102, op := Op.load 27 (Operand.tmp 4), type := 27, pos := _, after := #[{ on := 2, ground := Ground.guard }], guard := some (2, true) }) (v := undef) rfl (by kernel_rfl) (by kernel_rfl) (by kernel_rfl) (by kernel_rfl) (fun _ _ _ h => h) (Or.inr ⟨by rfl, rfl⟩) (fun _ => by assumption) ?_
  try simp only [Act.put, List.setIfInBounds_toArray, List.set_cons_zero, List.set_cons_succ]
  refine wpAnyG_pure (i := 10) (oi := { dst := some 103, op := Op.call { callee := Callee.value (Operand.func 18), args := #[Operand.tmp 101, Operand.tmp 102], argTypes := #[27, 27] }, type := 4, pos := _, after := #[{ on := 8, ground := Ground.data }, { on := 9, ground := Ground.data }, { on := 2, ground := Ground.chain }, { on := 2, ground := Ground.guard }], guard := some (2, true) }) (v := undef) rfl (by kernel_rfl) (by kernel_rfl) (by kernel_rfl) (by kernel_rfl) (fun _ _ _ h => h) (Or.inr ⟨by rfl, rfl⟩) (fun _ => by assumption) ?_
  try simp only [Act.put, List.setIfInBounds_toArray, List.set_cons_zero, List.set_cons_succ]
  refine wpAnyG_pure (i := 11) (oi := { dst := some 104, op := Op.binOp BinOp.neq 4 (Operand.tmp 100) (Operand.tmp 103) 4, type := 4, pos := _, after := #[{ on := 7, ground := Ground.data }, { on := 10, ground := Ground.data }, { on := 2, ground := Ground.guard }], guard := some (2, true) }) (v := undef) rfl (by kernel_rfl) (by kernel_rfl) (by kernel_rfl) (by kernel_rfl) (fun _ _ _ h => h) (Or.inr ⟨by rfl, rfl⟩) (fun _ => by assumption) ?_
  try simp only [Act.put, List.setIfInBounds_toArray, List.set_cons_zero, List.set_cons_succ]
  refine wpAnyG_pure (i := 12) (oi := { dst := some 105, op := Op.pick (Operand.tmp 95) (Operand.tmp 104) (Operand.const (Value.bool false)), type := 4, pos := _, after := #[{ on := 2, ground := Ground.data }, { on := 11, ground := Ground.data }], guard := none }) (v := ?_) rfl (by kernel_rfl) (by kernel_rfl) (by kernel_rfl) (by kernel_rfl) (fun _ _ _ h => h) (Or.inl ⟨by rfl, ?_⟩) (fun _ => by assumption) ?_
  rotate_left
  · intro w hSw
    try dsimp only at hSw
    go_simp
    try with_reducible rfl
  try simp only [Act.put, List.setIfInBounds_toArray, List.set_cons_zero, List.set_cons_succ]
  refine wpAnyG_done (by kernel_rfl) ?_ _
  refine NoPanic.normal ?_
  have H15 := Lib.hid hHeld
  clear hHeld
  go_wp2_with fail
  refine (get_yes w14.drew A b b.length c rfl HL.out.1 HL.out.2.1 ((HI.out.2.2.2.below H15.out.2.2).up H15.out.2.2.size) (HI.out.1.keep H15.out.2.2) (by have := HL.out.2.2; omega) y HY.out).mono ?_
  rintro e v1 ⟨sy, rfl, hr, hb⟩
  have K1 := Lib.hid (And.intro (H15.out.keep hb) hr)
  clear hb hr
  go_wp2_with ((with_reducible show wpList _ _ _ ((⟨none, .store 27 (.tmp 17) (.tmp 109), _, _, _, _⟩ : Oper) :: _) _ _); refine wpList_store_msg v1 rfl (.tmp 17) (.tmp 109) rfl y sy rfl rfl ?_; intro v2 hB hW; have K2 := Lib.hid (And.intro (K1.out.1.keep hW) (And.intro (K1.out.2.keep hW) hB)); clear hB hW; obtain ⟨gy, hgy⟩ : ∃ x, v1.heap.size = x := ⟨_, rfl⟩; rw [hgy] at K2 ⊢; clear hgy; have cy0 := K2.out.2.2.cell 0; have cy1 := K2.out.2.2.cell 1; have cy2 := K2.out.2.2.cell 2; have cy3 := K2.out.2.2.cell 3; have cy4 := K2.out.2.2.cell 4; have cy5 := K2.out.2.2.cell 5; have cy6 := K2.out.2.2.cell 6; have cy7 := K2.out.2.2.cell 7; have cy8 := K2.out.2.2.cell 8; have cy9 := K2.out.2.2.cell 9; have cy10 := K2.out.2.2.cell 10; have cy11 := K2.out.2.2.cell 11; have cy12 := K2.out.2.2.cell 12; have cy13 := K2.out.2.2.cell 13; simp [mv] at cy0 cy1 cy2 cy3 cy4 cy5 cy6 cy7 cy8 cy9 cy10 cy11 cy12 cy13)
  refine (put_yes v2 y sy b (HI.out.1.keep K2.out.1.2.2) (K2.out.2.1.min (put_get HY.out).1) (put_get HY.out).1 (put_get HY.out).2).mono ?_
  rintro e v3 ⟨Az, cz, rfl, ho, hb⟩
  have K3 := Lib.hid (And.intro (next K2.out.1.2.2 hb) ho)
  clear hb ho cy0 cy1 cy2 cy3 cy4 cy5 cy6 cy7 cy8 cy9 cy10 cy11 cy12 cy13
  have ez := run_str (P := Tryd.prog) v3 25 5 Tryd.underlying25 Tryd.underlying5 K3.out.2.bytes cz 9 Tryd.underlying9
  have eb := run_str (P := Tryd.prog) v3 25 5 Tryd.underlying25 Tryd.underlying5 (HI.out.2.2.2.below K3.out.1) c 9 Tryd.underlying9
  go_wp2_with fail
  refine (works_any v3 (HI.out.1.keep K3.out.1)).mono ?_
  rintro e v4 ⟨rfl, hb⟩
  have K4 := Lib.hid (next K3.out.1 hb)
  clear hb ez eb
  go_wp2_with fail
  go_ret
  exact ⟨rfl, K4.out⟩
set_option maxRecDepth 100000 in
set_option maxHeartbeats 16000000 in
theorem back_yyn (w : World) (hT : HasT w) (m : Msg) (s : Sl) (hm : MIn0 w w.heap.size m s) (n : Msg) (t : Sl) (hn : MIn0 w w.heap.size n t) (A : Option Addr) (b : List UInt8) (c : Nat) (hle : b.length ≤ c) (hmx : c ≤ maxLen) (hb : Bytes w w.heap.size A b) (hf : few m = true) (hg : few n = true) (hbl : b.length ≤ 5000) (x : List UInt8) (hmm : may m = true) (hx : Wi.bytes m = x) (z : List UInt8) (hnn : may n = true) (hz : Wi.bytes n = z) (hy : Wi.get b = none) :
    Calls Tryd.prog 5 #[.agg (mv m s), .agg (mv n t), .slice A b.length c] w fun e w' => e = .returned (.bool true) ∧ Below w.heap.size w w' := by
  obtain ⟨bx, hbx⟩ : ∃ bx, w.heap.size = bx := ⟨_, rfl⟩
  obtain ⟨w1, hw1⟩ : ∃ x : World, (w.alloc (.cells (mv m s) 27)).alloc (.cells (mv n t) 27) = x := ⟨_, rfl⟩
  have H1 := Lib.hid (show Two w bx m s n t w1 by
    rw [← hw1, ← hbx]
    refine ⟨(Blk.new w _ _).keep (nextA (Mem.start _) _), ?_, nextA (nextA (Mem.start w) _) _⟩
    have := Blk.new (w.alloc (.cells (mv m s) 27)) 27 (mv n t)
    rw [World.size_alloc] at this; exact this)
  have HI := Lib.hid (And.intro hT (And.intro hm (And.intro hn hb)))
  have HF := Lib.hid (And.intro hf hg)
  have HM := Lib.hid (And.intro (hm.small hf) (hn.small hg))
  have HL := Lib.hid (And.intro hle (And.intro (maxle hmx) hbl))
  have dl : decide ((5000 : Int) < ((b.length : Nat) : Int)) = false := decide_eq_false (by omega)
  have HMM := Lib.hid (And.intro hmm hx)
  have HX := Lib.hid (show Wi.get x = some m ∧ Wi.get (x.take (x.length - 1)) = none ∧ Wi.get (x ++ [0]) = none by
    refine ⟨by rw [← hx]; exact get_put hmm, get_fewer hmm (by rw [← hx]; exact bytes_ne m) hx, by rw [← hx]; exact get_more hmm 0⟩)
  have hne : x ≠ [] := by rw [← hx]; exact bytes_ne m
  have hps := List.length_pos_iff.2 hne
  obtain ⟨k, hk⟩ : ∃ k, x.length = k + 1 := ⟨x.length - 1, by omega⟩
  have HK := Lib.hid (show x.length = k + 1 ∧ k + 1 ≤ 800000 by rw [← hk, ← hx]; exact ⟨rfl, bytes_le ((may_iff m).1 hmm)⟩)
  clear hmm hx hk hne hps
  have HNN := Lib.hid (And.intro hnn hz)
  obtain ⟨qq, hqq⟩ : ∃ qq, same m n = qq := ⟨_, rfl⟩
  have HQ := Lib.hid (show ((str x).toList == (str z).toList) = qq ∧ same m n = qq by
    refine ⟨?_, hqq⟩
    rw [← hqq, str_beq2, Bool.eq_iff_iff, decide_eq_true_iff, same_iff, ← HMM.out.2, ← hz]
    exact ⟨fun h => bytes_inj HMM.out.1 hnn h, fun h => by rw [h]⟩)
  clear hnn hz hqq
  have HY := Lib.hid hy
  clear hy
  have ca0 := H1.out.1.cell 0
  have ca1 := H1.out.1.cell 1
  have ca2 := H1.out.1.cell 2
  have ca3 := H1.out.1.cell 3
  have ca4 := H1.out.1.cell 4
  have ca5 := H1.out.1.cell 5
  have ca6 := H1.out.1.cell 6
  have ca7 := H1.out.1.cell 7
  have ca8 := H1.out.1.cell 8
  have ca9 := H1.out.1.cell 9
  have ca10 := H1.out.1.cell 10
  have ca11 := H1.out.1.cell 11
  have ca12 := H1.out.1.cell 12
  have ca13 := H1.out.1.cell 13
  simp [mv] at ca0 ca1 ca2 ca3 ca4 ca5 ca6 ca7 ca8 ca9 ca10 ca11 ca12 ca13
  clear hT hm hn hb hle hmx hf hg hbl
  go_enter Tryd.func5, Tryd.ntmps5
  go_wp2_with fail
  refine (few_any w1 m s (HI.out.2.1.keep H1.out.2.2)).mono ?_
  rintro e w2 ⟨rfl, hb⟩
  rw [HF.out.1]
  have H2 := Lib.hid (H1.out.keep hb)
  clear hb ca0 ca1 ca2 ca3 ca4 ca5 ca6 ca7 ca8 ca9 ca10 ca11 ca12 ca13 hw1 hbx
  have cb0 := H2.out.2.1.cell 0
  have cb1 := H2.out.2.1.cell 1
  have cb2 := H2.out.2.1.cell 2
  have cb3 := H2.out.2.1.cell 3
  have cb4 := H2.out.2.1.cell 4
  have cb5 := H2.out.2.1.cell 5
  have cb6 := H2.out.2.1.cell 6
  have cb7 := H2.out.2.1.cell 7
  have cb8 := H2.out.2.1.cell 8
  have cb9 := H2.out.2.1.cell 9
  have cb10 := H2.out.2.1.cell 10
  have cb11 := H2.out.2.1.cell 11
  have cb12 := H2.out.2.1.cell 12
  have cb13 := H2.out.2.1.cell 13
  simp [mv] at cb0 cb1 cb2 cb3 cb4 cb5 cb6 cb7 cb8 cb9 cb10 cb11 cb12 cb13
  go_wp2_with fail
  refine (few_any w2 n t (HI.out.2.2.1.keep H2.out.2.2)).mono ?_
  rintro e w3 ⟨rfl, hb⟩
  rw [HF.out.2]
  have H3 := Lib.hid (H2.out.keep hb)
  clear hb cb0 cb1 cb2 cb3 cb4 cb5 cb6 cb7 cb8 cb9 cb10 cb11 cb12 cb13
  have cc0 := H3.out.1.cell 0
  have cc1 := H3.out.1.cell 1
  have cc2 := H3.out.1.cell 2
  have cc3 := H3.out.1.cell 3
  have cc4 := H3.out.1.cell 4
  have cc5 := H3.out.1.cell 5
  have cc6 := H3.out.1.cell 6
  have cc7 := H3.out.1.cell 7
  have cc8 := H3.out.1.cell 8
  have cc9 := H3.out.1.cell 9
  have cc10 := H3.out.1.cell 10
  have cc11 := H3.out.1.cell 11
  have cc12 := H3.out.1.cell 12
  have cc13 := H3.out.1.cell 13
  simp [mv] at cc0 cc1 cc2 cc3 cc4 cc5 cc6 cc7 cc8 cc9 cc10 cc11 cc12 cc13
  go_wp2_with fail
  refine (put_yes w3 m s x (HI.out.1.keep H3.out.2.2) (HM.out.1.keep H3.out.2.2) HMM.out.1 HMM.out.2).mono ?_
  rintro e w4 ⟨A1, c1, rfl, ho, hb⟩
  rw [HK.out.1]
  have hl1 := ho.le
  have hl2 := ho.max
  rw [List.length_map, HK.out.1] at hl1
  have HC1 := Lib.hid (And.intro hl1 (maxle hl2))
  have H4 := Lib.hid (And.intro (H3.out.keep hb) ho)
  clear hb ho cc0 cc1 cc2 cc3 cc4 cc5 cc6 cc7 cc8 cc9 cc10 cc11 cc12 cc13 hl1 hl2
  have hk8 : (k : Int) ≤ 800000 := by have := HK.out.2; omega
  have hk0 : (0 : Int) ≤ (k : Int) := by omega
  have e0 : (((k : Int) + 1) == 0) = false := by rw [beq_eq_false_iff_ne]; omega
  have e1 : (k + 1 == 0) = false := by rw [beq_eq_false_iff_ne]; omega
  have hkc : (k : Int) ≤ (c1 : Int) := by have := HC1.out.1; omega
  have hcm : (c1 : Int) ≤ 9223372036854775807 := by have := HC1.out.2; omega
  go_wp2_with fail
  refine (get_yes w4 A1 x (k + 1) c1 HK.out.1.symm HC1.out.1 HC1.out.2 H4.out.2.bytes (HI.out.1.keep H4.out.1.2.2) (by rw [HK.out.1]; have := HK.out.2; omega) m HX.out.1).mono ?_
  rintro e w5 ⟨s1, rfl, hr, hb⟩
  have H5 := Lib.hid (And.intro (H4.out.1.keep hb) (And.intro (H4.out.2.keep hb) hr))
  clear hb hr e0 e1
  go_wp2_with ((with_reducible show wpList _ _ _ ((⟨none, .store 27 (.tmp 9) (.tmp 52), _, _, _, _⟩ : Oper) :: _) _ _); refine wpList_store_msg w5 rfl (.tmp 9) (.tmp 52) rfl (m) s1 rfl rfl ?_; intro w6 hB hW; have H6 := Lib.hid (And.intro (H5.out.1.keep hW) (And.intro (H5.out.2.1.keep hW) (And.intro (H5.out.2.2.keep hW) hB))); clear hB hW; obtain ⟨g1, hg1⟩ : ∃ x, w5.heap.size = x := ⟨_, rfl⟩; rw [hg1] at H6 ⊢; clear hg1)
  refine (get_no w6 A1 (x.take k) k c1 (by rw [List.length_take, HK.out.1]; omega) (by have := HC1.out.1; omega) HC1.out.2 (H6.out.2.1.bytes.take k) (HI.out.1.keep H6.out.1.2.2) (by rw [List.length_take, HK.out.1]; have := HK.out.2; omega) (by have := HX.out.2.1; rw [HK.out.1] at this; exact this)).mono ?_
  rintro e w7 ⟨rfl, hb⟩
  have H7 := Lib.hid (And.intro (H6.out.1.keep hb) (And.intro (H6.out.2.1.keep hb) (And.intro (H6.out.2.2.1.keep hb) (H6.out.2.2.2.keep hb))))
  clear hb
  obtain ⟨i0, hi0, hz0, hz1, hz2⟩ := info_parts u8info17
  go_wp2_with (first
    | ((with_reducible show wpList _ _ _ ((⟨none, _, _, _, _, _⟩ : Oper) :: _) _ _); refine wpList_store_msg w7 rfl (.tmp 11) (.tmp 61) rfl mz s0 rfl rfl ?_; intro w8 hB hW; have H8 := Lib.hid (And.intro (H7.out.1.keep hW) (And.intro (H7.out.2.1.keep hW) (And.intro (H7.out.2.2.1.keep hW) (H7.out.2.2.2.keep hW)))); clear hB hW; have ex := run_str (P := Tryd.prog) w8 25 5 Tryd.underlying25 Tryd.underlying5 H8.out.2.1.bytes c1 9 Tryd.underlying9; rw [HK.out.1] at ex)
    | ((with_reducible show wpList _ _ _ ((⟨some 66, _, _, _, _, _⟩ : Oper) :: _) _ _); refine wpList_bytesOfB w8 (by rfl) 9 25 (.tmp 65) rfl 5 Tryd.underlying9 Tryd.underlying25 Tryd.underlying5 x (by rw [HK.out.1]; have := HK.out.2; unfold maxLen; omega) rfl ?_; intro ck w9 hck hr hbl hs; rw [HK.out.1] at hck ⊢; have H9 := Lib.hid (And.intro hck (And.intro hr hbl)); clear hck hr hbl hs; obtain ⟨g3, hg3⟩ : ∃ q, w8.heap.size = q := ⟨_, rfl⟩; rw [hg3] at H9 ⊢; have HG3 := Lib.hid hg3; clear hg3)
    | ((with_reducible show wpList _ _ _ ((⟨some 68, _, _, _, _, _⟩ : Oper) :: _) _ _); refine wpList_app1m _ rfl (.tmp 66) (.tmp 67) 25 5 rfl i0 _ 1 Tryd.underlying25 hi0 hz0 hz1 hz2 rfl g3 (k + 1) ck (x.map u8v) rfl (by rw [List.length_map]; exact HK.out.1) (H9.out.2.1.keep (nextA (Mem.start w9) _)) ⟨w9.heap.size, 0, none⟩ 1 (.int .u8 0) rfl (by rw [new_cell]; rfl) rfl (by have := HK.out.2; unfold maxLen; omega) (by have := HK.out.2; omega) ?_; intro A4 c4 w10 hc4 hcc4 hcm4 hb10; have hw8 : Below w8.heap.size w8 w10 := (by have h9 := H9.out.2.2; have h10 := (nextA (Mem.start w9) (.cells #[.int .u8 0] 5)).mono (show g3 ≤ w9.heap.size from by have := h9.size; have := HG3.out; omega); rw [HG3.out]; exact (h9.trans h10).trans hb10); have HA4 := Lib.hid (show Bytes w10 w10.heap.size A4 (x ++ [0]) ∧ k + 1 + 1 ≤ c4 ∧ c4 ≤ maxLen from ⟨by have e : (x ++ [0]).map u8v = x.map u8v ++ [.int .u8 0] := (by rw [List.map_append]; rfl); unfold Bytes; rw [e]; exact hc4, hcc4, hcm4⟩); have H10 := Lib.hid (And.intro (H8.out.1.keep hw8) (And.intro (H8.out.2.1.keep hw8) (And.intro (H8.out.2.2.1.keep hw8) (H8.out.2.2.2.keep hw8)))); clear hc4 hcc4 hcm4 hb10 hw8))
  refine (get_no w10 A4 (x ++ [0]) (k + 1 + 1) c4 (by rw [List.length_append, HK.out.1]; rfl) HA4.out.2.1 (maxle HA4.out.2.2) HA4.out.1 (HI.out.1.keep H10.out.1.2.2) (by rw [List.length_append, HK.out.1]; have := HK.out.2; simp; omega) HX.out.2.2).mono ?_
  rintro e w11 ⟨rfl, hb⟩
  have H11 := Lib.hid (And.intro (H10.out.1.keep hb) (And.intro (H10.out.2.1.keep hb) (And.intro (H10.out.2.2.1.keep hb) (H10.out.2.2.2.keep hb))))
  clear hb ex hi0 hz0 hz1 hz2
  go_wp2_with ((with_reducible show wpList _ _ _ ((⟨none, _, _, _, _, _⟩ : Oper) :: _) _ _); refine wpList_store_msg w11 rfl (.tmp 13) (.tmp 70) rfl mz s0 rfl rfl ?_; intro w12 hB hW; have H12 := Lib.hid (And.intro (H11.out.1.keep hW) (And.intro (H11.out.2.1.keep hW) (And.intro (H11.out.2.2.1.keep hW) (H11.out.2.2.2.keep hW)))); clear hB hW; have ca0 := H12.out.1.1.cell 0; have ca1 := H12.out.1.1.cell 1; have ca2 := H12.out.1.1.cell 2; have ca3 := H12.out.1.1.cell 3; have ca4 := H12.out.1.1.cell 4; have ca5 := H12.out.1.1.cell 5; have ca6 := H12.out.1.1.cell 6; have ca7 := H12.out.1.1.cell 7; have ca8 := H12.out.1.1.cell 8; have ca9 := H12.out.1.1.cell 9; have ca10 := H12.out.1.1.cell 10; have ca11 := H12.out.1.1.cell 11; have ca12 := H12.out.1.1.cell 12; have ca13 := H12.out.1.1.cell 13; simp [mv] at ca0 ca1 ca2 ca3 ca4 ca5 ca6 ca7 ca8 ca9 ca10 ca11 ca12 ca13; have cg0 := H12.out.2.2.2.cell 0; have cg1 := H12.out.2.2.2.cell 1; have cg2 := H12.out.2.2.2.cell 2; have cg3 := H12.out.2.2.2.cell 3; have cg4 := H12.out.2.2.2.cell 4; have cg5 := H12.out.2.2.2.cell 5; have cg6 := H12.out.2.2.2.cell 6; have cg7 := H12.out.2.2.2.cell 7; have cg8 := H12.out.2.2.2.cell 8; have cg9 := H12.out.2.2.2.cell 9; have cg10 := H12.out.2.2.2.cell 10; have cg11 := H12.out.2.2.2.cell 11; have cg12 := H12.out.2.2.2.cell 12; have cg13 := H12.out.2.2.2.cell 13; simp [mv] at cg0 cg1 cg2 cg3 cg4 cg5 cg6 cg7 cg8 cg9 cg10 cg11 cg12 cg13)
  refine (same_any w12 m m s s1 (HM.out.1.keep H12.out.1.2.2) (H12.out.2.2.1.min HMM.out.1)).mono ?_
  rintro e w13 ⟨rfl, hb⟩
  rw [same_refl]
  have H13 := Lib.hid (And.intro (H12.out.1.keep hb) (H12.out.2.1.keep hb))
  clear hb ca0 ca1 ca2 ca3 ca4 ca5 ca6 ca7 ca8 ca9 ca10 ca11 ca12 ca13 cg0 cg1 cg2 cg3 cg4 cg5 cg6 cg7 cg8 cg9 cg10 cg11 cg12 cg13
  have cb0 := H13.out.1.2.1.cell 0
  have cb1 := H13.out.1.2.1.cell 1
  have cb2 := H13.out.1.2.1.cell 2
  have cb3 := H13.out.1.2.1.cell 3
  have cb4 := H13.out.1.2.1.cell 4
  have cb5 := H13.out.1.2.1.cell 5
  have cb6 := H13.out.1.2.1.cell 6
  have cb7 := H13.out.1.2.1.cell 7
  have cb8 := H13.out.1.2.1.cell 8
  have cb9 := H13.out.1.2.1.cell 9
  have cb10 := H13.out.1.2.1.cell 10
  have cb11 := H13.out.1.2.1.cell 11
  have cb12 := H13.out.1.2.1.cell 12
  have cb13 := H13.out.1.2.1.cell 13
  simp [mv] at cb0 cb1 cb2 cb3 cb4 cb5 cb6 cb7 cb8 cb9 cb10 cb11 cb12 cb13
  go_wp2_with fail
  refine (put_yes w13 n t z (HI.out.1.keep H13.out.1.2.2) (HM.out.2.keep H13.out.1.2.2) HNN.out.1 HNN.out.2).mono ?_
  rintro e w14 ⟨A6, c6, rfl, ho, hb⟩
  have H14 := Lib.hid (And.intro (H13.out.1.keep hb) (And.intro (H13.out.2.keep hb) ho))
  clear hb ho cb0 cb1 cb2 cb3 cb4 cb5 cb6 cb7 cb8 cb9 cb10 cb11 cb12 cb13
  go_wp2_with fail
  refine wp_region_noPanic ?_
  refine wp_heldG (fun V => Two w bx m s n t V ∧ Mem.Own V w3.heap.size 5 A1 c1 (x.map u8v) ∧ Mem.Own V w13.heap.size 5 A6 c6 (z.map u8v)) [] (by kernel_rfl) ?hs0 ?rg0
  case hs0 =>
    exact ⟨H14.out.1.keep (nextN (Mem.start _) 1), H14.out.2.1.keep (nextN (Mem.start _) 1), H14.out.2.2.keep (nextN (Mem.start _) 1)⟩
  case rg0 =>
  intro hHeld
  refine wpAnyG_pure (i := 0) (oi := { dst := some 93, op := Op.move (Operand.tmp 16), type := 22, pos := _, after := #[], guard := none }) (v := ?_) rfl (by kernel_rfl) (by kernel_rfl) (by kernel_rfl) (by kernel_rfl) (fun _ _ _ h => h) (Or.inl ⟨by rfl, ?_⟩) (fun _ => by assumption) ?_
  rotate_left
  · intro w hSw
    try dsimp only at hSw
    go_simp
    try with_reducible rfl
  try simp only [Act.put, List.setIfInBounds_toArray, List.set_cons_zero, List.set_cons_succ]
  refine wpAnyG_pure (i := 1) (oi := { dst := some 94, op := Op.binOp BinOp.eql 22 (Operand.tmp 93) (Operand.const (Value.int IntKind.i64 0)) 22, type := 4, pos := _, after := #[{ on := 0, ground := Ground.data }], guard := none }) (v := ?_) rfl (by kernel_rfl) (by kernel_rfl) (by kernel_rfl) (by kernel_rfl) (fun _ _ _ h => h) (Or.inl ⟨by rfl, ?_⟩) (fun _ => by assumption) ?_
  rotate_left
  · intro w hSw
    try dsimp only at hSw
    go_simp
    try with_reducible rfl
  try simp only [Act.put, List.setIfInBounds_toArray, List.set_cons_zero, List.set_cons_succ]
  refine wpAnyG_pure (i := 2) (oi := { dst := some 95, op := Op.move (Operand.tmp 94), type := 4, pos := _, after := #[{ on := 1, ground := Ground.data }], guard := none }) (v := ?_) rfl (by kernel_rfl) (by kernel_rfl) (by kernel_rfl) (by kernel_rfl) (fun _ _ _ h => h) (Or.inl ⟨by rfl, ?_⟩) (fun _ => by assumption) ?_
  rotate_left
  · intro w hSw
    try dsimp only at hSw
    go_simp
    try with_reducible rfl
  try simp only [Act.put, List.setIfInBounds_toArray, List.set_cons_zero, List.set_cons_succ]
  refine wpAnyG_pure (i := 3) (oi := { dst := some 96, op := Op.move (Operand.tmp 7), type := 25, pos := _, after := #[{ on := 2, ground := Ground.guard }], guard := some (2, true) }) (v := ?_) rfl (by kernel_rfl) (by kernel_rfl) (by kernel_rfl) (by kernel_rfl) (fun _ _ _ h => h) (Or.inl ⟨by rfl, ?_⟩) (fun _ => by assumption) ?_
  rotate_left
  · intro w hSw
    try dsimp only at hSw
    go_simp
    try with_reducible rfl
  try simp only [Act.put, List.setIfInBounds_toArray, List.set_cons_zero, List.set_cons_succ]
  refine wpAnyG_take (i := 4) (oi := { dst := some 97, op := Op.convert 25 9 (Operand.tmp 96), type := 9, pos := _, after := #[{ on := 3, ground := Ground.data }, { on := 2, ground := Ground.guard }], guard := some (2, true) }) (v := ?_) rfl (by kernel_rfl) (by kernel_rfl) (by kernel_rfl) (by kernel_rfl) (fun _ _ _ h => h) (Or.inl ⟨by rfl, ?_⟩) (by assumption) ?_
  rotate_left
  · intro w hSw
    try dsimp only at hSw
    have ex := run_str (P := Tryd.prog) w 25 5 Tryd.underlying25 Tryd.underlying5 hSw.2.1.bytes c1 9 Tryd.underlying9
    rw [HK.out.1] at ex
    go_simp
    try with_reducible rfl
  try simp only [Act.put, List.setIfInBounds_toArray, List.set_cons_zero, List.set_cons_succ]
  refine wpAnyG_pure (i := 5) (oi := { dst := some 98, op := Op.move (Operand.tmp 15), type := 25, pos := _, after := #[{ on := 2, ground := Ground.guard }], guard := some (2, true) }) (v := ?_) rfl (by kernel_rfl) (by kernel_rfl) (by kernel_rfl) (by kernel_rfl) (fun _ _ _ h => h) (Or.inl ⟨by rfl, ?_⟩) (fun _ => by assumption) ?_
  rotate_left
  · intro w hSw
    try dsimp only at hSw
    go_simp
    try with_reducible rfl
  try simp only [Act.put, List.setIfInBounds_toArray, List.set_cons_zero, List.set_cons_succ]
  refine wpAnyG_take (i := 6) (oi := { dst := some 99, op := Op.convert 25 9 (Operand.tmp 98), type := 9, pos := _, after := #[{ on := 5, ground := Ground.data }, { on := 2, ground := Ground.guard }], guard := some (2, true) }) (v := ?_) rfl (by kernel_rfl) (by kernel_rfl) (by kernel_rfl) (by kernel_rfl) (fun _ _ _ h => h) (Or.inl ⟨by rfl, ?_⟩) (by assumption) ?_
  rotate_left
  · intro w hSw
    try dsimp only at hSw
    have ex := run_str (P := Tryd.prog) w 25 5 Tryd.underlying25 Tryd.underlying5 hSw.2.2.bytes c6 9 Tryd.underlying9
    go_simp
    try with_reducible rfl
  try simp only [Act.put, List.setIfInBounds_toArray, List.set_cons_zero, List.set_cons_succ]
  refine wpAnyG_pure (i := 7) (oi := { dst := some 100, op := Op.binOp BinOp.eql 9 (Operand.tmp 97) (Operand.tmp 99) 9, type := 4, pos := _, after := #[{ on := 4, ground := Ground.data }, { on := 6, ground := Ground.data }, { on := 2, ground := Ground.guard }], guard := some (2, true) }) (v := ?_) rfl (by kernel_rfl) (by kernel_rfl) (by kernel_rfl) (by kernel_rfl) (fun _ _ _ h => h) (Or.inl ⟨by rfl, ?_⟩) (fun _ => by assumption) ?_
  rotate_left
  · intro w hSw
    try dsimp only at hSw
    have hq := HQ.out.1
    go_simp
    try with_reducible rfl
  try simp only [Act.put, List.setIfInBounds_toArray, List.set_cons_zero, List.set_cons_succ]
  refine wpAnyG_take (i := 8) (oi := { dst := some 101, op := Op.load 27 (Operand.tmp 3), type := 27, pos := _, after := #[{ on := 2, ground := Ground.guard }], guard := some (2, true) }) (v := ?_) rfl (by kernel_rfl) (by kernel_rfl) (by kernel_rfl) (by kernel_rfl) (fun _ _ _ h => h) (Or.inl ⟨by rfl, ?_⟩) (by assumption) ?_
  rotate_left
  · intro w hSw
    try dsimp only at hSw
    refine exec_load 27 (.tmp 3) ?_ _ ?_ (.agg (mv m s)) (load_msg hSw.1.1)
    · rfl
    · rfl
  try simp only [Act.put, List.setIfInBounds_toArray, List.set_cons_zero, List.set_cons_succ]
  refine wpAnyG_take (i := 9) (oi := { dst := some 102, op := Op.load 27 (Operand.tmp 4), type := 27, pos := _, after := #[{ on := 2, ground := Ground.guard }], guard := some (2, true) }) (v := ?_) rfl (by kernel_rfl) (by kernel_rfl) (by kernel_rfl) (by kernel_rfl) (fun _ _ _ h => h) (Or.inl ⟨by rfl, ?_⟩) (by assumption) ?_
  rotate_left
  · intro w hSw
    try dsimp only at hSw
    refine exec_load 27 (.tmp 4) ?_ _ ?_ (.agg (mv n t)) (load_msg hSw.1.2.1)
    · rfl
    · rfl
  try simp only [Act.put, List.setIfInBounds_toArray, List.set_cons_zero, List.set_cons_succ]
  refine wpAnyG_one (i := 10) (o := { dst := some 103, op := Op.call { callee := Callee.value (Operand.func 18), args := #[Operand.tmp 101, Operand.tmp 102], argTypes := #[27, 27] }, type := 4, pos := _, after := #[{ on := 8, ground := Ground.data }, { on := 9, ground := Ground.data }, { on := 2, ground := Ground.chain }, { on := 2, ground := Ground.guard }], guard := some (2, true) }) (by kernel_rfl) rfl (fun K hK => ?_)
  go_simp
  refine (same_any _ _ _ _ _ (HM.out.1.keep hHeld.1.2.2) (HM.out.2.keep hHeld.1.2.2)).mono ?_
  rintro e w15 ⟨rfl, hb⟩
  rw [HQ.out.2]
  try dsimp only
  refine hK.out _ _ ?_ (fun hHeld => ?_)
  · intro _
    try dsimp only
    exact ⟨hHeld.1.keep hb, hHeld.2.1.keep hb, hHeld.2.2.keep hb⟩
  clear hK K
  try simp only [Act.put, List.setIfInBounds_toArray, List.set_cons_zero, List.set_cons_succ]
  have hHeld := hHeld (by kernel_rfl)
  refine wpAnyG_pure (i := 11) (oi := { dst := some 104, op := Op.binOp BinOp.neq 4 (Operand.tmp 100) (Operand.tmp 103) 4, type := 4, pos := _, after := #[{ on := 7, ground := Ground.data }, { on := 10, ground := Ground.data }, { on := 2, ground := Ground.guard }], guard := some (2, true) }) (v := ?_) rfl (by kernel_rfl) (by kernel_rfl) (by kernel_rfl) (by kernel_rfl) (fun _ _ _ h => h) (Or.inl ⟨by rfl, ?_⟩) (fun _ => by assumption) ?_
  rotate_left
  · intro w hSw
    try dsimp only at hSw
    go_simp
    try with_reducible rfl
  try simp only [Act.put, List.setIfInBounds_toArray, List.set_cons_zero, List.set_cons_succ]
  refine wpAnyG_pure (i := 12) (oi := { dst := some 105, op := Op.pick (Operand.tmp 95) (Operand.tmp 104) (Operand.const (Value.bool false)), type := 4, pos := _, after := #[{ on := 2, ground := Ground.data }, { on := 11, ground := Ground.data }], guard := none }) (v := ?_) rfl (by kernel_rfl) (by kernel_rfl) (by kernel_rfl) (by kernel_rfl) (fun _ _ _ h => h) (Or.inl ⟨by rfl, ?_⟩) (fun _ => by assumption) ?_
  rotate_left
  · intro w hSw
    try dsimp only at hSw
    go_simp
    try with_reducible rfl
  try simp only [Act.put, List.setIfInBounds_toArray, List.set_cons_zero, List.set_cons_succ]
  refine wpAnyG_done (by kernel_rfl) ?_ _
  refine NoPanic.normal ?_
  have H15 := Lib.hid hHeld.1
  clear hHeld
  go_wp2_with fail
  refine (get_no w15 A b b.length c rfl HL.out.1 HL.out.2.1 ((HI.out.2.2.2.below H15.out.2.2).up H15.out.2.2.size) (HI.out.1.keep H15.out.2.2) (by have := HL.out.2.2; omega) HY.out).mono ?_
  rintro e v1 ⟨rfl, hb⟩
  have K1 := Lib.hid (H15.out.keep hb)
  clear hb
  go_wp2_with ((with_reducible show wpList _ _ _ ((⟨none, .store 27 (.tmp 17) (.tmp 109), _, _, _, _⟩ : Oper) :: _) _ _); refine wpList_store_msg v1 rfl (.tmp 17) (.tmp 109) rfl mz s0 rfl rfl ?_; intro v2 hB hW; have K2 := Lib.hid (K1.out.keep hW); clear hB hW)
  refine (works_any v2 (HI.out.1.keep K2.out.2.2)).mono ?_
  rintro e v3 ⟨rfl, hb⟩
  have K3 := Lib.hid (next K2.out.2.2 hb)
  clear hb
  go_wp2_with fail
  go_ret
  exact ⟨rfl, K3.out⟩
set_option maxRecDepth 100000 in
set_option maxHeartbeats 16000000 in
theorem back_yyy (w : World) (hT : HasT w) (m : Msg) (s : Sl) (hm : MIn0 w w.heap.size m s) (n : Msg) (t : Sl) (hn : MIn0 w w.heap.size n t) (A : Option Addr) (b : List UInt8) (c : Nat) (hle : b.length ≤ c) (hmx : c ≤ maxLen) (hb : Bytes w w.heap.size A b) (hf : few m = true) (hg : few n = true) (hbl : b.length ≤ 5000) (x : List UInt8) (hmm : may m = true) (hx : Wi.bytes m = x) (z : List UInt8) (hnn : may n = true) (hz : Wi.bytes n = z) (y : Msg) (hy : Wi.get b = some y) :
    Calls Tryd.prog 5 #[.agg (mv m s), .agg (mv n t), .slice A b.length c] w fun e w' => e = .returned (.bool true) ∧ Below w.heap.size w w' := by
  obtain ⟨bx, hbx⟩ : ∃ bx, w.heap.size = bx := ⟨_, rfl⟩
  obtain ⟨w1, hw1⟩ : ∃ x : World, (w.alloc (.cells (mv m s) 27)).alloc (.cells (mv n t) 27) = x := ⟨_, rfl⟩
  have H1 := Lib.hid (show Two w bx m s n t w1 by
    rw [← hw1, ← hbx]
    refine ⟨(Blk.new w _ _).keep (nextA (Mem.start _) _), ?_, nextA (nextA (Mem.start w) _) _⟩
    have := Blk.new (w.alloc (.cells (mv m s) 27)) 27 (mv n t)
    rw [World.size_alloc] at this; exact this)
  have HI := Lib.hid (And.intro hT (And.intro hm (And.intro hn hb)))
  have HF := Lib.hid (And.intro hf hg)
  have HM := Lib.hid (And.intro (hm.small hf) (hn.small hg))
  have HL := Lib.hid (And.intro hle (And.intro (maxle hmx) hbl))
  have dl : decide ((5000 : Int) < ((b.length : Nat) : Int)) = false := decide_eq_false (by omega)
  have HMM := Lib.hid (And.intro hmm hx)
  have HX := Lib.hid (show Wi.get x = some m ∧ Wi.get (x.take (x.length - 1)) = none ∧ Wi.get (x ++ [0]) = none by
    refine ⟨by rw [← hx]; exact get_put hmm, get_fewer hmm (by rw [← hx]; exact bytes_ne m) hx, by rw [← hx]; exact get_more hmm 0⟩)
  have hne : x ≠ [] := by rw [← hx]; exact bytes_ne m
  have hps := List.length_pos_iff.2 hne
  obtain ⟨k, hk⟩ : ∃ k, x.length = k + 1 := ⟨x.length - 1, by omega⟩
  have HK := Lib.hid (show x.length = k + 1 ∧ k + 1 ≤ 800000 by rw [← hk, ← hx]; exact ⟨rfl, bytes_le ((may_iff m).1 hmm)⟩)
  clear hmm hx hk hne hps
  have HNN := Lib.hid (And.intro hnn hz)
  obtain ⟨qq, hqq⟩ : ∃ qq, same m n = qq := ⟨_, rfl⟩
  have HQ := Lib.hid (show ((str x).toList == (str z).toList) = qq ∧ same m n = qq by
    refine ⟨?_, hqq⟩
    rw [← hqq, str_beq2, Bool.eq_iff_iff, decide_eq_true_iff, same_iff, ← HMM.out.2, ← hz]
    exact ⟨fun h => bytes_inj HMM.out.1 hnn h, fun h => by rw [h]⟩)
  clear hnn hz hqq
  have HY := Lib.hid hy
  clear hy
  have ca0 := H1.out.1.cell 0
  have ca1 := H1.out.1.cell 1
  have ca2 := H1.out.1.cell 2
  have ca3 := H1.out.1.cell 3
  have ca4 := H1.out.1.cell 4
  have ca5 := H1.out.1.cell 5
  have ca6 := H1.out.1.cell 6
  have ca7 := H1.out.1.cell 7
  have ca8 := H1.out.1.cell 8
  have ca9 := H1.out.1.cell 9
  have ca10 := H1.out.1.cell 10
  have ca11 := H1.out.1.cell 11
  have ca12 := H1.out.1.cell 12
  have ca13 := H1.out.1.cell 13
  simp [mv] at ca0 ca1 ca2 ca3 ca4 ca5 ca6 ca7 ca8 ca9 ca10 ca11 ca12 ca13
  clear hT hm hn hb hle hmx hf hg hbl
  go_enter Tryd.func5, Tryd.ntmps5
  go_wp2_with fail
  refine (few_any w1 m s (HI.out.2.1.keep H1.out.2.2)).mono ?_
  rintro e w2 ⟨rfl, hb⟩
  rw [HF.out.1]
  have H2 := Lib.hid (H1.out.keep hb)
  clear hb ca0 ca1 ca2 ca3 ca4 ca5 ca6 ca7 ca8 ca9 ca10 ca11 ca12 ca13 hw1 hbx
  have cb0 := H2.out.2.1.cell 0
  have cb1 := H2.out.2.1.cell 1
  have cb2 := H2.out.2.1.cell 2
  have cb3 := H2.out.2.1.cell 3
  have cb4 := H2.out.2.1.cell 4
  have cb5 := H2.out.2.1.cell 5
  have cb6 := H2.out.2.1.cell 6
  have cb7 := H2.out.2.1.cell 7
  have cb8 := H2.out.2.1.cell 8
  have cb9 := H2.out.2.1.cell 9
  have cb10 := H2.out.2.1.cell 10
  have cb11 := H2.out.2.1.cell 11
  have cb12 := H2.out.2.1.cell 12
  have cb13 := H2.out.2.1.cell 13
  simp [mv] at cb0 cb1 cb2 cb3 cb4 cb5 cb6 cb7 cb8 cb9 cb10 cb11 cb12 cb13
  go_wp2_with fail
  refine (few_any w2 n t (HI.out.2.2.1.keep H2.out.2.2)).mono ?_
  rintro e w3 ⟨rfl, hb⟩
  rw [HF.out.2]
  have H3 := Lib.hid (H2.out.keep hb)
  clear hb cb0 cb1 cb2 cb3 cb4 cb5 cb6 cb7 cb8 cb9 cb10 cb11 cb12 cb13
  have cc0 := H3.out.1.cell 0
  have cc1 := H3.out.1.cell 1
  have cc2 := H3.out.1.cell 2
  have cc3 := H3.out.1.cell 3
  have cc4 := H3.out.1.cell 4
  have cc5 := H3.out.1.cell 5
  have cc6 := H3.out.1.cell 6
  have cc7 := H3.out.1.cell 7
  have cc8 := H3.out.1.cell 8
  have cc9 := H3.out.1.cell 9
  have cc10 := H3.out.1.cell 10
  have cc11 := H3.out.1.cell 11
  have cc12 := H3.out.1.cell 12
  have cc13 := H3.out.1.cell 13
  simp [mv] at cc0 cc1 cc2 cc3 cc4 cc5 cc6 cc7 cc8 cc9 cc10 cc11 cc12 cc13
  go_wp2_with fail
  refine (put_yes w3 m s x (HI.out.1.keep H3.out.2.2) (HM.out.1.keep H3.out.2.2) HMM.out.1 HMM.out.2).mono ?_
  rintro e w4 ⟨A1, c1, rfl, ho, hb⟩
  rw [HK.out.1]
  have hl1 := ho.le
  have hl2 := ho.max
  rw [List.length_map, HK.out.1] at hl1
  have HC1 := Lib.hid (And.intro hl1 (maxle hl2))
  have H4 := Lib.hid (And.intro (H3.out.keep hb) ho)
  clear hb ho cc0 cc1 cc2 cc3 cc4 cc5 cc6 cc7 cc8 cc9 cc10 cc11 cc12 cc13 hl1 hl2
  have hk8 : (k : Int) ≤ 800000 := by have := HK.out.2; omega
  have hk0 : (0 : Int) ≤ (k : Int) := by omega
  have e0 : (((k : Int) + 1) == 0) = false := by rw [beq_eq_false_iff_ne]; omega
  have e1 : (k + 1 == 0) = false := by rw [beq_eq_false_iff_ne]; omega
  have hkc : (k : Int) ≤ (c1 : Int) := by have := HC1.out.1; omega
  have hcm : (c1 : Int) ≤ 9223372036854775807 := by have := HC1.out.2; omega
  go_wp2_with fail
  refine (get_yes w4 A1 x (k + 1) c1 HK.out.1.symm HC1.out.1 HC1.out.2 H4.out.2.bytes (HI.out.1.keep H4.out.1.2.2) (by rw [HK.out.1]; have := HK.out.2; omega) m HX.out.1).mono ?_
  rintro e w5 ⟨s1, rfl, hr, hb⟩
  have H5 := Lib.hid (And.intro (H4.out.1.keep hb) (And.intro (H4.out.2.keep hb) hr))
  clear hb hr e0 e1
  go_wp2_with ((with_reducible show wpList _ _ _ ((⟨none, .store 27 (.tmp 9) (.tmp 52), _, _, _, _⟩ : Oper) :: _) _ _); refine wpList_store_msg w5 rfl (.tmp 9) (.tmp 52) rfl (m) s1 rfl rfl ?_; intro w6 hB hW; have H6 := Lib.hid (And.intro (H5.out.1.keep hW) (And.intro (H5.out.2.1.keep hW) (And.intro (H5.out.2.2.keep hW) hB))); clear hB hW; obtain ⟨g1, hg1⟩ : ∃ x, w5.heap.size = x := ⟨_, rfl⟩; rw [hg1] at H6 ⊢; clear hg1)
  refine (get_no w6 A1 (x.take k) k c1 (by rw [List.length_take, HK.out.1]; omega) (by have := HC1.out.1; omega) HC1.out.2 (H6.out.2.1.bytes.take k) (HI.out.1.keep H6.out.1.2.2) (by rw [List.length_take, HK.out.1]; have := HK.out.2; omega) (by have := HX.out.2.1; rw [HK.out.1] at this; exact this)).mono ?_
  rintro e w7 ⟨rfl, hb⟩
  have H7 := Lib.hid (And.intro (H6.out.1.keep hb) (And.intro (H6.out.2.1.keep hb) (And.intro (H6.out.2.2.1.keep hb) (H6.out.2.2.2.keep hb))))
  clear hb
  obtain ⟨i0, hi0, hz0, hz1, hz2⟩ := info_parts u8info17
  go_wp2_with (first
    | ((with_reducible show wpList _ _ _ ((⟨none, _, _, _, _, _⟩ : Oper) :: _) _ _); refine wpList_store_msg w7 rfl (.tmp 11) (.tmp 61) rfl mz s0 rfl rfl ?_; intro w8 hB hW; have H8 := Lib.hid (And.intro (H7.out.1.keep hW) (And.intro (H7.out.2.1.keep hW) (And.intro (H7.out.2.2.1.keep hW) (H7.out.2.2.2.keep hW)))); clear hB hW; have ex := run_str (P := Tryd.prog) w8 25 5 Tryd.underlying25 Tryd.underlying5 H8.out.2.1.bytes c1 9 Tryd.underlying9; rw [HK.out.1] at ex)
    | ((with_reducible show wpList _ _ _ ((⟨some 66, _, _, _, _, _⟩ : Oper) :: _) _ _); refine wpList_bytesOfB w8 (by rfl) 9 25 (.tmp 65) rfl 5 Tryd.underlying9 Tryd.underlying25 Tryd.underlying5 x (by rw [HK.out.1]; have := HK.out.2; unfold maxLen; omega) rfl ?_; intro ck w9 hck hr hbl hs; rw [HK.out.1] at hck ⊢; have H9 := Lib.hid (And.intro hck (And.intro hr hbl)); clear hck hr hbl hs; obtain ⟨g3, hg3⟩ : ∃ q, w8.heap.size = q := ⟨_, rfl⟩; rw [hg3] at H9 ⊢; have HG3 := Lib.hid hg3; clear hg3)
    | ((with_reducible show wpList _ _ _ ((⟨some 68, _, _, _, _, _⟩ : Oper) :: _) _ _); refine wpList_app1m _ rfl (.tmp 66) (.tmp 67) 25 5 rfl i0 _ 1 Tryd.underlying25 hi0 hz0 hz1 hz2 rfl g3 (k + 1) ck (x.map u8v) rfl (by rw [List.length_map]; exact HK.out.1) (H9.out.2.1.keep (nextA (Mem.start w9) _)) ⟨w9.heap.size, 0, none⟩ 1 (.int .u8 0) rfl (by rw [new_cell]; rfl) rfl (by have := HK.out.2; unfold maxLen; omega) (by have := HK.out.2; omega) ?_; intro A4 c4 w10 hc4 hcc4 hcm4 hb10; have hw8 : Below w8.heap.size w8 w10 := (by have h9 := H9.out.2.2; have h10 := (nextA (Mem.start w9) (.cells #[.int .u8 0] 5)).mono (show g3 ≤ w9.heap.size from by have := h9.size; have := HG3.out; omega); rw [HG3.out]; exact (h9.trans h10).trans hb10); have HA4 := Lib.hid (show Bytes w10 w10.heap.size A4 (x ++ [0]) ∧ k + 1 + 1 ≤ c4 ∧ c4 ≤ maxLen from ⟨by have e : (x ++ [0]).map u8v = x.map u8v ++ [.int .u8 0] := (by rw [List.map_append]; rfl); unfold Bytes; rw [e]; exact hc4, hcc4, hcm4⟩); have H10 := Lib.hid (And.intro (H8.out.1.keep hw8) (And.intro (H8.out.2.1.keep hw8) (And.intro (H8.out.2.2.1.keep hw8) (H8.out.2.2.2.keep hw8)))); clear hc4 hcc4 hcm4 hb10 hw8))
  refine (get_no w10 A4 (x ++ [0]) (k + 1 + 1) c4 (by rw [List.length_append, HK.out.1]; rfl) HA4.out.2.1 (maxle HA4.out.2.2) HA4.out.1 (HI.out.1.keep H10.out.1.2.2) (by rw [List.length_append, HK.out.1]; have := HK.out.2; simp; omega) HX.out.2.2).mono ?_
  rintro e w11 ⟨rfl, hb⟩
  have H11 := Lib.hid (And.intro (H10.out.1.keep hb) (And.intro (H10.out.2.1.keep hb) (And.intro (H10.out.2.2.1.keep hb) (H10.out.2.2.2.keep hb))))
  clear hb ex hi0 hz0 hz1 hz2
  go_wp2_with ((with_reducible show wpList _ _ _ ((⟨none, _, _, _, _, _⟩ : Oper) :: _) _ _); refine wpList_store_msg w11 rfl (.tmp 13) (.tmp 70) rfl mz s0 rfl rfl ?_; intro w12 hB hW; have H12 := Lib.hid (And.intro (H11.out.1.keep hW) (And.intro (H11.out.2.1.keep hW) (And.intro (H11.out.2.2.1.keep hW) (H11.out.2.2.2.keep hW)))); clear hB hW; have ca0 := H12.out.1.1.cell 0; have ca1 := H12.out.1.1.cell 1; have ca2 := H12.out.1.1.cell 2; have ca3 := H12.out.1.1.cell 3; have ca4 := H12.out.1.1.cell 4; have ca5 := H12.out.1.1.cell 5; have ca6 := H12.out.1.1.cell 6; have ca7 := H12.out.1.1.cell 7; have ca8 := H12.out.1.1.cell 8; have ca9 := H12.out.1.1.cell 9; have ca10 := H12.out.1.1.cell 10; have ca11 := H12.out.1.1.cell 11; have ca12 := H12.out.1.1.cell 12; have ca13 := H12.out.1.1.cell 13; simp [mv] at ca0 ca1 ca2 ca3 ca4 ca5 ca6 ca7 ca8 ca9 ca10 ca11 ca12 ca13; have cg0 := H12.out.2.2.2.cell 0; have cg1 := H12.out.2.2.2.cell 1; have cg2 := H12.out.2.2.2.cell 2; have cg3 := H12.out.2.2.2.cell 3; have cg4 := H12.out.2.2.2.cell 4; have cg5 := H12.out.2.2.2.cell 5; have cg6 := H12.out.2.2.2.cell 6; have cg7 := H12.out.2.2.2.cell 7; have cg8 := H12.out.2.2.2.cell 8; have cg9 := H12.out.2.2.2.cell 9; have cg10 := H12.out.2.2.2.cell 10; have cg11 := H12.out.2.2.2.cell 11; have cg12 := H12.out.2.2.2.cell 12; have cg13 := H12.out.2.2.2.cell 13; simp [mv] at cg0 cg1 cg2 cg3 cg4 cg5 cg6 cg7 cg8 cg9 cg10 cg11 cg12 cg13)
  refine (same_any w12 m m s s1 (HM.out.1.keep H12.out.1.2.2) (H12.out.2.2.1.min HMM.out.1)).mono ?_
  rintro e w13 ⟨rfl, hb⟩
  rw [same_refl]
  have H13 := Lib.hid (And.intro (H12.out.1.keep hb) (H12.out.2.1.keep hb))
  clear hb ca0 ca1 ca2 ca3 ca4 ca5 ca6 ca7 ca8 ca9 ca10 ca11 ca12 ca13 cg0 cg1 cg2 cg3 cg4 cg5 cg6 cg7 cg8 cg9 cg10 cg11 cg12 cg13
  have cb0 := H13.out.1.2.1.cell 0
  have cb1 := H13.out.1.2.1.cell 1
  have cb2 := H13.out.1.2.1.cell 2
  have cb3 := H13.out.1.2.1.cell 3
  have cb4 := H13.out.1.2.1.cell 4
  have cb5 := H13.out.1.2.1.cell 5
  have cb6 := H13.out.1.2.1.cell 6
  have cb7 := H13.out.1.2.1.cell 7
  have cb8 := H13.out.1.2.1.cell 8
  have cb9 := H13.out.1.2.1.cell 9
  have cb10 := H13.out.1.2.1.cell 10
  have cb11 := H13.out.1.2.1.cell 11
  have cb12 := H13.out.1.2.1.cell 12
  have cb13 := H13.out.1.2.1.cell 13
  simp [mv] at cb0 cb1 cb2 cb3 cb4 cb5 cb6 cb7 cb8 cb9 cb10 cb11 cb12 cb13
  go_wp2_with fail
  refine (put_yes w13 n t z (HI.out.1.keep H13.out.1.2.2) (HM.out.2.keep H13.out.1.2.2) HNN.out.1 HNN.out.2).mono ?_
  rintro e w14 ⟨A6, c6, rfl, ho, hb⟩
  have H14 := Lib.hid (And.intro (H13.out.1.keep hb) (And.intro (H13.out.2.keep hb) ho))
  clear hb ho cb0 cb1 cb2 cb3 cb4 cb5 cb6 cb7 cb8 cb9 cb10 cb11 cb12 cb13
  go_wp2_with fail
  refine wp_region_noPanic ?_
  refine wp_heldG (fun V => Two w bx m s n t V ∧ Mem.Own V w3.heap.size 5 A1 c1 (x.map u8v) ∧ Mem.Own V w13.heap.size 5 A6 c6 (z.map u8v)) [] (by kernel_rfl) ?hs0 ?rg0
  case hs0 =>
    exact ⟨H14.out.1.keep (nextN (Mem.start _) 1), H14.out.2.1.keep (nextN (Mem.start _) 1), H14.out.2.2.keep (nextN (Mem.start _) 1)⟩
  case rg0 =>
  intro hHeld
  refine wpAnyG_pure (i := 0) (oi := { dst := some 93, op := Op.move (Operand.tmp 16), type := 22, pos := _, after := #[], guard := none }) (v := ?_) rfl (by kernel_rfl) (by kernel_rfl) (by kernel_rfl) (by kernel_rfl) (fun _ _ _ h => h) (Or.inl ⟨by rfl, ?_⟩) (fun _ => by assumption) ?_
  rotate_left
  · intro w hSw
    try dsimp only at hSw
    go_simp
    try with_reducible rfl
  try simp only [Act.put, List.setIfInBounds_toArray, List.set_cons_zero, List.set_cons_succ]
  refine wpAnyG_pure (i := 1) (oi := { dst := some 94, op := Op.binOp BinOp.eql 22 (Operand.tmp 93) (Operand.const (Value.int IntKind.i64 0)) 22, type := 4, pos := _, after := #[{ on := 0, ground := Ground.data }], guard := none }) (v := ?_) rfl (by kernel_rfl) (by kernel_rfl) (by kernel_rfl) (by kernel_rfl) (fun _ _ _ h => h) (Or.inl ⟨by rfl, ?_⟩) (fun _ => by assumption) ?_
  rotate_left
  · intro w hSw
    try dsimp only at hSw
    go_simp
    try with_reducible rfl
  try simp only [Act.put, List.setIfInBounds_toArray, List.set_cons_zero, List.set_cons_succ]
  refine wpAnyG_pure (i := 2) (oi := { dst := some 95, op := Op.move (Operand.tmp 94), type := 4, pos := _, after := #[{ on := 1, ground := Ground.data }], guard := none }) (v := ?_) rfl (by kernel_rfl) (by kernel_rfl) (by kernel_rfl) (by kernel_rfl) (fun _ _ _ h => h) (Or.inl ⟨by rfl, ?_⟩) (fun _ => by assumption) ?_
  rotate_left
  · intro w hSw
    try dsimp only at hSw
    go_simp
    try with_reducible rfl
  try simp only [Act.put, List.setIfInBounds_toArray, List.set_cons_zero, List.set_cons_succ]
  refine wpAnyG_pure (i := 3) (oi := { dst := some 96, op := Op.move (Operand.tmp 7), type := 25, pos := _, after := #[{ on := 2, ground := Ground.guard }], guard := some (2, true) }) (v := ?_) rfl (by kernel_rfl) (by kernel_rfl) (by kernel_rfl) (by kernel_rfl) (fun _ _ _ h => h) (Or.inl ⟨by rfl, ?_⟩) (fun _ => by assumption) ?_
  rotate_left
  · intro w hSw
    try dsimp only at hSw
    go_simp
    try with_reducible rfl
  try simp only [Act.put, List.setIfInBounds_toArray, List.set_cons_zero, List.set_cons_succ]
  refine wpAnyG_take (i := 4) (oi := { dst := some 97, op := Op.convert 25 9 (Operand.tmp 96), type := 9, pos := _, after := #[{ on := 3, ground := Ground.data }, { on := 2, ground := Ground.guard }], guard := some (2, true) }) (v := ?_) rfl (by kernel_rfl) (by kernel_rfl) (by kernel_rfl) (by kernel_rfl) (fun _ _ _ h => h) (Or.inl ⟨by rfl, ?_⟩) (by assumption) ?_
  rotate_left
  · intro w hSw
    try dsimp only at hSw
    have ex := run_str (P := Tryd.prog) w 25 5 Tryd.underlying25 Tryd.underlying5 hSw.2.1.bytes c1 9 Tryd.underlying9
    rw [HK.out.1] at ex
    go_simp
    try with_reducible rfl
  try simp only [Act.put, List.setIfInBounds_toArray, List.set_cons_zero, List.set_cons_succ]
  refine wpAnyG_pure (i := 5) (oi := { dst := some 98, op := Op.move (Operand.tmp 15), type := 25, pos := _, after := #[{ on := 2, ground := Ground.guard }], guard := some (2, true) }) (v := ?_) rfl (by kernel_rfl) (by kernel_rfl) (by kernel_rfl) (by kernel_rfl) (fun _ _ _ h => h) (Or.inl ⟨by rfl, ?_⟩) (fun _ => by assumption) ?_
  rotate_left
  · intro w hSw
    try dsimp only at hSw
    go_simp
    try with_reducible rfl
  try simp only [Act.put, List.setIfInBounds_toArray, List.set_cons_zero, List.set_cons_succ]
  refine wpAnyG_take (i := 6) (oi := { dst := some 99, op := Op.convert 25 9 (Operand.tmp 98), type := 9, pos := _, after := #[{ on := 5, ground := Ground.data }, { on := 2, ground := Ground.guard }], guard := some (2, true) }) (v := ?_) rfl (by kernel_rfl) (by kernel_rfl) (by kernel_rfl) (by kernel_rfl) (fun _ _ _ h => h) (Or.inl ⟨by rfl, ?_⟩) (by assumption) ?_
  rotate_left
  · intro w hSw
    try dsimp only at hSw
    have ex := run_str (P := Tryd.prog) w 25 5 Tryd.underlying25 Tryd.underlying5 hSw.2.2.bytes c6 9 Tryd.underlying9
    go_simp
    try with_reducible rfl
  try simp only [Act.put, List.setIfInBounds_toArray, List.set_cons_zero, List.set_cons_succ]
  refine wpAnyG_pure (i := 7) (oi := { dst := some 100, op := Op.binOp BinOp.eql 9 (Operand.tmp 97) (Operand.tmp 99) 9, type := 4, pos := _, after := #[{ on := 4, ground := Ground.data }, { on := 6, ground := Ground.data }, { on := 2, ground := Ground.guard }], guard := some (2, true) }) (v := ?_) rfl (by kernel_rfl) (by kernel_rfl) (by kernel_rfl) (by kernel_rfl) (fun _ _ _ h => h) (Or.inl ⟨by rfl, ?_⟩) (fun _ => by assumption) ?_
  rotate_left
  · intro w hSw
    try dsimp only at hSw
    have hq := HQ.out.1
    go_simp
    try with_reducible rfl
  try simp only [Act.put, List.setIfInBounds_toArray, List.set_cons_zero, List.set_cons_succ]
  refine wpAnyG_take (i := 8) (oi := { dst := some 101, op := Op.load 27 (Operand.tmp 3), type := 27, pos := _, after := #[{ on := 2, ground := Ground.guard }], guard := some (2, true) }) (v := ?_) rfl (by kernel_rfl) (by kernel_rfl) (by kernel_rfl) (by kernel_rfl) (fun _ _ _ h => h) (Or.inl ⟨by rfl, ?_⟩) (by assumption) ?_
  rotate_left
  · intro w hSw
    try dsimp only at hSw
    refine exec_load 27 (.tmp 3) ?_ _ ?_ (.agg (mv m s)) (load_msg hSw.1.1)
    · rfl
    · rfl
  try simp only [Act.put, List.setIfInBounds_toArray, List.set_cons_zero, List.set_cons_succ]
  refine wpAnyG_take (i := 9) (oi := { dst := some 102, op := Op.load 27 (Operand.tmp 4), type := 27, pos := _, after := #[{ on := 2, ground := Ground.guard }], guard := some (2, true) }) (v := ?_) rfl (by kernel_rfl) (by kernel_rfl) (by kernel_rfl) (by kernel_rfl) (fun _ _ _ h => h) (Or.inl ⟨by rfl, ?_⟩) (by assumption) ?_
  rotate_left
  · intro w hSw
    try dsimp only at hSw
    refine exec_load 27 (.tmp 4) ?_ _ ?_ (.agg (mv n t)) (load_msg hSw.1.2.1)
    · rfl
    · rfl
  try simp only [Act.put, List.setIfInBounds_toArray, List.set_cons_zero, List.set_cons_succ]
  refine wpAnyG_one (i := 10) (o := { dst := some 103, op := Op.call { callee := Callee.value (Operand.func 18), args := #[Operand.tmp 101, Operand.tmp 102], argTypes := #[27, 27] }, type := 4, pos := _, after := #[{ on := 8, ground := Ground.data }, { on := 9, ground := Ground.data }, { on := 2, ground := Ground.chain }, { on := 2, ground := Ground.guard }], guard := some (2, true) }) (by kernel_rfl) rfl (fun K hK => ?_)
  go_simp
  refine (same_any _ _ _ _ _ (HM.out.1.keep hHeld.1.2.2) (HM.out.2.keep hHeld.1.2.2)).mono ?_
  rintro e w15 ⟨rfl, hb⟩
  rw [HQ.out.2]
  try dsimp only
  refine hK.out _ _ ?_ (fun hHeld => ?_)
  · intro _
    try dsimp only
    exact ⟨hHeld.1.keep hb, hHeld.2.1.keep hb, hHeld.2.2.keep hb⟩
  clear hK K
  try simp only [Act.put, List.setIfInBounds_toArray, List.set_cons_zero, List.set_cons_succ]
  have hHeld := hHeld (by kernel_rfl)
  refine wpAnyG_pure (i := 11) (oi := { dst := some 104, op := Op.binOp BinOp.neq 4 (Operand.tmp 100) (Operand.tmp 103) 4, type := 4, pos := _, after := #[{ on := 7, ground := Ground.data }, { on := 10, ground := Ground.data }, { on := 2, ground := Ground.guard }], guard := some (2, true) }) (v := ?_) rfl (by kernel_rfl) (by kernel_rfl) (by kernel_rfl) (by kernel_rfl) (fun _ _ _ h => h) (Or.inl ⟨by rfl, ?_⟩) (fun _ => by assumption) ?_
  rotate_left
  · intro w hSw
    try dsimp only at hSw
    go_simp
    try with_reducible rfl
  try simp only [Act.put, List.setIfInBounds_toArray, List.set_cons_zero, List.set_cons_succ]
  refine wpAnyG_pure (i := 12) (oi := { dst := some 105, op := Op.pick (Operand.tmp 95) (Operand.tmp 104) (Operand.const (Value.bool false)), type := 4, pos := _, after := #[{ on := 2, ground := Ground.data }, { on := 11, ground := Ground.data }], guard := none }) (v := ?_) rfl (by kernel_rfl) (by kernel_rfl) (by kernel_rfl) (by kernel_rfl) (fun _ _ _ h => h) (Or.inl ⟨by rfl, ?_⟩) (fun _ => by assumption) ?_
  rotate_left
  · intro w hSw
    try dsimp only at hSw
    go_simp
    try with_reducible rfl
  try simp only [Act.put, List.setIfInBounds_toArray, List.set_cons_zero, List.set_cons_succ]
  refine wpAnyG_done (by kernel_rfl) ?_ _
  refine NoPanic.normal ?_
  have H15 := Lib.hid hHeld.1
  clear hHeld
  go_wp2_with fail
  refine (get_yes w15 A b b.length c rfl HL.out.1 HL.out.2.1 ((HI.out.2.2.2.below H15.out.2.2).up H15.out.2.2.size) (HI.out.1.keep H15.out.2.2) (by have := HL.out.2.2; omega) y HY.out).mono ?_
  rintro e v1 ⟨sy, rfl, hr, hb⟩
  have K1 := Lib.hid (And.intro (H15.out.keep hb) hr)
  clear hb hr
  go_wp2_with ((with_reducible show wpList _ _ _ ((⟨none, .store 27 (.tmp 17) (.tmp 109), _, _, _, _⟩ : Oper) :: _) _ _); refine wpList_store_msg v1 rfl (.tmp 17) (.tmp 109) rfl y sy rfl rfl ?_; intro v2 hB hW; have K2 := Lib.hid (And.intro (K1.out.1.keep hW) (And.intro (K1.out.2.keep hW) hB)); clear hB hW; obtain ⟨gy, hgy⟩ : ∃ x, v1.heap.size = x := ⟨_, rfl⟩; rw [hgy] at K2 ⊢; clear hgy; have cy0 := K2.out.2.2.cell 0; have cy1 := K2.out.2.2.cell 1; have cy2 := K2.out.2.2.cell 2; have cy3 := K2.out.2.2.cell 3; have cy4 := K2.out.2.2.cell 4; have cy5 := K2.out.2.2.cell 5; have cy6 := K2.out.2.2.cell 6; have cy7 := K2.out.2.2.cell 7; have cy8 := K2.out.2.2.cell 8; have cy9 := K2.out.2.2.cell 9; have cy10 := K2.out.2.2.cell 10; have cy11 := K2.out.2.2.cell 11; have cy12 := K2.out.2.2.cell 12; have cy13 := K2.out.2.2.cell 13; simp [mv] at cy0 cy1 cy2 cy3 cy4 cy5 cy6 cy7 cy8 cy9 cy10 cy11 cy12 cy13)
  refine (put_yes v2 y sy b (HI.out.1.keep K2.out.1.2.2) (K2.out.2.1.min (put_get HY.out).1) (put_get HY.out).1 (put_get HY.out).2).mono ?_
  rintro e v3 ⟨Az, cz, rfl, ho, hb⟩
  have K3 := Lib.hid (And.intro (next K2.out.1.2.2 hb) ho)
  clear hb ho cy0 cy1 cy2 cy3 cy4 cy5 cy6 cy7 cy8 cy9 cy10 cy11 cy12 cy13
  have ez := run_str (P := Tryd.prog) v3 25 5 Tryd.underlying25 Tryd.underlying5 K3.out.2.bytes cz 9 Tryd.underlying9
  have eb := run_str (P := Tryd.prog) v3 25 5 Tryd.underlying25 Tryd.underlying5 (HI.out.2.2.2.below K3.out.1) c 9 Tryd.underlying9
  go_wp2_with fail
  refine (works_any v3 (HI.out.1.keep K3.out.1)).mono ?_
  rintro e v4 ⟨rfl, hb⟩
  have K4 := Lib.hid (next K3.out.1 hb)
  clear hb ez eb
  go_wp2_with fail
  go_ret
  exact ⟨rfl, K4.out⟩
set_option maxRecDepth 100000 in
set_option maxHeartbeats 16000000 in
theorem back_law (w : World) (hT : HasT w) (m : Msg) (s : Sl) (hm : MIn0 w w.heap.size m s) (n : Msg) (t : Sl) (hn : MIn0 w w.heap.size n t) (A : Option Addr) (b : List UInt8) (c : Nat) (hle : b.length ≤ c) (hmx : c ≤ maxLen) (hb : Bytes w w.heap.size A b) :
    Calls Tryd.prog 5 #[.agg (mv m s), .agg (mv n t), .slice A b.length c] w fun e w' => e = .returned (.bool true) ∧ Below w.heap.size w w' := by
  by_cases hok : few m = true ∧ few n = true ∧ b.length ≤ 5000
  · obtain ⟨hf, hg, hbl⟩ := hok
    cases hmm : may m with
    | false =>
      cases hy : Wi.get b with
      | none => exact back_nn w hT m s hm n t hn A b c hle hmx hb hf hg hbl hmm hy
      | some y => exact back_ny w hT m s hm n t hn A b c hle hmx hb hf hg hbl hmm y hy
    | true =>
      cases hnn : may n with
      | false =>
        cases hy : Wi.get b with
        | none => exact back_ynn w hT m s hm n t hn A b c hle hmx hb hf hg hbl _ hmm rfl hnn hy
        | some y => exact back_yny w hT m s hm n t hn A b c hle hmx hb hf hg hbl _ hmm rfl hnn y hy
      | true =>
        cases hy : Wi.get b with
        | none => exact back_yyn w hT m s hm n t hn A b c hle hmx hb hf hg hbl _ hmm rfl _ hnn rfl hy
        | some y => exact back_yyy w hT m s hm n t hn A b c hle hmx hb hf hg hbl _ hmm rfl _ hnn rfl y hy
  · obtain ⟨bx, hbx⟩ : ∃ bx, w.heap.size = bx := ⟨_, rfl⟩
    obtain ⟨w1, hw1⟩ : ∃ x : World, (w.alloc (.cells (mv m s) 27)).alloc (.cells (mv n t) 27) = x := ⟨_, rfl⟩
    have H1 := Lib.hid (show Two w bx m s n t w1 by
      rw [← hw1, ← hbx]
      refine ⟨(Blk.new w _ _).keep (nextA (Mem.start _) _), ?_, nextA (nextA (Mem.start w) _) _⟩
      have := Blk.new (w.alloc (.cells (mv m s) 27)) 27 (mv n t)
      rw [World.size_alloc] at this; exact this)
    have HI := Lib.hid (And.intro hT (And.intro hm hn))
    have ca0 := H1.out.1.cell 0
    have ca1 := H1.out.1.cell 1
    have ca2 := H1.out.1.cell 2
    have ca3 := H1.out.1.cell 3
    have ca4 := H1.out.1.cell 4
    have ca5 := H1.out.1.cell 5
    have ca6 := H1.out.1.cell 6
    have ca7 := H1.out.1.cell 7
    have ca8 := H1.out.1.cell 8
    have ca9 := H1.out.1.cell 9
    have ca10 := H1.out.1.cell 10
    have ca11 := H1.out.1.cell 11
    have ca12 := H1.out.1.cell 12
    have ca13 := H1.out.1.cell 13
    simp [mv] at ca0 ca1 ca2 ca3 ca4 ca5 ca6 ca7 ca8 ca9 ca10 ca11 ca12 ca13
    clear hT hm hn hb hle
    cases hf : few m
    · have HF := Lib.hid hf
      clear hf hok
      go_enter Tryd.func5, Tryd.ntmps5
      go_wp2_with fail
      refine (few_any w1 m s (HI.out.2.1.keep H1.out.2.2)).mono ?_
      rintro e w2 ⟨rfl, hb⟩
      rw [HF.out]
      have H2 := Lib.hid (H1.out.keep hb)
      clear hb ca0 ca1 ca2 ca3 ca4 ca5 ca6 ca7 ca8 ca9 ca10 ca11 ca12 ca13 hw1 hbx
      go_wp2_with fail
      refine (works_any w2 (HI.out.1.keep H2.out.2.2)).mono ?_
      rintro e w3 ⟨rfl, hb⟩
      have H3 := Lib.hid (next H2.out.2.2 hb)
      clear hb
      go_wp2_with fail
      go_ret
      exact ⟨rfl, H3.out⟩
    · have HF := Lib.hid hf
      cases hg : few n
      · have HG := Lib.hid hg
        clear hf hg hok
        go_enter Tryd.func5, Tryd.ntmps5
        go_wp2_with fail
        refine (few_any w1 m s (HI.out.2.1.keep H1.out.2.2)).mono ?_
        rintro e w2 ⟨rfl, hb⟩
        rw [HF.out]
        have H2 := Lib.hid (H1.out.keep hb)
        clear hb ca0 ca1 ca2 ca3 ca4 ca5 ca6 ca7 ca8 ca9 ca10 ca11 ca12 ca13 hw1 hbx
        have cb0 := H2.out.2.1.cell 0
        have cb1 := H2.out.2.1.cell 1
        have cb2 := H2.out.2.1.cell 2
        have cb3 := H2.out.2.1.cell 3
        have cb4 := H2.out.2.1.cell 4
        have cb5 := H2.out.2.1.cell 5
        have cb6 := H2.out.2.1.cell 6
        have cb7 := H2.out.2.1.cell 7
        have cb8 := H2.out.2.1.cell 8
        have cb9 := H2.out.2.1.cell 9
        have cb10 := H2.out.2.1.cell 10
        have cb11 := H2.out.2.1.cell 11
        have cb12 := H2.out.2.1.cell 12
        have cb13 := H2.out.2.1.cell 13
        simp [mv] at cb0 cb1 cb2 cb3 cb4 cb5 cb6 cb7 cb8 cb9 cb10 cb11 cb12 cb13
        go_wp2_with fail
        refine (few_any w2 n t (HI.out.2.2.keep H2.out.2.2)).mono ?_
        rintro e w3 ⟨rfl, hb⟩
        rw [HG.out]
        have H3 := Lib.hid (H2.out.keep hb)
        clear hb cb0 cb1 cb2 cb3 cb4 cb5 cb6 cb7 cb8 cb9 cb10 cb11 cb12 cb13
        go_wp2_with fail
        refine (works_any w3 (HI.out.1.keep H3.out.2.2)).mono ?_
        rintro e w4 ⟨rfl, hb⟩
        have H4 := Lib.hid (next H3.out.2.2 hb)
        clear hb
        go_wp2_with fail
        go_ret
        exact ⟨rfl, H4.out⟩
      · have HG := Lib.hid hg
        have hl : ¬ b.length ≤ 5000 := fun h => hok ⟨hf, hg, h⟩
        have dl : decide ((5000 : Int) < ((b.length : Nat) : Int)) = true := decide_eq_true (by omega)
        clear hf hg hok hl
        go_enter Tryd.func5, Tryd.ntmps5
        go_wp2_with fail
        refine (few_any w1 m s (HI.out.2.1.keep H1.out.2.2)).mono ?_
        rintro e w2 ⟨rfl, hb⟩
        rw [HF.out]
        have H2 := Lib.hid (H1.out.keep hb)
        clear hb ca0 ca1 ca2 ca3 ca4 ca5 ca6 ca7 ca8 ca9 ca10 ca11 ca12 ca13 hw1 hbx
        have cb0 := H2.out.2.1.cell 0
        have cb1 := H2.out.2.1.cell 1
        have cb2 := H2.out.2.1.cell 2
        have cb3 := H2.out.2.1.cell 3
        have cb4 := H2.out.2.1.cell 4
        have cb5 := H2.out.2.1.cell 5
        have cb6 := H2.out.2.1.cell 6
        have cb7 := H2.out.2.1.cell 7
        have cb8 := H2.out.2.1.cell 8
        have cb9 := H2.out.2.1.cell 9
        have cb10 := H2.out.2.1.cell 10
        have cb11 := H2.out.2.1.cell 11
        have cb12 := H2.out.2.1.cell 12
        have cb13 := H2.out.2.1.cell 13
        simp [mv] at cb0 cb1 cb2 cb3 cb4 cb5 cb6 cb7 cb8 cb9 cb10 cb11 cb12 cb13
        go_wp2_with fail
        refine (few_any w2 n t (HI.out.2.2.keep H2.out.2.2)).mono ?_
        rintro e w3 ⟨rfl, hb⟩
        rw [HG.out]
        have H3 := Lib.hid (H2.out.keep hb)
        clear hb cb0 cb1 cb2 cb3 cb4 cb5 cb6 cb7 cb8 cb9 cb10 cb11 cb12 cb13
        go_wp2_with fail
        refine (works_any w3 (HI.out.1.keep H3.out.2.2)).mono ?_
        rintro e w4 ⟨rfl, hb⟩
        have H4 := Lib.hid (next H3.out.2.2 hb)
        clear hb
        go_wp2_with fail
        go_ret
        exact ⟨rfl, H4.out⟩
end Go.Proofs.YtebdmfmadbikaaaDoor.WiW
