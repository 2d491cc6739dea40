/- poly.Roots, poly.Through. -/
import Derived.Test.YtciilojlfaihjaaPlAt
namespace Go.Proofs.Ytciilojlfaihjaa.PlW
open Go.RowKit Go.Shelf Mem Gf FdW Pl Rng
set_option linter.unusedVariables false

theorem build1 (W : World) (v : Int) : (Instr.buildSlice 22 1 #[(0, .int .u8 v)]).run Try.prog W = .ok (.slice (some ⟨W.heap.size, 0, none⟩) 1 1) (W.alloc (.cells #[.int .u8 v] 5)) := by kernel_rfl
theorem build2 (W : World) (u v : Int) : (Instr.buildSlice 22 2 #[(0, .int .u8 u), (1, .int .u8 v)]).run Try.prog W = .ok (.slice (some ⟨W.heap.size, 0, none⟩) 2 2) (W.alloc (.cells #[.int .u8 u, .int .u8 v] 5)) := by kernel_rfl
theorem own1 (W : World) (c : UInt8) : Mem.Own (W.alloc (.cells #[.int .u8 (c.toNat : Int)] 5)) W.heap.size 5 (some ⟨W.heap.size, 0, none⟩) 1 ([c].map u8v) := own_made W #[.int .u8 (c.toNat : Int)] _ (by simp [maxLen]) (Nat.le_refl _)
theorem own2 (W : World) (c d : UInt8) : Mem.Own (W.alloc (.cells #[.int .u8 (c.toNat : Int), .int .u8 (d.toNat : Int)] 5)) W.heap.size 5 (some ⟨W.heap.size, 0, none⟩) 2 ([c, d].map u8v) := own_made W #[.int .u8 (c.toNat : Int), .int .u8 (d.toNat : Int)] _ (by simp [maxLen]) (Nat.le_refl _)

theorem roots_take {xs : List UInt8} {j : Nat} (hj : j < xs.length) {o : List UInt8} (h : Eqv o (rootsP (xs.take j))) : Eqv (trim (mulP o [cf xs j, 1])) (rootsP (xs.take (j + 1))) := by
  rw [show xs.take (j + 1) = xs.take j ++ [cf xs j] from by rw [List.take_succ_eq_append_getElem hj, cf_lt hj], rootsP_snoc]
  exact (trim_eqv _).trans (mulP_left h _)
theorem trim_len_of {a b : List UInt8} (h : Eqv a b) : (trim a).length = len b := len_congr h
theorem rootsP_len (xs : List UInt8) : len (rootsP xs) = xs.length + 1 := (rootsP_facts xs).1

set_option maxRecDepth 100000 in
set_option maxHeartbeats 1000000 in
theorem roots_any (w : World) (p : Nat) (hp : Fld w p) (A : Option Addr) (xs : List UInt8) (n ca : Nat) (hn : n = xs.length) (hl : (xs.length : Int) ≤ 1000) (hA : In w p A xs) :
    Calls Try.prog 28 #[fptr (some p), .slice A n ca] w (NewF w p (trim (rootsP xs))) := by
  subst hn
  have HA := Lib.hid hA
  have HL := Lib.hid hl
  have hb1 := build1 w 1
  have HP0 := Lib.hid (hp.keep (nextA (Mem.start w) (.cells #[.int .u8 1] 5)))
  have HF0 := Lib.hid (Fr.alloc (Fr.refl (fun k => k = p) w) (.cells #[.int .u8 1] 5))
  have HO := Lib.hid (show Mem.Own (w.alloc (.cells #[.int .u8 1] 5)) w.heap.size 5 (some ⟨w.heap.size, 0, none⟩) 1 ([1].map u8v) from own1 w 1)
  clear hA hp
  go_enter Try.func28, Try.ntmps28
  go_wp2_with fail
  generalize w.alloc (.cells #[.int .u8 1] 5) = w1 at *
  clear hb1
  go_loopw [5, 11] (fun s i wr => ∃ (j : Nat) (O : Option Addr) (co : Nat) (out : List UInt8), i = .int .i64 (j : Int) ∧ s = .slice O out.length co ∧ j ≤ xs.length ∧ trim out = out ∧ Eqv out (rootsP (xs.take j)) ∧ Mem.Own wr w.heap.size 5 O co (out.map u8v) ∧ Fld wr p ∧ Fr (fun k => k = p) w wr) (fun _ i _ => xs.length - (intOf i).toNat)
  case atStart => exact ⟨0, some ⟨w.heap.size, 0, none⟩, 1, [1], rfl, rfl, Nat.zero_le _, rfl, Eqv.refl _, HO.out, HP0.out, HF0.out⟩
  case round =>
    obtain ⟨j, O, co, out, rfl, rfl, hj, htr, hev, ho, hf, hfr⟩ := hrel
    have HR := Lib.hid (And.intro ho (And.intro hf hfr))
    have HC := Lib.hid (And.intro htr hev)
    have hlo : out.length = j + 1 := by
      rw [← htr, trim_len_of hev, rootsP_len, List.length_take]; omega
    clear ho hf hfr htr hev
    by_cases hja : j < xs.length
    · have hIA := HA.out.field HR.out.2.2
      obtain ⟨q, off, rfl, hq, hcell⟩ := hIA.1.at_ (k := j) hja
      rw [← cf_lt hja] at hcell
      have HST := Lib.hid (roots_take hja HC.out.2)
      have hji : (j : Int) < (xs.length : Int) := by omega
      clear hIA
      generalize cf xs j = x at *
      have hb2 := build2 wr (x.toNat : Int) 1
      have HB := Lib.hid (show Mem.Own (wr.alloc (.cells #[.int .u8 (x.toNat : Int), .int .u8 1] 5)) wr.heap.size 5 (some ⟨wr.heap.size, 0, none⟩) 2 ([x, 1].map u8v) from own2 wr x 1)
      have HBL := Lib.hid (nextA (Mem.start wr) (.cells #[.int .u8 (x.toNat : Int), .int .u8 1] 5))
      have HLO := Lib.hid hlo
      clear hlo
      go_wp2_with fail
      generalize wr.alloc (.cells #[.int .u8 (x.toNat : Int), .int .u8 1] 5) = w2 at *
      refine (pmul_any w2 p (HR.out.2.1.keep HBL.out) O out _ co rfl (some ⟨wr.heap.size, 0, none⟩) [x, 1] 2 2 rfl (by rw [HLO.out]; simp; omega) (In.own (HR.out.1.keep HBL.out) (HR.out.2.1.keep HBL.out)) (In.own HB.out (HR.out.2.1.keep HBL.out))).mono ?_
      rintro e w3 ⟨O3, c3, rfl, ho3, hf3, hfr3⟩
      have H3 := Lib.hid (And.intro ho3 (And.intro hf3 hfr3))
      clear ho3 hf3 hfr3 hb2
      have HFX := Lib.hid ((HR.out.2.2.trans (Fr.quiet (S := fun _ => False) HBL.out) (fun _ _ h => h.elim)).trans H3.out.2.2 (fun _ _ h => h))
      have HTT := Lib.hid (trim_trim (mulP out [x, 1]))
      have HOO := Lib.hid (H3.out.1.down (Nat.le_trans HR.out.2.2.size HBL.out.size))
      generalize trim (mulP out [x, 1]) = out3 at *
      go_wp2_with fail
      go_roundw
      case rel => exact ⟨j + 1, O3, c3, out3, rfl, rfl, hja, HTT.out, HST.out, HOO.out, H3.out.2.1, HFX.out⟩
      case measure => simp [intOf]; omega
    · obtain rfl : j = xs.length := by omega
      have HQ := Lib.hid (show out = trim (rootsP xs) from by
        have := HC.out.2
        rw [List.take_length] at this
        rw [← HC.out.1]; exact trim_congr this)
      clear hlo
      go_wp2_with fail
      go_ret
      refine ⟨O, co, ?_, ?_, HR.out.2⟩
      · rw [← HQ.out]; rfl
      · rw [← HQ.out]; exact HR.out.1
end Go.Proofs.Ytciilojlfaihjaa.PlW
