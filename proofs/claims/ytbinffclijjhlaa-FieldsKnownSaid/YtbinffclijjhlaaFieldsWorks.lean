/- The chapter's examples. -/
import Derived.Test.YtbinffclijjhlaaFieldsStg
namespace Go.Proofs.Ytbinffclijjhlaa.FdW
open Go.RowKit Mem Fds
set_option linter.unusedVariables false

theorem fr_start {w w' : World} {o : Obj} (hf : Fr (fun k => k = w.heap.size) (w.alloc o) w') : Below w.heap.size w w' :=
  (nextA (Mem.start w) o).trans (hf.below (by simp) fun k hk => by subst hk; exact Nat.le_refl _)
theorem read_keep {w w5 w6 : World} {B base q p k : Nat} {f : Bool} {l l' : List UInt8} (hB : Below B w w5 ∧ Has B q l w5) (hr : HasR base p l' k f w5) (hf : Fr (fun i => i = p) w5 w6) (hB0 : B ≤ w.heap.size) (hne : q ≠ p) (hp : B ≤ p) : Below B w w6 ∧ Has B q l w6 := by
  obtain ⟨cs, hb⟩ := hr.blk
  exact ⟨hB.1.trans (hf.below (Nat.le_trans hB0 hB.1.size) fun k hk => by subst hk; exact hp), hB.2.other hf hb (by decide) hne⟩
set_option maxHeartbeats 1000000 in
theorem works_any (w : World) :
    Calls Try.prog 10 #[] w fun e w' => e = .returned (.bool true) ∧ Below w.heap.size w w' := by
  have q1 : ([] : List UInt8) ++ be 1 1 = [1] := by decide
  have q2 : [1] ++ be 2 2 = [1, 0, 2] := by decide
  have q3 : [1, 0, 2] ++ be 4 255 = [1, 0, 2, 0, 0, 0, 255] := by decide
  have Q1 := Lib.hid q1
  have Q2 := Lib.hid q2
  have Q3 := Lib.hid q3
  clear q1 q2 q3
  go_enter Try.func10, Try.ntmps10
  go_wp2_with fail
  refine (byte_stg (base := w.heap.size) (Stg.start (Blk.new w _ _) (Nat.le_refl _)) (by decide) 1 1 rfl (by decide)).mono ?_
  rintro e w1 ⟨rfl, hs1⟩
  rw [Q1.out] at hs1
  go_wp2_with fail
  refine (short_stg hs1 (by decide) 2 2 rfl (by decide)).mono ?_
  rintro e w2 ⟨rfl, hs2⟩
  clear hs1
  rw [Q2.out] at hs2
  go_wp2_with fail
  refine (word_stg hs2 (by decide) 255 255 rfl (by decide)).mono ?_
  rintro e w3 ⟨rfl, hs3⟩
  clear hs2
  rw [Q3.out] at hs3
  go_wp2_with fail
  refine (raw_stg (hs3.keep (nextA (Mem.start w3) _)) (by decide) _ [7] _ _ rfl (by decide) (Bytes.new w3 _ _ _ _ (by rfl) _ (by simp))).mono ?_
  rintro e w4 ⟨rfl, hs4⟩
  clear hs3
  go_wp2_with fail
  refine (open_has _ _ [1, 2, 3] _ _ rfl (by decide) (Bytes.new w4 _ _ _ _ (by rfl) _ (by simp))).mono ?_
  rintro e w5 ⟨p, rfl, hr5, hb5⟩
  have hB4 := fr_start hs4.fr
  have hge := hr5.at_
  have hs := hB4.size
  simp at hge
  have K5 := Lib.hid (show Below w.heap.size w w5 ∧ Has w.heap.size w.heap.size [1, 0, 2, 0, 0, 0, 255, 7] w5 from ⟨next (nextA hB4 _) hb5, (hs4.has.keep (nextA (Mem.start w4) _)).keep hb5⟩)
  have hne : w.heap.size ≠ p := by omega
  have hp : w.heap.size ≤ p := by omega
  clear hs4 hb5 hB4 hs hge
  generalize (w4.alloc _).heap.size = bs at hr5
  go_wp2_with fail
  refine (rshort_has hr5).mono ?_
  rintro e w6 ⟨rfl, hr6, hf6⟩
  have K6 := Lib.hid (read_keep K5.out hr5 hf6 (Nat.le_refl _) hne hp)
  clear hf6 hr5 K5
  change HasR bs p [1, 2, 3] 2 false w6 at hr6
  have e6 : num (got [1, 2, 3] 0 false 2) = 258 := by decide
  rw [e6]; clear e6
  go_wp2_with fail
  refine (rshort_has hr6).mono ?_
  rintro e w7 ⟨rfl, hr7, hf7⟩
  have K7 := Lib.hid (read_keep K6.out hr6 hf7 (Nat.le_refl _) hne hp)
  clear hf7 hr6 K6
  change HasR bs p [1, 2, 3] 2 true w7 at hr7
  have e7 : num (got [1, 2, 3] 2 false 2) = 0 := by decide
  rw [e7]; clear e7
  go_wp2_with fail
  refine (rbyte_has hr7).mono ?_
  rintro e w8 ⟨rfl, hr8, hf8⟩
  have K8 := Lib.hid (read_keep K7.out hr7 hf8 (Nat.le_refl _) hne hp)
  clear hf8 hr7 K7
  change HasR bs p [1, 2, 3] 2 true w8 at hr8
  have e8 : num (got [1, 2, 3] 2 true 1) = 0 := by decide
  rw [e8]; clear e8
  go_wp2_with fail
  refine (out_has K8.out.2 (by decide)).mono ?_
  rintro e w9 ⟨A, c, rfl, ho, hb9⟩
  have hr9 := hr8.keep hb9
  have K9 := Lib.hid (next K8.out.1 hb9)
  have es := run_str (P := Try.prog) w9 25 5 Try.underlying25 Try.underlying5 ho.bytes c 9 Try.underlying9
  change (convert _ _ (.slice A 8 c)).run _ _ = Result.ok (.string ⟨#[1, 0, 2, 0, 0, 0, 255, 7]⟩) _ at es
  clear hb9 K8 ho hr8
  go_wp2_with fail
  refine (bad_has hr9).mono ?_
  rintro e w10 ⟨rfl, rfl⟩
  go_wp2_with fail
  go_ret
  exact ⟨rfl, K9.out⟩
end Go.Proofs.Ytbinffclijjhlaa.FdW
