/- The document's own reader, bytes and number, walked. -/
import Derived.Test.YtbinffclijjhlaaFieldsWorks
namespace Go.Proofs.Ytbinffclijjhlaa.FdW
open Go.RowKit Mem Fds
set_option linter.unusedVariables false

/-- The document's reader at block p. -/
structure RR (w : World) (p : Nat) (l : List UInt8) (k : Nat) (f : Bool) : Prop where
  blk : Blk w p 40 #[.string (str l), .int .i64 (k : Int), .bool f]
  le : k ≤ l.length
  few : l.length ≤ 10000000
theorem RR.keep {w w' : World} {p : Nat} {l : List UInt8} {k : Nat} {f : Bool} (h : RR w p l k f) (hb : Below w.heap.size w w') : RR w' p l k f := ⟨h.blk.keep hb, h.le, h.few⟩
theorem RR.fr {S : Nat → Prop} {w w' : World} {p : Nat} {l : List UInt8} {k : Nat} {f : Bool} (h : RR w p l k f) (hf : Fr S w w') (hp : ¬ S p) : RR w' p l k f := ⟨h.blk.fr hf hp, h.le, h.few⟩

set_option maxHeartbeats 400000 in
theorem refLeft_any (w : World) (p : Nat) (l : List UInt8) (k : Nat) (f : Bool) (h : RR w p l k f) :
    Calls Try.prog 20 #[.pointer (some ⟨p, 0, none⟩)] w fun e w' => e = .returned (.int .i64 ((left l k f : Nat) : Int)) ∧ Below w.heap.size w w' := by
  have hc0 := h.blk.cell 0
  have hc1 := h.blk.cell 1
  have hc2 := h.blk.cell 2
  simp at hc0 hc1 hc2
  have hsz : (str l).size = l.length := rfl
  have hle := h.le
  have hfew := h.few
  cases f
  · go_enter Try.func20, Try.ntmps20
    go_wp2_with fail
    go_region
    go_wp2_with fail
    go_ret
    exact ⟨congrArg (fun n => Ending.returned (.int .i64 n)) (by simp [left]; omega), nextN (Mem.start w) _⟩
  · go_enter Try.func20, Try.ntmps20
    go_wp2_with fail
    go_ret
    exact ⟨rfl, Below.refl _ _⟩

theorem wrap_step {q c : Nat} (h : q * 256 + c < 256 ^ 8) : IntKind.u64.wrap (IntKind.u64.wrap ((q : Int) * 256) + IntKind.u64.wrap (c : Int)) = ((q * 256 + c : Nat) : Int) := by
  have e : ∀ x : Int, IntKind.u64.wrap x = x % 18446744073709551616 := fun _ => rfl
  simp only [e]
  omega
set_option maxHeartbeats 400000 in
theorem number_any (w : World) (A : Option Addr) (l : List UInt8) (n c : Nat) (hn : n = l.length) (hlen : n ≤ 8) (hA : Bytes w w.heap.size A l) :
    Calls Try.prog 33 #[.slice A n c] w fun e w' => e = .returned (.int .u64 ((num l : Nat) : Int)) ∧ w = w' := by
  subst hn
  go_enter Try.func33, Try.ntmps33
  go_wp2_with fail
  go_loop [3, 4] (fun s i => ∃ j : Nat, i = .int .i64 (j : Int) ∧ s = .int .u64 ((num (l.take j) : Nat) : Int) ∧ j ≤ l.length) (fun _ i => l.length - (intOf i).toNat)
  case atStart => exact ⟨0, rfl, rfl, Nat.zero_le _⟩
  case round =>
    obtain ⟨j, rfl, rfl, hj⟩ := hrel
    by_cases hjl : j < l.length
    · have hcell := hA.at_ hjl
      obtain ⟨b, off, rfl, hb, hcell⟩ := hcell
      have h1 : (j : Int) < (l.length : Int) := by omega
      have h0 : (0 : Int) ≤ (j : Int) := by omega
      generalize hq : num (l.take j) = q
      have HQ := Lib.hid hq
      clear hq
      go_wp2_with fail
      go_round
      case rel =>
        refine ⟨j + 1, rfl, congrArg (Value.int .u64) ?_, hjl⟩
        rw [num_take l j hjl, HQ.out]
        exact wrap_step (by have := num_take_lt l j 8 hjl hlen; rwa [HQ.out] at this)
      case measure => simp [intOf]; omega
    · obtain rfl : j = l.length := by omega
      rw [List.take_length]
      go_wp2_with fail
      go_ret
      exact ⟨rfl, rfl⟩

theorem bad_in0 {l : List UInt8} {k m : Nat} (h : k + m ≤ l.length) : bad l k false (m : Int) = false := by
  simp [bad, left]; omega
/-- What the document's cut leaves. -/
def RCutOk (w : World) (p : Nat) (l : List UInt8) (k : Nat) (f : Bool) (n : Int) (e : Ending) (w' : World) : Prop :=
  e = .returned (.string (str (got l k f n))) ∧ RR w' p l (goes l k f n) (bad l k f n) ∧ Fr (fun i => i = p) w w'
theorem RCutOk.drew {w w' : World} {p : Nat} {l : List UInt8} {k : Nat} {f : Bool} {n : Int} {e : Ending} (h : RCutOk w p l k f n e w') : RCutOk w p l k f n e w'.drew :=
  ⟨h.1, h.2.1.keep (nextN (Mem.start w') 1), h.2.2.drew⟩
theorem str_extract (l : List UInt8) (k m : Nat) : (str l).extract k (k + m) = str ((l.drop k).take m) := by
  have h : ((str l).extract k (k + m)).data.toList = (l.drop k).take m := by
    show (((str l).extract k (k + m)).data).toList = _
    rw [ByteArray.data_extract, Array.toList_extract]
    simp [str, List.extract]
  rw [← h]; rfl
theorem RR.set2 {w : World} {p : Nat} {l : List UInt8} {k : Nat} {f : Bool} (h : RR w p l k f) : RR (w.setCell ⟨p, 2, none⟩ (.bool true)) p l k true :=
  ⟨by have := h.blk.set_ 2 (.bool true); simpa using this, h.le, h.few⟩
theorem RR.set1 {w : World} {p : Nat} {l : List UInt8} {k : Nat} {f : Bool} (h : RR w p l k f) (n : Int) (m : Nat) (hn : n = (m : Int)) (hm : m ≤ l.length) : RR (w.setCell ⟨p, 1, none⟩ (.int .i64 n)) p l m f :=
  ⟨by have := h.blk.set_ 1 (.int .i64 n); subst hn; simpa using this, hm, h.few⟩
set_option maxHeartbeats 800000 in
theorem refCut_any (w : World) (p : Nat) (l : List UInt8) (k : Nat) (f : Bool) (n : Int) (h : RR w p l k f) (hn1 : -32768 ≤ n) (hn2 : n ≤ 32767) :
    Calls Try.prog 18 #[.pointer (some ⟨p, 0, none⟩), .int .i64 n] w (RCutOk w p l k f n) := by
  have hc0 := h.blk.cell 0
  have hc1 := h.blk.cell 1
  have hc2 := h.blk.cell 2
  have hf2 := h.blk.frozen 2
  have hf1 := h.blk.frozen 1
  simp at hc0 hc1 hc2
  by_cases hn : n < 0
  · have hb : bad l k f n = true := by simp [bad, hn]
    have H := Lib.hid (show RCutOk w p l k f n (.returned (.string (str []))) (w.setCell ⟨p, 2, none⟩ (.bool true)) from ⟨by rw [got, if_pos hb], by rw [goes, if_pos hb, hb]; exact h.set2, (Fr.refl (fun i => i = p) w).setCell (p := ⟨p, 2, none⟩) (fun _ => rfl) _⟩)
    clear hb
    go_enter Try.func18, Try.ntmps18
    go_wp2_with fail
    go_ret
    exact H.out
  · have hn' : 0 ≤ n := by omega
    have hle := h.le
    have hfew := h.few
    by_cases hg : ((left l k f : Nat) : Int) < n
    · have hb : bad l k f n = true := by simp [bad, hg]
      have H := Lib.hid (show ∀ w1, Below w.heap.size w w1 → RCutOk w p l k f n (.returned (.string (str []))) (w1.setCell ⟨p, 2, none⟩ (.bool true)) from fun w1 hb1 => ⟨by rw [got, if_pos hb], by rw [goes, if_pos hb, hb]; exact (h.keep hb1).set2, (Fr.quiet (S := fun i => i = p) hb1).setCell (p := ⟨p, 2, none⟩) (fun _ => rfl) _⟩)
      clear hb
      go_enter Try.func18, Try.ntmps18
      go_wp2_with fail
      refine (refLeft_any w p l k f h).mono ?_
      rintro e w1 ⟨rfl, hb1⟩
      have h1 := h.keep hb1
      have hc0 := h1.blk.cell 0
      have hc1 := h1.blk.cell 1
      have hc2 := h1.blk.cell 2
      have hf2 := h1.blk.frozen 2
      have hf1 := h1.blk.frozen 1
      simp at hc0 hc1 hc2
      have HB := Lib.hid hb1
      clear hb1 h1
      go_wp2_with fail
      go_ret
      exact H.out _ HB.out
    · have hg' : n ≤ ((left l k f : Nat) : Int) := by omega
      cases f
      · obtain ⟨m, rfl⟩ : ∃ m : Nat, n = (m : Int) := ⟨n.toNat, by omega⟩
        have hkm : k + m ≤ l.length := by
          simp [left] at hg'
          omega
        have hb : bad l k false (m : Int) = false := bad_in0 hkm
        have H := Lib.hid (show ∀ w1, Below w.heap.size w w1 → RCutOk w p l k false (m : Int) (.returned (.string (str ((l.drop k).take m)))) (w1.setCell ⟨p, 1, none⟩ (.int .i64 ((k : Int) + (m : Int)))) from fun w1 hb1 => ⟨by rw [got, hb]; rfl, by rw [goes, hb]; exact (h.keep hb1).set1 _ (k + m) (by omega) hkm, (Fr.quiet (S := fun i => i = p) hb1).setCell (p := ⟨p, 1, none⟩) (fun _ => rfl) _⟩)
        clear hb
        have hk1 : (k : Int) + (m : Int) ≤ (l.length : Int) := by omega
        have hk2 : IntKind.i64.wrap ((k : Int) + (m : Int)) = (k : Int) + (m : Int) := IntWalk.i64_in _ (by omega)
        have hk3 : IntKind.i64.wrap ((k : Int) + (m : Int) - (m : Int)) = (k : Int) := by rw [Int.add_sub_cancel]; exact IntWalk.i64_in _ (by omega)
        have hsz : (str l).size = l.length := rfl
        go_enter Try.func18, Try.ntmps18
        go_wp2_with fail
        refine (refLeft_any w p l k false h).mono ?_
        rintro e w1 ⟨rfl, hb1⟩
        have h1 := h.keep hb1
        have hc0 := h1.blk.cell 0
        have hc1 := h1.blk.cell 1
        have hc2 := h1.blk.cell 2
        have hf2 := h1.blk.frozen 2
        have hf1 := h1.blk.frozen 1
        simp at hc0 hc1 hc2
        have hR := H.out w1 hb1
        have h2 := h1.set1 ((k : Int) + (m : Int)) (k + m) (by omega) hkm
        have hd0 := h2.blk.cell 0
        have hd1 := h2.blk.cell 1
        simp at hd0 hd1
        have HR := Lib.hid hR
        clear hR H hb1 h1 h2 h
        go_wp2_with fail
        generalize w1.setCell _ _ = w2 at *
        clear hc0 hc1 hc2 hf2 hf1 hg hg'
        go_region
        go_wp2_with fail
        go_ret
        rw [str_extract]
        exact HR.out.drew
      · have hb : bad l k true n = true := by simp [bad]
        have H := Lib.hid (show ∀ w1, Below w.heap.size w w1 → RCutOk w p l k true n (.returned (.string (str []))) w1 from fun w1 hb1 => ⟨by rw [got, if_pos hb], by rw [goes, if_pos hb, hb]; exact (h.keep hb1), Fr.quiet hb1⟩)
        clear hb
        go_enter Try.func18, Try.ntmps18
        go_wp2_with fail
        refine (refLeft_any w p l k true h).mono ?_
        rintro e w1 ⟨rfl, hb1⟩
        have h1 := h.keep hb1
        have hc0 := h1.blk.cell 0
        have hc1 := h1.blk.cell 1
        have hc2 := h1.blk.cell 2
        have hf2 := h1.blk.frozen 2
        have hf1 := h1.blk.frozen 1
        simp at hc0 hc1 hc2
        have HB := Lib.hid hb1
        clear hb1 h1
        go_wp2_with fail
        go_ret
        exact H.out _ HB.out

/-- What the document's reading of a number leaves. -/
def RFieldOk (w : World) (p : Nat) (l : List UInt8) (k : Nat) (f : Bool) (n : Int) (e : Ending) (w' : World) : Prop :=
  e = .returned (.int .u64 ((num (got l k f n) : Nat) : Int)) ∧ RR w' p l (goes l k f n) (bad l k f n) ∧ Fr (fun i => i = p) w w'
theorem got_len (l : List UInt8) (k : Nat) (f : Bool) (n : Int) : (got l k f n).length ≤ n.toNat := by
  unfold got; split
  · simp
  · simp; omega
set_option maxHeartbeats 400000 in
theorem refField_any (w : World) (p : Nat) (l : List UInt8) (k : Nat) (f : Bool) (n : Int) (h : RR w p l k f) (hn1 : 0 ≤ n) (hn2 : n ≤ 8) :
    Calls Try.prog 16 #[.pointer (some ⟨p, 0, none⟩), .int .i64 n] w (RFieldOk w p l k f n) := by
  go_enter Try.func16, Try.ntmps16
  go_wp2_with fail
  refine (refCut_any w p l k f n h (by omega) (by omega)).mono ?_
  rintro e w1 ⟨rfl, hr, hf⟩
  have hl := got_len l k f n
  have H := Lib.hid (And.intro hr hf)
  have hsz : (got l k f n).length ≤ 8 := by omega
  have HZ := Lib.hid hsz
  clear hr hf hl hsz
  generalize hg : got l k f n = bs at *
  have HG := Lib.hid hg
  clear hg
  go_wp2_with ((with_reducible show wpList _ _ _ ((⟨some 8, _, _, _, _, _⟩ : Oper) :: _) _ _); refine wpList_bytesOf _ (by rfl) _ _ _ rfl _ Try.underlying9 Try.underlying25 Try.underlying5 bs rfl ?_; intro c2 w2 hc2 hrow2 hb2 hs2)
  refine (number_any w2 _ bs _ _ rfl HZ.out hrow2.cells).mono ?_
  rintro e w3 ⟨rfl, rfl⟩
  have HB := Lib.hid hb2
  clear hrow2 hb2 hs2 hc2
  go_wp2_with fail
  go_ret
  exact ⟨by rw [HG.out]; rfl, H.out.1.keep HB.out, H.out.2.trans (Fr.quiet (S := fun _ => False) HB.out) fun _ _ h => h.elim⟩
end Go.Proofs.Ytbinffclijjhlaa.FdW
