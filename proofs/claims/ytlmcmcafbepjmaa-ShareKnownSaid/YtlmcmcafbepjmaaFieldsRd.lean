/- The walks of package fields' readers. -/
import Derived.Test.YtlmcmcafbepjmaaFieldsWr
import Derived.RegionTactic
import Derived.ChangeAlike
namespace Go.Proofs.Ytlmcmcafbepjmaa.FdW
open Go.RowKit Mem Fds
set_option linter.unusedVariables false

/-- A reader at block p: all bytes (a row of its own), where it stands, whether it has failed. -/
structure Rd (w : World) (base p : Nat) (A : Option Addr) (c : Nat) (l : List UInt8) (k : Nat) (f : Bool) : Prop where
  blk : Blk w p 85 #[.slice A l.length c, .int .i64 (k : Int), .bool f]
  own : Own w base 5 A c (l.map u8v)
  at_ : base ≤ p
  le : k ≤ l.length
  few : l.length ≤ 10000000
theorem Rd.keep {w w' : World} {base p : Nat} {A : Option Addr} {c : Nat} {l : List UInt8} {k : Nat} {f : Bool} (h : Rd w base p A c l k f) (hb : Below w.heap.size w w') : Rd w' base p A c l k f :=
  ⟨h.blk.keep hb, h.own.keep hb, h.at_, h.le, h.few⟩
theorem Rd.fr {S : Nat → Prop} {w w' : World} {base p : Nat} {A : Option Addr} {c : Nat} {l : List UInt8} {k : Nat} {f : Bool} (h : Rd w base p A c l k f) (hf : Fr S w w') (hp : ¬ S p) (hA : ∀ g, A = some ⟨g, 0, none⟩ → ¬ S g) : Rd w' base p A c l k f :=
  ⟨h.blk.fr hf hp, h.own.fr hf hA, h.at_, h.le, h.few⟩
/-- What is left of a reader's bytes. -/
def left (l : List UInt8) (k : Nat) (f : Bool) : Nat := if f = true then 0 else l.length - k

set_option maxHeartbeats 400000 in
theorem bad_any (w : World) (base p : Nat) (A : Option Addr) (c : Nat) (l : List UInt8) (k : Nat) (f : Bool) (h : Rd w base p A c l k f) :
    Calls Try.prog 47 #[.pointer (some ⟨p, 0, none⟩)] w fun e w' => e = .returned (.bool f) ∧ w = w' := by
  have hc2 := h.blk.cell 2
  simp at hc2
  cases f <;>
  · go_enter Try.func47, Try.ntmps47
    go_wp2_with fail
    go_ret
    exact ⟨rfl, rfl⟩
set_option maxHeartbeats 400000 in
theorem left_any (w : World) (base p : Nat) (A : Option Addr) (c : Nat) (l : List UInt8) (k : Nat) (f : Bool) (h : Rd w base p A c l k f) :
    Calls Try.prog 48 #[.pointer (some ⟨p, 0, none⟩)] w fun e w' => e = .returned (.int .i64 ((left l k f : Nat) : Int)) ∧ Below w.heap.size w w' := by
  have hc0 := h.blk.cell 0
  have hc1 := h.blk.cell 1
  simp at hc0 hc1
  have hle := h.le
  have hfew := h.few
  cases hf : f
  · subst hf
    go_enter Try.func48, Try.ntmps48
    go_wp2_with (go_at_call 47; refine (bad_any _ base p A c l k false h).mono ?_; rintro e w' ⟨rfl, rfl⟩)
    go_quiet (fail)
    go_wp2_with fail
    go_ret
    exact ⟨congrArg (fun n => Ending.returned (.int .i64 n)) (by simp [left]; omega), nextN (Mem.start w) _⟩
  · subst hf
    go_enter Try.func48, Try.ntmps48
    go_wp2_with (go_at_call 47; refine (bad_any _ base p A c l k true h).mono ?_; rintro e w' ⟨rfl, rfl⟩)
    go_ret
    exact ⟨rfl, Below.refl _ _⟩
theorem fail_any (w : World) (base p : Nat) (A : Option Addr) (c : Nat) (l : List UInt8) (k : Nat) (f : Bool) (h : Rd w base p A c l k f) :
    Calls Try.prog 72 #[.pointer (some ⟨p, 0, none⟩)] w fun e w' => e = .returned (.tuple #[]) ∧ Rd w' base p A c l k true ∧ Fr (fun i => i = p) w w' := by
  have hc2 := h.blk.cell 2
  have hf2 := h.blk.frozen 2
  simp at hc2
  go_enter Try.func72, Try.ntmps72
  go_wp2_with fail
  go_end0
  refine ⟨rfl, ⟨?_, h.own.set_far (p := ⟨p, 2, none⟩) (fun g hg e => h.blk.ne_own h.own (by decide) g hg e.symm), h.at_, h.le, h.few⟩, (Fr.refl (fun i => i = p) w).setCell (p := ⟨p, 2, none⟩) (fun _ => rfl) _⟩
  have := h.blk.set_ 2 (.bool true)
  simpa using this

/-- What is read: so many bytes behind its place; nothing, if it has failed. -/
def bad (l : List UInt8) (k : Nat) (f : Bool) (n : Int) : Bool := f || decide (n < 0) || decide (((left l k f : Nat) : Int) < n)
def got (l : List UInt8) (k : Nat) (f : Bool) (n : Int) : List UInt8 := if bad l k f n = true then [] else (l.drop k).take n.toNat
def goes (l : List UInt8) (k : Nat) (f : Bool) (n : Int) : Nat := if bad l k f n = true then k else k + n.toNat
/-- What a cut leaves: a slice of the reader's own bytes. -/
def CutOk (w : World) (base p : Nat) (A : Option Addr) (c : Nat) (l : List UInt8) (k : Nat) (f : Bool) (n : Int) (e : Ending) (w' : World) : Prop :=
  ∃ A' m c', e = .returned (.slice A' m c') ∧ m = (got l k f n).length ∧ Bytes w' w'.heap.size A' (got l k f n) ∧ Rd w' base p A c l (goes l k f n) (bad l k f n) ∧ Fr (fun i => i = p) w w'
set_option maxHeartbeats 800000 in
theorem cut_bad (w : World) (base p : Nat) (A : Option Addr) (c : Nat) (l : List UInt8) (k : Nat) (f : Bool) (n : Int) (h : Rd w base p A c l k f) (hb : bad l k f n = true) :
    Calls Try.prog 60 #[.pointer (some ⟨p, 0, none⟩), .int .i64 n] w (CutOk w base p A c l k f n) := by
  have hfin : ∀ w', Rd w' base p A c l k true → Fr (fun i => i = p) w w' → CutOk w base p A c l k f n (.returned (.slice none 0 0)) w' := by
    intro w' hr hfr
    refine ⟨none, 0, 0, rfl, ?_, ?_, ?_, hfr⟩
    · rw [got, if_pos hb]; rfl
    · rw [got, if_pos hb]; exact Bytes.nil
    · rw [goes, if_pos hb, hb]; exact hr
  have HF := Lib.hid hfin
  clear hfin
  by_cases hn : n < 0
  · go_enter Try.func60, Try.ntmps60
    go_wp2_with fail
    refine (fail_any _ base p A c l k f h).mono ?_
    rintro e w1 ⟨rfl, hr, hfr⟩
    go_wp2_with fail
    refine (bad_any _ base p A c l k true hr).mono ?_
    rintro e w2 ⟨rfl, rfl⟩
    have HR := Lib.hid (And.intro hr hfr)
    clear hr hfr
    go_wp2_with fail
    go_ret
    exact HF.out _ HR.out.1 HR.out.2
  · have hn' : 0 ≤ n := by omega
    by_cases hg : ((left l k f : Nat) : Int) < n
    · go_enter Try.func60, Try.ntmps60
      go_wp2_with fail
      refine (left_any _ base p A c l k f h).mono ?_
      rintro e w0 ⟨rfl, hb0⟩
      have h0 := h.keep hb0
      go_wp2_with fail
      refine (fail_any _ base p A c l k f h0).mono ?_
      rintro e w1 ⟨rfl, hr, hfr⟩
      go_wp2_with fail
      refine (bad_any _ base p A c l k true hr).mono ?_
      rintro e w2 ⟨rfl, rfl⟩
      have HR := Lib.hid (And.intro hr ((Fr.quiet hb0).trans hfr fun _ _ h => h))
      clear hr hfr h0
      go_wp2_with fail
      go_ret
      exact HF.out _ HR.out.1 HR.out.2
    · have hg' : n ≤ ((left l k f : Nat) : Int) := by omega
      obtain rfl : f = true := by
        unfold bad at hb
        cases f
        · simp [hn, hg] at hb
        · rfl
      go_enter Try.func60, Try.ntmps60
      go_wp2_with fail
      refine (left_any _ base p A c l k true h).mono ?_
      rintro e w0 ⟨rfl, hb0⟩
      have h0 := h.keep hb0
      go_wp2_with fail
      refine (bad_any _ base p A c l k true h0).mono ?_
      rintro e w2 ⟨rfl, rfl⟩
      have HR := Lib.hid (And.intro h0 hb0)
      clear h0 hb0
      go_wp2_with fail
      go_ret
      exact HF.out _ HR.out.1 (Fr.quiet HR.out.2)
theorem cut_own {w0 : World} {base p : Nat} {A : Option Addr} {c : Nat} {l : List UInt8} {k n : Nat} (h0 : Rd w0 base p A c l k false) : Own (w0.setCell ⟨p, 1, none⟩ (.int .i64 ((k : Int) + (n : Int)))) base 5 A c (l.map u8v) :=
  h0.own.set_far (p := ⟨p, 1, none⟩) (fun g hg e => h0.blk.ne_own h0.own (by decide) g hg e.symm)
theorem cut_cells {w0 : World} {base p : Nat} {A : Option Addr} {c : Nat} {l : List UInt8} {k n : Nat} (hn : k + n ≤ l.length) (h0 : Rd w0 base p A c l k false) :
    Bytes (w0.setCell ⟨p, 1, none⟩ (.int .i64 ((k : Int) + (n : Int)))) (w0.setCell ⟨p, 1, none⟩ (.int .i64 ((k : Int) + (n : Int)))).heap.size (if k + n = k then A else A.map (·.add k)) ((l.drop k).take n) := by
  have hown := cut_own (n := n) h0
  refine Bytes.cut hown.bytes (g := (A.map (·.block)).getD 0) (fun a ha => ?_) k n
  rcases hown.form with ⟨h1, _⟩ | ⟨g, h1, _⟩
  · rw [h1] at ha; cases ha
  · rw [h1] at ha ⊢; injection ha with ha; exact ha.symm
theorem cut_fin {w w0 : World} {base p : Nat} {A : Option Addr} {c : Nat} {l : List UInt8} {k n : Nat} (hn : k + n ≤ l.length) (h0 : Rd w0 base p A c l k false) (hb0 : Below w.heap.size w w0) (nq : Nat) (A2 : Option Addr) (c2 m : Nat) (hm : m = n)
    (hB : Bytes (w0.setCell ⟨p, 1, none⟩ (.int .i64 ((k : Int) + (n : Int)))) (w0.setCell ⟨p, 1, none⟩ (.int .i64 ((k : Int) + (n : Int)))).heap.size A2 ((l.drop k).take n)) :
    CutOk w base p A c l k false (n : Int) (.returned (.slice A2 m c2)) ((w0.setCell ⟨p, 1, none⟩ (.int .i64 ((k : Int) + (n : Int)))).drewN nq) := by
  have hb : bad l k false (n : Int) = false := by unfold bad left; simp; omega
  have hgot : got l k false (n : Int) = (l.drop k).take n := by rw [got, if_neg (by rw [hb]; decide)]; rfl
  have hblk := h0.blk.set_ 1 (.int .i64 ((k : Int) + (n : Int)))
  have hown := cut_own (n := n) h0
  have hfr := ((Fr.quiet hb0).setCell (S := fun i => i = p) (p := ⟨p, 1, none⟩) (fun _ => rfl) (.int .i64 ((k : Int) + (n : Int))))
  generalize (w0.setCell ⟨p, 1, none⟩ (.int .i64 ((k : Int) + (n : Int)))) = w5 at *
  refine ⟨A2, m, c2, rfl, ?_, ?_, ⟨?_, hown, h0.at_, ?_, h0.few⟩, hfr.drewN _⟩
  · rw [hgot]; simp; omega
  · rw [hgot]; exact hB
  · rw [goes, if_neg (by rw [hb]; decide), hb]
    have e : ((k + (n : Int).toNat : Nat) : Int) = (k : Int) + (n : Int) := by simp
    rw [e]
    have h2 : Blk w5 p 85 #[.slice A l.length c, .int .i64 ((k : Int) + (n : Int)), .bool false] := by simpa using hblk
    exact h2
  · rw [goes, if_neg (by rw [hb]; decide)]; simpa using hn
set_option maxHeartbeats 800000 in
theorem cut_good (w : World) (base p : Nat) (A : Option Addr) (c : Nat) (l : List UInt8) (k : Nat) (n : Nat) (h : Rd w base p A c l k false) (hn : k + n ≤ l.length) :
    Calls Try.prog 60 #[.pointer (some ⟨p, 0, none⟩), .int .i64 (n : Int)] w (CutOk w base p A c l k false (n : Int)) := by
  have hfew := h.few
  have hn0 : (0 : Int) ≤ (n : Int) := by omega
  have hg : (n : Int) ≤ ((left l k false : Nat) : Int) := by simp [left]; omega
  go_enter Try.func60, Try.ntmps60
  go_wp2_with fail
  refine (left_any _ base p A c l k false h).mono ?_
  rintro e w0 ⟨rfl, hb0⟩
  have h0 := h.keep hb0
  go_wp2_with fail
  refine (bad_any _ base p A c l k false h0).mono ?_
  rintro e w2 ⟨rfl, rfl⟩
  have hc0 := h0.blk.cell 0
  have hc1 := h0.blk.cell 1
  have hf1 := h0.blk.frozen 1
  simp at hc0 hc1
  have H0 := Lib.hid h0
  clear h0
  have hkn : IntKind.i64.wrap ((k : Int) + (n : Int)) = (k : Int) + (n : Int) := IntWalk.i64_in _ (by omega)
  have hx1 : (0 : Int) ≤ (k : Int) := by omega
  have hx2 : (k : Int) ≤ (k : Int) + (n : Int) := by omega
  have hx3 : (k : Int) + (n : Int) ≤ (c : Int) := by have := H0.out.own.le; simp at this; omega
  go_wp2_with fail
  go_quiet (fail)
  go_wp2_with fail
  · go_ret
    rename_i hq
    refine cut_fin hn H0.out hb0 nq A _ 0 (by omega) ?_
    rw [show n = 0 from by have := hq; omega]
    rw [List.take_zero]; exact Cells.nil
  · go_ret
    rename_i hq _
    refine cut_fin hn H0.out hb0 nq _ _ n rfl ?_
    have h := cut_cells hn H0.out
    rwa [if_neg (by omega)] at h
/-- cut, whatever is asked for. -/
theorem cut_any (w : World) (base p : Nat) (A : Option Addr) (c : Nat) (l : List UInt8) (k : Nat) (f : Bool) (n : Int) (h : Rd w base p A c l k f) :
    Calls Try.prog 60 #[.pointer (some ⟨p, 0, none⟩), .int .i64 n] w (CutOk w base p A c l k f n) := by
  cases hb : bad l k f n
  · unfold bad at hb
    cases f
    · simp at hb
      obtain ⟨m, rfl⟩ := Int.eq_ofNat_of_zero_le hb.1
      have := hb.2
      have hle := h.le
      exact cut_good w base p A c l k m h (by unfold left at this; simp at this; omega)
    · simp at hb
  · exact cut_bad w base p A c l k f n h hb
end Go.Proofs.Ytlmcmcafbepjmaa.FdW
