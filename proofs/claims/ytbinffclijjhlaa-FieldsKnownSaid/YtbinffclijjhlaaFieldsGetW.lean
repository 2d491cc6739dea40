/- What the law of reading needs: get, quiet readings, a row that is turned. -/
import Derived.Test.YtbinffclijjhlaaFieldsRef
import Derived.Test.YtbinffclijjhlaaOpenI
namespace Go.Proofs.Ytbinffclijjhlaa.FdW
open Go.RowKit Mem Fds
set_option linter.unusedVariables false

theorem ReadOk.conv {kd : IntKind} {w w' : World} {base p : Nat} {l : List UInt8} {k : Nat} {f : Bool} {n : Int} {e : Ending} (h : ReadOk kd w base p l k f n e w') : HasR base p l (goes l k f n) (bad l k f n) w' ∧ Fr (fun i => i = p) w w' := h.2
theorem num_got (l : List UInt8) (k : Nat) (f : Bool) (m : Nat) : num (got l k f (m : Int)) < 256 ^ m :=
  Nat.lt_of_lt_of_le (num_lt _) (Nat.pow_le_pow_right (by decide) (by have := got_len l k f (m : Int); simpa using this))
set_option maxHeartbeats 400000 in
theorem get_has {base p k : Nat} {f : Bool} {w : World} {l : List UInt8} (h : HasR base p l k f w) (n : Int) (hn : n = 1 ∨ n = 2 ∨ n = 4 ∨ n = 8) :
    Calls Try.prog 15 #[.pointer (some ⟨p, 0, none⟩), .int .i64 n] w (ReadOk .u64 w base p l k f n) := by
  rcases hn with rfl | rfl | rfl | rfl
  · go_enter Try.func15, Try.ntmps15
    go_wp2_with fail
    refine (rbyte_has h).mono ?_
    rintro e w1 ⟨rfl, hr⟩
    have H := Lib.hid hr
    have hq := num_got l k f 1
    clear hr
    have hw : IntKind.u64.wrap ((num (got l k f 1) : Nat) : Int) = ((num (got l k f 1) : Nat) : Int) := by
      show _ % 18446744073709551616 = _
      change num (got l k f 1) < 256 ^ 1 at hq
      omega
    clear hq
    go_wp2_with fail
    go_ret
    exact ⟨rfl, H.out⟩
  · go_enter Try.func15, Try.ntmps15
    go_wp2_with fail
    refine (rshort_has h).mono ?_
    rintro e w1 ⟨rfl, hr⟩
    have H := Lib.hid hr
    have hq := num_got l k f 2
    clear hr
    have hw : IntKind.u64.wrap ((num (got l k f 2) : Nat) : Int) = ((num (got l k f 2) : Nat) : Int) := by
      show _ % 18446744073709551616 = _
      change num (got l k f 2) < 256 ^ 2 at hq
      omega
    clear hq
    go_wp2_with fail
    go_ret
    exact ⟨rfl, H.out⟩
  · go_enter Try.func15, Try.ntmps15
    go_wp2_with fail
    refine (rword_has h).mono ?_
    rintro e w1 ⟨rfl, hr⟩
    have H := Lib.hid hr
    have hq := num_got l k f 4
    clear hr
    have hw : IntKind.u64.wrap ((num (got l k f 4) : Nat) : Int) = ((num (got l k f 4) : Nat) : Int) := by
      show _ % 18446744073709551616 = _
      change num (got l k f 4) < 256 ^ 4 at hq
      omega
    clear hq
    go_wp2_with fail
    go_ret
    exact ⟨rfl, H.out⟩
  · go_enter Try.func15, Try.ntmps15
    go_wp2_with fail
    refine (rlong_has h).mono ?_
    rintro e w1 ⟨rfl, hr⟩
    have H := Lib.hid hr
    clear hr
    go_wp2_with fail
    go_ret
    exact ⟨rfl, H.out⟩

/-- The count of what is left, of the program's reader: nothing turns. -/
theorem left_q {base p k : Nat} {f : Bool} {w : World} {l : List UInt8} (h : HasR base p l k f w) :
    Calls Try.prog 19 #[.pointer (some ⟨p, 0, none⟩)] w fun e w' => e = .returned (.int .i64 ((left l k f : Nat) : Int)) ∧ ∃ m, w' = w.drewN m := by
  obtain ⟨A, c, h⟩ := h
  have hc0 := h.blk.cell 0
  have hc1 := h.blk.cell 1
  simp at hc0 hc1
  have hle := h.le
  have hfew := h.few
  cases hf : f
  · subst hf
    go_enter Try.func19, Try.ntmps19
    go_wp2_with (go_at_call 21; refine (bad_any _ base p A c l k false h).mono ?_; rintro e w' ⟨rfl, rfl⟩)
    go_quiet (fail)
    go_wp2_with fail
    go_ret
    exact ⟨congrArg (fun n => Ending.returned (.int .i64 n)) (by simp [left]; omega), _, rfl⟩
  · subst hf
    go_enter Try.func19, Try.ntmps19
    go_wp2_with (go_at_call 21; refine (bad_any _ base p A c l k true h).mono ?_; rintro e w' ⟨rfl, rfl⟩)
    go_ret
    exact ⟨rfl, 0, rfl⟩
theorem refLeft_q (w : World) (p : Nat) (l : List UInt8) (k : Nat) (f : Bool) (h : RR w p l k f) :
    Calls Try.prog 20 #[.pointer (some ⟨p, 0, none⟩)] w fun e w' => e = .returned (.int .i64 ((left l k f : Nat) : Int)) ∧ ∃ m, w' = w.drewN m := by
  have hc0 := h.blk.cell 0
  have hc1 := h.blk.cell 1
  have hc2 := h.blk.cell 2
  simp at hc0 hc1 hc2
  have hsz : (str l).size = l.length := rfl
  have hle := h.le
  have hfew := h.few
  cases f
  · go_enter Try.func20, Try.ntmps20
    go_wp2_with fail
    go_quiet (fail)
    go_wp2_with fail
    go_ret
    exact ⟨congrArg (fun n => Ending.returned (.int .i64 n)) (by simp [left]; omega), _, rfl⟩
  · go_enter Try.func20, Try.ntmps20
    go_wp2_with fail
    go_ret
    exact ⟨rfl, 0, rfl⟩

/-- A reader all of whose blocks lie below u. -/
def Low (base p : Nat) (l : List UInt8) (k : Nat) (f : Bool) (u : Nat) (w : World) : Prop :=
  ∃ A c, Rd w base p A c l k f ∧ p < u ∧ ∀ g, A = some ⟨g, 0, none⟩ → g < u
theorem Low.keep {base p k u : Nat} {f : Bool} {w w' : World} {l : List UInt8} (h : Low base p l k f u w) (hb : Below u w w') : HasR base p l k f w' := by
  obtain ⟨A, c, hr, hp, hA⟩ := h
  exact ⟨A, c, hr.fr (Fr.of_below hb) (by show ¬ u ≤ p; omega) fun g hg => by have := hA g hg; show ¬ u ≤ g; omega⟩
/-- What lies from base on, behind a turn of what is older. -/
theorem HasR.high {base p k : Nat} {f : Bool} {w w' : World} {l : List UInt8} (h : HasR base p l k f w) (hf : Fr (fun i => i < base) w w') : HasR base p l k f w' := by
  obtain ⟨A, c, hr⟩ := h
  refine ⟨A, c, hr.fr hf (by have := hr.at_; show ¬ p < base; omega) fun g hg => ?_⟩
  rcases hr.own.form with ⟨h1, _⟩ | ⟨g', h1, hb, _⟩
  · rw [h1] at hg; cases hg
  · rw [h1] at hg; injection hg with hg; injection hg with hg; subst hg; show ¬ g' < base; omega
/-- What a raw reading leaves; the reader lies apart from the row. -/
def TakeLow (w : World) (base p : Nat) (l : List UInt8) (k : Nat) (f : Bool) (n : Int) (e : Ending) (w' : World) : Prop :=
  ∃ A c, e = .returned (.slice A (got l k f n).length c) ∧ Own w' w.heap.size 5 A c ((got l k f n).map u8v) ∧ Low base p l (goes l k f n) (bad l k f n) w.heap.size w' ∧ Fr (fun i => i = p) w w'
theorem rraw_low {base p k : Nat} {f : Bool} {w : World} {l : List UInt8} (n : Int) (h : HasR base p l k f w) :
    Calls Try.prog 17 #[.pointer (some ⟨p, 0, none⟩), .int .i64 n] w (TakeLow w base p l k f n) := by
  obtain ⟨A, c, h⟩ := h
  refine (rraw_any w base p A c l k f n h).mono ?_
  rintro e w' ⟨A', c', he, ho, hr, hf⟩
  refine ⟨A', c', he, ho, ⟨A, c, hr, h.blk.lt, fun g hg => ?_⟩, hf⟩
  rcases h.own.form with ⟨h1, _⟩ | ⟨g', h1, _, hlt, _⟩
  · rw [h1] at hg; cases hg
  · rw [h1] at hg; injection hg with hg; injection hg with hg; omega
end Go.Proofs.Ytbinffclijjhlaa.FdW
