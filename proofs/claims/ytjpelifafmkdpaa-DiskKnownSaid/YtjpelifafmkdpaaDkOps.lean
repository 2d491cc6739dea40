/- A disk's quiet calls. -/
import Derived.Test.YtjpelifafmkdpaaDkSt
import Derived.Test.YtjpelifafmkdpaaHeldG
import Derived.Test.YtjpelifafmkdpaaMk
import Derived.WalkKit
import Derived.WalkSpells
import Derived.WalkLawsBesides
import Derived.Lib.Hide
import Derived.BigQuiet
import Derived.Deep.QuietTactic
import Derived.Deep.RegionHeld3
import Derived.Deep.RegionLaw
import Derived.Deep.LoopGhost
import Derived.Deep.DeepCutAuto
namespace Go.Proofs.Ytjpelifafmkdpaa.DkW
open Go.RowKit Go.Shelf Mem Rng
set_option linter.unusedVariables false

def bzero : Value := .agg (bcells z256)
theorem zeroB (w : World) : (zeroValue 59).run Try.prog w = .ok (.agg (bcells z256)) w := by kernel_rfl
section
variable {F : Nat → Prop} {p : Nat} {s : DS} {w : World}
theorem open_any (h : DkA F p s w) : Calls Try.prog 18 #[.pointer (some ⟨p, 0, none⟩)] w fun e w' => e = .returned (.int .i64 (s.L.length : Int)) ∧ w = w' := by
  obtain ⟨ms, mn, A, c, h⟩ := h
  have h3 := h.cells.2.2.2.1
  clear h
  go_enter Try.func18, Try.ntmps18
  go_wp2_with fail
  go_ret
  exact ⟨rfl, rfl⟩
theorem off_any (h : DkA F p s w) : Calls Try.prog 19 #[.pointer (some ⟨p, 0, none⟩)] w fun e w' => e = .returned (.bool s.off) ∧ w = w' := by
  obtain ⟨ms, mn, A, c, h⟩ := h
  have h3 := h.cells.2.2.2.2.2.2
  clear h
  go_enter Try.func19, Try.ntmps19
  go_wp2_with fail
  go_ret
  exact ⟨rfl, rfl⟩
theorem steps_any (h : DkA F p s w) : Calls Try.prog 24 #[.pointer (some ⟨p, 0, none⟩)] w fun e w' => e = .returned (.int .i64 (s.steps : Int)) ∧ w = w' := by
  obtain ⟨ms, mn, A, c, h⟩ := h
  have h3 := h.cells.2.2.2.2.1
  clear h
  go_enter Try.func24, Try.ntmps24
  go_wp2_with fail
  go_ret
  exact ⟨rfl, rfl⟩
theorem blocks_any (h : DkA F p s w) : Calls Try.prog 28 #[.pointer (some ⟨p, 0, none⟩)] w fun e w' => e = .returned (.int .i64 (s.n : Int)) ∧ w = w' := by
  obtain ⟨ms, mn, A, c, h⟩ := h
  have h3 := h.cells.1
  clear h
  go_enter Try.func28, Try.ntmps28
  go_wp2_with fail
  go_ret
  exact ⟨rfl, rfl⟩
theorem may_any (h : DkA F p s w) (i : Int) (A : Option Addr) (m c : Nat) : Calls Try.prog 30 #[.pointer (some ⟨p, 0, none⟩), .int .i64 i, .slice A m c] w fun e w' => e = .returned (.int .i64 (s.may i m)) ∧ w = w' := by
  obtain ⟨ms, mn, A', c', h⟩ := h
  have h0 := h.cells.1
  have h6 := h.cells.2.2.2.2.2.2
  unfold DS.may
  obtain ⟨n, hn⟩ : ∃ n, s.n = n := ⟨_, rfl⟩
  obtain ⟨b, hb⟩ : ∃ b, s.off = b := ⟨_, rfl⟩
  rw [hn] at h0 ⊢
  rw [hb] at h6 ⊢
  clear hn hb h
  cases b with
  | true =>
    rw [if_pos rfl]
    go_enter Try.func30, Try.ntmps30
    go_wp2_with fail
    go_ret
    exact ⟨rfl, rfl⟩
  | false =>
    rw [if_neg (by decide)]
    by_cases h1 : i < 0
    · rw [if_pos (.inl h1)]
      go_enter Try.func30, Try.ntmps30
      go_wp2_with fail
      go_ret
      exact ⟨rfl, rfl⟩
    · by_cases h2 : (n : Int) ≤ i
      · rw [if_pos (.inr h2)]
        go_enter Try.func30, Try.ntmps30
        go_wp2_with fail
        go_ret
        exact ⟨rfl, rfl⟩
      · rw [if_neg (by omega)]
        by_cases h3 : 256 < m
        · rw [if_pos h3]
          have h4 : (256 : Int) < (m : Int) := by omega
          go_enter Try.func30, Try.ntmps30
          go_wp2_with fail
          go_ret
          exact ⟨rfl, rfl⟩
        · rw [if_neg h3]
          have h4 : ¬ (256 : Int) < (m : Int) := by omega
          go_enter Try.func30, Try.ntmps30
          go_wp2_with fail
          go_ret
          exact ⟨rfl, rfl⟩
end
/-- What a call that turns the disk leaves. -/
def DkOk (w : World) (F : Nat → Prop) (p : Nat) (s : DS) (v : Value) (e : Ending) (w' : World) : Prop := e = .returned v ∧ ∃ F', DkA F' p s w' ∧ Grow F F' w ∧ Fr F w w'
theorem DkOk.same {w w' : World} {F : Nat → Prop} {p : Nat} {s : DS} {v : Value} (h : DkA F p s w) (hb : Below w.heap.size w w') : DkOk w F p s v (.returned v) w' :=
  ⟨rfl, F, h.keep hb, fun _ h => .inl h, Fr.quiet hb⟩
section
variable {F : Nat → Prop} {p : Nat} {s : DS} {w : World}
set_option maxHeartbeats 1000000 in
theorem crash_any {m : Nat} (h : DkM F p m s w) : Calls Try.prog 13 #[.pointer (some ⟨p, 0, none⟩)] w fun e w' => e = .returned (.tuple #[]) ∧ DkM F p m s.crash w' ∧ Fr F w w' ∧ w'.heap.size = w.heap.size := by
  obtain ⟨ms, mn, A, c, h⟩ := h
  have z6 := h.blk.frozen 6
  have c6 := h.cells.2.2.2.2.2.2
  have hb := h.blk.set_ 6 (.bool true)
  have z5 := hb.frozen 5
  have c5 := hb.cell 5
  have H := Lib.hid (And.intro h hb)
  rw [show ((#[.int .i64 (s.n : Int), .map (some ms), .map (some mn), .slice A s.L.length c, .int .i64 (s.steps : Int), .int .i64 s.well, .bool s.off] : Array Value).setIfInBounds 6 (.bool true))[5]? = some (.int .i64 s.well) from rfl] at c5
  clear h hb
  go_enter Try.func13, Try.ntmps13
  go_wp2_with fail
  go_end0
  obtain ⟨h, hb⟩ := H.out
  have hf : Fr (fun k => k = p) w ((w.setCell ⟨p, 6, none⟩ (.bool true)).setCell ⟨p, 5, none⟩ (.int .i64 (-1))) := ((Fr.refl (fun k => k = p) w).setCell (p := ⟨p, 6, none⟩) (fun _ => rfl) _).setCell (p := ⟨p, 5, none⟩) (fun _ => rfl) _
  obtain ⟨k, h1, h2⟩ := h.mS
  refine ⟨rfl, ⟨ms, mn, A, c, hb.set_ 5 _, ⟨k, h1.fr hf h.foot.2.2.2.2.1, h2⟩, h.mN.fr hf h.foot.2.2.2.2.2.1, h.row.fr hf (fun g hg => (h.foot.2.2.2.2.2.2 g hg).2.1), h.lens, h.foot, fun k hk => Nat.lt_of_lt_of_le (h.lt k hk) hf.size, h.bound.1, h.bound.2.1, h.bound.2.2.1, by show (-1 : Int) ≤ -1; decide, by show (-1 : Int) ≤ _; decide⟩, hf.mono fun k _ hk => by rw [hk]; exact h.foot.1, by simp [World.setCell]⟩
end
end Go.Proofs.Ytjpelifafmkdpaa.DkW
