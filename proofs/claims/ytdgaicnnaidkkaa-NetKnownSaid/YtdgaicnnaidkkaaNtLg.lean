/- The law's helper large. -/
import Derived.Test.YtdgaicnnaidkkaaNtLS
namespace Go.Proofs.Ytdgaicnnaidkkaa.NtW
open Go.RowKit Go.Shelf Mem Rng
set_option linter.unusedVariables false

/-- A row of calls that is not large. -/
def Few (l : List Open.OneC) : Prop := l.length ≤ 200 ∧ ∀ x ∈ l, x.b.length ≤ 5000
def LargeOk (l : List Open.OneC) (w : World) (e : Ending) (w' : World) : Prop := (∃ b : Bool, e = .returned (.bool b) ∧ (b = false → Few l)) ∧ w = w'
theorem mem_take_succ {α : Type} {l : List α} {j : Nat} {x y : α} (hx : l[j]? = some x) (h : y ∈ l.take (j + 1)) : y ∈ l.take j ∨ y = x := by
  obtain ⟨hj, e⟩ := List.getElem?_eq_some_iff.1 hx
  rw [List.take_succ_eq_append_getElem hj, List.mem_append, List.mem_singleton, e] at h
  exact h
set_option maxHeartbeats 1000000 in
theorem large_any (w : World) (A : Option Addr) (l : List Open.OneC) (c : Nat) (hF : Cells w w.heap.size A (l.flatMap Open.OneC.cells)) (hm : (l.length : Int) ≤ 9223372036854775807) :
    Calls Try.prog 12 #[.slice A l.length c] w (LargeOk l w) := by
  obtain ⟨n, hn⟩ : ∃ n, l.length = n := ⟨_, rfl⟩
  rw [hn] at hm ⊢
  have HN := Lib.hid hn
  clear hn
  by_cases h200 : 200 < n
  · have h2 : (200 : Int) < (n : Int) := by omega
    go_enter Try.func12, Try.ntmps12
    go_wp2_with fail
    go_ret
    exact ⟨⟨true, rfl, fun h => by cases h⟩, rfl⟩
  have h2 : ¬ (200 : Int) < (n : Int) := by omega
  go_enter Try.func12, Try.ntmps12
  go_wp2_with fail
  go_loop [3, 4] (fun s i => ∃ (j : Nat) (v : Nat), i = .int .i64 (j : Int) ∧ s = .int .i64 (v : Int) ∧ j ≤ n ∧ v ≤ 5000 ∧ ∀ x ∈ l.take j, x.b.length ≤ 5000) (fun _ i => n - (intOf i).toNat)
  case atStart => exact ⟨0, 0, rfl, rfl, Nat.zero_le _, by omega, fun x hx => by cases hx⟩
  case round =>
    obtain ⟨j, v, rfl, rfl, hj, hv, hall⟩ := hrel
    have HV := Lib.hid hall
    clear hall
    by_cases hjl : j < n
    · obtain ⟨x, hx⟩ : ∃ x, l[j]? = some x := ⟨l[j]'(by rw [HN.out]; exact hjl), List.getElem?_eq_getElem _⟩
      obtain ⟨b, off, rfl, hbl, hc0, hc1, hc2⟩ := Open.call_at hF hx
      have h1 : (j : Int) < (n : Int) := by omega
      have h0 : (0 : Int) ≤ (j : Int) := by omega
      obtain ⟨m, hm2⟩ : ∃ m, x.b.length = m := ⟨_, rfl⟩
      rw [hm2] at hc2
      have HX := Lib.hid (And.intro hx hm2)
      have hw5 : IntKind.i64.wrap (5000 - (v : Int)) = 5000 - (v : Int) := IntWalk.i64_in _ (by omega)
      clear hx hm2 hc0 hc1
      by_cases hg : v + m ≤ 5000
      · have hg1 : ¬ (5000 - (v : Int)) < (m : Int) := by omega
        have hw6 : IntKind.i64.wrap ((v : Int) + (m : Int)) = ((v + m : Nat) : Int) := by rw [IntWalk.i64_in _ (by omega)]; omega
        go_wp2_with fail
        go_round
        case rel => exact ⟨j + 1, v + m, rfl, rfl, hjl, hg, fun y hy => (mem_take_succ HX.out.1 hy).elim (HV.out y) (fun e => by rw [e, HX.out.2]; omega)⟩
        case measure => simp [intOf]; omega
      · have hg1 : (5000 - (v : Int)) < (m : Int) := by omega
        go_wp2_with fail
        go_ret
        exact ⟨⟨true, rfl, fun h => by cases h⟩, rfl⟩
    · obtain rfl : j = n := by omega
      go_wp2_with fail
      go_ret
      refine ⟨⟨false, rfl, fun _ => ⟨by rw [HN.out]; omega, fun x hx => HV.out x ?_⟩⟩, rfl⟩
      rw [← HN.out, List.take_length]; exact hx
end Go.Proofs.Ytdgaicnnaidkkaa.NtW
