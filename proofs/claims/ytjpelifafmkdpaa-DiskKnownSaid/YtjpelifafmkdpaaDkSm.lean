/- The laws' helpers small, at and same. -/
import Derived.Test.YtjpelifafmkdpaaDkWorks
import Derived.Test.YtjpelifafmkdpaaOpenP
namespace Go.Proofs.Ytjpelifafmkdpaa.DkW
open Go.RowKit Go.Shelf Mem Rng
set_option linter.unusedVariables false

/-- A row of writes that is small. -/
def Small (l : List Open.OneP) : Prop := l.length ≤ 40 ∧ ∀ x ∈ l, x.b.length ≤ 256
def SmallOk (l : List Open.OneP) (w : World) (e : Ending) (w' : World) : Prop := (∃ b : Bool, e = .returned (.bool b) ∧ (b = true → Small l)) ∧ w = w'
theorem mem_take_succ {α : Type} {l : List α} {j : Nat} {x y : α} (hx : l[j]? = some x) (h : y ∈ l.take (j + 1)) : y ∈ l.take j ∨ y = x := by
  obtain ⟨hj, e⟩ := List.getElem?_eq_some_iff.1 hx
  rw [List.take_succ_eq_append_getElem hj, List.mem_append, List.mem_singleton, e] at h
  exact h
set_option maxHeartbeats 1000000 in
theorem small_any (w : World) (A : Option Addr) (l : List Open.OneP) (c : Nat) (hF : Cells w w.heap.size A (l.flatMap Open.OneP.cells)) (hm : (l.length : Int) ≤ 9223372036854775807) :
    Calls Try.prog 9 #[.slice A l.length c] w (SmallOk l w) := by
  obtain ⟨n, hn⟩ : ∃ n, l.length = n := ⟨_, rfl⟩
  rw [hn] at hm ⊢
  have HN := Lib.hid hn
  clear hn
  go_enter Try.func9, Try.ntmps9
  go_wp2_with fail
  go_loop [3] (fun i => ∃ (j : Nat), i = .int .i64 (j : Int) ∧ j ≤ n ∧ ∀ x ∈ l.take j, x.b.length ≤ 256) (fun i => n - (intOf i).toNat)
  case atStart => exact ⟨0, rfl, Nat.zero_le _, fun x hx => by cases hx⟩
  case round =>
    obtain ⟨j, rfl, hj, hall⟩ := hrel
    have HV := Lib.hid hall
    clear hall
    by_cases hjl : j < n
    · obtain ⟨x, hx⟩ : ∃ x, l[j]? = some x := ⟨l[j]'(by rw [HN.out]; exact hjl), List.getElem?_eq_getElem _⟩
      obtain ⟨b, off, rfl, hbl, hc0, hc1⟩ := Open.put_at hF hx
      have h1 : (j : Int) < (n : Int) := by omega
      have h0 : (0 : Int) ≤ (j : Int) := by omega
      obtain ⟨m, hm2⟩ : ∃ m, x.b.length = m := ⟨_, rfl⟩
      rw [hm2] at hc1
      have HX := Lib.hid (And.intro hx hm2)
      clear hx hm2 hc0
      by_cases hg : m ≤ 256
      · have hg1 : ¬ (256 : Int) < (m : Int) := by omega
        go_wp2_with fail
        go_round
        case rel => exact ⟨j + 1, rfl, hjl, fun y hy => (mem_take_succ HX.out.1 hy).elim (HV.out y) (fun e => by rw [e, HX.out.2]; omega)⟩
        case measure => simp [intOf]; omega
      · have hg1 : (256 : Int) < (m : Int) := by omega
        go_wp2_with fail
        go_ret
        exact ⟨⟨false, rfl, fun h => by cases h⟩, rfl⟩
    · obtain rfl : j = n := by omega
      by_cases h40 : j ≤ 40
      · have h41 : (j : Int) ≤ 40 := by omega
        go_wp2_with fail
        go_ret
        refine ⟨⟨true, rfl, fun _ => ⟨by rw [HN.out]; omega, fun x hx => HV.out x ?_⟩⟩, rfl⟩
        rw [← HN.out, List.take_length]; exact hx
      · have h41 : ¬ (j : Int) ≤ 40 := by omega
        go_wp2_with fail
        go_ret
        exact ⟨⟨false, rfl, fun h => by cases h⟩, rfl⟩
/-- A write's byte; 0 behind its bytes. -/
def atB (l : List UInt8) (k : Nat) : UInt8 := (l[k]?).getD 0
theorem at_any (w : World) (i : Int) (A : Option Addr) (l : List UInt8) (n c k : Nat) (hn : l.length = n) (hn2 : n ≤ 256) (hk : k < 256) (hA : Bytes w w.heap.size A l) :
    Calls Try.prog 17 #[.agg #[.int .u8 i, .slice A n c], .int .i64 (k : Int)] w fun e w' => e = .returned (.int .u8 ((atB l k).toNat : Int)) ∧ Below w.heap.size w w' := by
  unfold atB
  have HB := Lib.hid (nextA (Mem.start w) (.cells #[.int .u8 i, .slice A n c] 27))
  have hk0 : (0 : Int) ≤ (k : Int) := by omega
  by_cases hkn : k < n
  · obtain ⟨b, off, rfl, hb, hc⟩ := hA.at_ (k := k) (by omega)
    have hc1 : (w.alloc (.cells #[.int .u8 i, .slice (some ⟨b, off, none⟩) n c] 27)).cell? ⟨b, off + k, none⟩ = some (.int .u8 ((l[k]'(by omega)).toNat : Int)) := cellA hc _
    rw [List.getElem?_eq_getElem (by omega), Option.getD_some]
    have h1 : (k : Int) < (n : Int) := by omega
    obtain ⟨v, hv⟩ : ∃ v, l[k]'(by omega) = v := ⟨_, rfl⟩
    rw [hv] at hc1 ⊢
    clear hA hc hn hv
    go_enter Try.func17, Try.ntmps17
    go_wp2_with fail
    go_ret
    exact ⟨rfl, HB.out⟩
  · rw [List.getElem?_eq_none (by omega), Option.getD_none]
    have h1 : ¬ (k : Int) < (n : Int) := by omega
    clear hA hn
    go_enter Try.func17, Try.ntmps17
    go_wp2_with fail
    go_ret
    exact ⟨rfl, HB.out⟩
set_option maxHeartbeats 1000000 in
theorem same_any {w0 w : World} {R : List (Nat × DS)} {X : Nat → Prop} {i j p q : Nat} {s t : DS} (h : DSt w0 R X w) (hi : R[i]? = some (p, s)) (hj : R[j]? = some (q, t)) (hs : ∀ a : Nat, a < 4 → s.may a 0 = 0) (ht : ∀ a : Nat, a < 4 → t.may a 0 = 0) (hN : ∀ a : Nat, a < 4 → s.N a = t.N a) :
    Calls Try.prog 16 #[.pointer (some ⟨p, 0, none⟩), .pointer (some ⟨q, 0, none⟩)] w fun e w' => e = .returned (.bool true) ∧ Below w.heap.size w w' := by
  have H := Lib.hid (And.intro h (And.intro hi (And.intro hj (And.intro hs (And.intro ht hN)))))
  clear h hi hj hs ht hN
  go_enter Try.func16, Try.ntmps16
  go_wp2_with fail
  go_loopw [5] (fun i wr => ∃ k : Nat, i = .int .i64 (k : Int) ∧ k ≤ 4 ∧ Below w.heap.size w wr) (fun i _ => 4 - (intOf i).toNat)
  case atStart => exact ⟨0, rfl, Nat.zero_le _, Mem.start w⟩
  case round =>
    obtain ⟨k, rfl, hk, hb⟩ := hrel
    have HB := Lib.hid hb
    clear hb
    obtain ⟨w1, rfl⟩ : ∃ w1 : World, w1 = wr := ⟨_, rfl⟩
    by_cases hk4 : k < 4
    · have h1 : (k : Int) < 4 := by omega
      have h0 : (0 : Int) ≤ (k : Int) := by omega
      go_wp2_with fail
      refine (dread2 (H.out.1.keep HB.out) H.out.2.1 (k : Int) ⟨by omega, by omega⟩ (H.out.2.2.2.1 k hk4)).mono ?_
      rintro e w2 ⟨g, rfl, hr, hl, h, hb⟩
      have H2 := Lib.hid (And.intro hr (And.intro h (And.intro hl hb)))
      clear h hb hr hl
      go_wp2_with fail
      refine (dread2 H2.out.2.1 H.out.2.2.1 (k : Int) ⟨by omega, by omega⟩ (H.out.2.2.2.2.1 k hk4)).mono ?_
      rintro e w3 ⟨g', rfl, hr, hl, h, hb⟩
      have hc1 := convB (rowB (H2.out.1.keep hb)) 256 256 H2.out.2.2.1.symm
      have hc2 := convB (rowB hr) 256 256 hl.symm
      rw [← H.out.2.2.2.2.2 k hk4] at hc2
      have H3 := Lib.hid (next HB.out (next H2.out.2.2.2 hb))
      obtain ⟨v, hv⟩ : ∃ v, str (s.N k) = v := ⟨_, rfl⟩
      rw [hv] at hc1 hc2
      clear h hb hr hl hv
      go_wp2_with fail
      go_roundw
      case rel => exact ⟨k + 1, rfl, hk4, H3.out⟩
      case measure => simp [intOf]; omega
    · obtain rfl : k = 4 := by omega
      go_wp2_with fail
      go_ret
      exact ⟨rfl, HB.out⟩
end Go.Proofs.Ytjpelifafmkdpaa.DkW
