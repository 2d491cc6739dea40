/- The law NetPlays: its walk. -/
import Derived.Test.YtdgaicnnaidkkaaNtTl
namespace Go.Proofs.Ytdgaicnnaidkkaa.NtW
open Go.RowKit Go.Shelf Mem Rng
set_option linter.unusedVariables false

theorem LS.start {w w1 w2 : World} {p q m : Nat} (hp : p = w.heap.size) (hq : q = w1.heap.size) (h1 : NetA (fun k => k = p) p m [] w1) (hb1 : Below w.heap.size w w1) (hs1 : w1.heap.size = w.heap.size + 1) (h2 : RefA (fun k => k = q) q m [] w2) (hb2 : Below w1.heap.size w1 w2) (hs2 : w2.heap.size = w1.heap.size + 1) : LS w p q m [] [] (fun _ => False) w2 :=
  ⟨_, _, h1.keep hb2, h2, fun k hk hk' => by omega, fun k hk => ⟨by rcases hk with hk | hk <;> omega, fun h => h⟩, fun k hk => hk.elim, next hb1 hb2⟩
set_option maxRecDepth 100000 in
set_option maxHeartbeats 4000000 in
theorem plays_any (w : World) (most : Int) (A : Option Addr) (l : List Open.OneC) (c : Nat) (hcl : l.length ≤ c) (hmx : c ≤ maxLen) (hF : Cells w w.heap.size A (l.flatMap Open.OneC.cells)) (hgood : ∀ x ∈ l, x.good w) :
    Calls Try.prog 4 #[.int .i64 most, .slice A l.length c] w fun e w' => e = .returned (.bool true) ∧ Below w.heap.size w w' := by
  have HL := Lib.hid (large_any w A l c hF (by unfold maxLen at hmx; omega))
  obtain ⟨n, hn⟩ : ∃ n, l.length = n := ⟨_, rfl⟩
  rw [hn] at hcl HL ⊢
  have HN := Lib.hid (And.intro hn (And.intro hF hgood))
  obtain ⟨m, hm⟩ : ∃ m, (max 0 (min 100000 most)).toNat = m := ⟨_, rfl⟩
  have HM := Lib.hid hm
  clear hn hF hgood hcl hmx hm
  go_enter Try.func4, Try.ntmps4
  go_wp2_with fail
  refine HL.out.mono ?_
  rintro e w' ⟨⟨b, rfl, hfew⟩, rfl⟩
  cases b with
  | true =>
    clear hfew
    go_wp2_with fail
    refine (works_any w).mono ?_
    rintro e w9 ⟨rfl, hb⟩
    have H9 := Lib.hid hb
    clear hb
    go_wp2_with fail
    go_ret
    exact ⟨rfl, H9.out⟩
  | false =>
    have HF := Lib.hid (hfew rfl)
    clear hfew
    have hnn : (n : Int) ≤ 200 := by have := HF.out.1; rw [HN.out.1] at this; omega
    go_wp2_with fail
    refine (new_any w most).mono ?_
    rintro e w1 ⟨rfl, h1, hb1, hs1⟩
    rw [HM.out] at h1
    have H1 := Lib.hid (And.intro h1 (And.intro hb1 hs1))
    clear h1 hb1 hs1
    go_wp2_with fail
    refine (rnew_any w1 most).mono ?_
    rintro e w2 ⟨rfl, h2, hb2, hs2⟩
    rw [HM.out] at h2
    obtain ⟨p, hp⟩ : ∃ p, w.heap.size = p := ⟨_, rfl⟩
    obtain ⟨q, hq⟩ : ∃ q, w1.heap.size = q := ⟨_, rfl⟩
    have H2 := Lib.hid (LS.start hp.symm hq.symm (by have := H1.out.1; rwa [hp] at this) H1.out.2.1 H1.out.2.2 (by rwa [hq] at h2) hb2 hs2)
    rw [hp, hq]
    clear h2 hb2 hs2 hp hq
    go_wp2_with fail
    go_loopw [7] (fun i wr => ∃ (j : Nat) (L : List (List UInt8)), i = .int .i64 (j : Int) ∧ j ≤ n ∧ LS w p q m L L (fun _ => False) wr) (fun i _ => n - (intOf i).toNat)
    case atStart => exact ⟨0, [], rfl, Nat.zero_le _, H2.out⟩
    case round =>
      obtain ⟨j, L, rfl, hj, h⟩ := hrel
      have H3 := Lib.hid h
      clear h H2
      obtain ⟨w3, rfl⟩ : ∃ w3 : World, w3 = wr := ⟨_, rfl⟩
      by_cases hjl : j < n
      · obtain ⟨x, hx⟩ : ∃ x, l[j]? = some x := ⟨l[j]'(by rw [HN.out.1]; exact hjl), List.getElem?_eq_getElem _⟩
        obtain ⟨b, off, rfl, hbl, hc0, hc1, hc2⟩ := Open.call_at (HN.out.2.1.below H3.out.below) hx
        have hg := HN.out.2.2 x (List.mem_of_getElem? hx)
        have hl := HF.out.2 x (List.mem_of_getElem? hx)
        have HD := Lib.hid (does_any w w3 p q m L H3.out x hg.2.1 hl hg.1)
        unfold xcells at HD
        have h1 : (j : Int) < (n : Int) := by omega
        have h0 : (0 : Int) ≤ (j : Int) := by omega
        clear hg hl hx hbl
        go_wp2_with fail
        refine HD.out.mono ?_
        rintro e w4 ⟨rfl, L4, h4⟩
        have H4 := Lib.hid h4
        clear h4 hc0 hc1 hc2
        go_wp2_with fail
        refine (tells_any w w4 p q m L4 H4.out).mono ?_
        rintro e w5 ⟨rfl, L5, h5⟩
        have H5 := Lib.hid h5
        clear h5
        go_wp2_with fail
        go_roundw
        case rel => exact ⟨j + 1, L5, rfl, hjl, H5.out⟩
        case measure => simp [intOf]; omega
      · obtain rfl : n = j := by omega
        go_wp2_with fail
        refine (works_any w3).mono ?_
        rintro e w9 ⟨rfl, hb⟩
        have H9 := Lib.hid (next H3.out.below hb)
        clear hb
        go_wp2_with fail
        go_ret
        exact ⟨rfl, H9.out⟩
end Go.Proofs.Ytdgaicnnaidkkaa.NtW
