/- The document's values and roots. -/
import Derived.Test.YtciilojlfaihjaaPlRefD
namespace Go.Proofs.Ytciilojlfaihjaa.PlW
open Go.RowKit Mem Gf FdW Pl Rng
set_option linter.unusedVariables false

theorem ev_take_succ (x : UInt8) {a : List UInt8} {j : Nat} (hj : j < a.length) : ev (a.take (j + 1)) x = ev (a.take j) x ^^^ mul (cf a j) (rp x j) := by
  rw [List.take_succ_eq_append_getElem hj, ev_snoc, List.length_take, Nat.min_eq_left (Nat.le_of_lt hj), cf_lt hj]
set_option maxRecDepth 100000 in
set_option maxHeartbeats 1000000 in
theorem rpAt_any (w : World) (A : Option Addr) (a : List UInt8) (n c : Nat) (hn : n = a.length) (hl : (a.length : Int) ≤ 10000) {M : Nat} (hA : Bytes w M A a) (x0 : Int) (x : UInt8) (hx : x0 = (x.toNat : Int)) :
    Calls Try.prog 27 #[.slice A n c, .int .u8 x0] w fun e w' => e = .returned (.int .u8 ((ev a x).toNat : Int)) ∧ w = w' := by
  subst hn; subst hx
  have HA := Lib.hid hA
  clear hA
  go_enter Try.func27, Try.ntmps27
  go_wp2_with fail
  go_loop [5, 6, 7] (fun s t i => ∃ j : Nat, i = .int .i64 (j : Int) ∧ j ≤ a.length ∧ s = .int .u8 ((ev (a.take j) x).toNat : Int) ∧ t = .int .u8 ((rp x j).toNat : Int)) (fun _ _ i => a.length - (intOf i).toNat)
  case atStart => exact ⟨0, rfl, Nat.zero_le _, rfl, rfl⟩
  case round =>
    obtain ⟨j, rfl, hj, rfl, rfl⟩ := hrel
    by_cases hja : j < a.length
    · obtain ⟨g, o, rfl, hg, hc⟩ := HA.out.at_ (k := j) hja
      rw [← cf_lt hja] at hc
      have HE := Lib.hid (ev_take_succ x hja)
      have HP := Lib.hid (show rp x (j + 1) = mul (rp x j) x from rfl)
      have hji : (j : Int) < (a.length : Int) := by omega
      have hxr := xor8 (ev (a.take j) x) (mul (cf a j) (rp x j))
      generalize ev (a.take j) x = y at *
      generalize rp x j = p at *
      generalize cf a j = z at *
      have hj0 : (0 : Int) ≤ (j : Int) := by omega
      go_wp2_with (first
        | ((with_reducible refine (refMul_any _ _ z p rfl rfl _).mono ?_); rintro e w2 ⟨rfl, rfl⟩)
        | ((with_reducible refine (refMul_any _ _ p x rfl rfl _).mono ?_); rintro e w2 ⟨rfl, rfl⟩))
      go_round
      case rel => exact ⟨j + 1, rfl, hja, by rw [HE.out, UInt8.toNat_xor], by rw [HP.out]⟩
      case measure => simp [intOf]; omega
    · obtain rfl : j = a.length := by omega
      have HE := Lib.hid (show ev (a.take a.length) x = ev a x from by rw [List.take_length])
      generalize ev (a.take a.length) x = y at *
      go_wp2_with fail
      go_ret
      exact ⟨by rw [← HE.out]; rfl, rfl⟩

/-- The polynomial of the first j roots, trimmed. -/
def rootsT (xs : List UInt8) (j : Nat) : List UInt8 := trim (rootsP (xs.take j))
theorem rootsT_zero (xs : List UInt8) : rootsT xs 0 = [1] := rfl
theorem rootsT_succ {xs : List UInt8} {j : Nat} (hj : j < xs.length) : trim (mulP (rootsT xs j) [cf xs j, 1]) = rootsT xs (j + 1) := by
  have := roots_take hj (o := rootsT xs j) (trim_eqv _)
  rw [← trim_trim, trim_congr this]; rfl
theorem rootsT_len {xs : List UInt8} {j : Nat} (hj : j ≤ xs.length) : (rootsT xs j).length = j + 1 := by
  have : (rootsT xs j).length = len (rootsP (xs.take j)) := rfl
  rw [this, rootsP_len, List.length_take]; omega
theorem rootsT_all (xs : List UInt8) : rootsT xs xs.length = trim (rootsP xs) := by rw [rootsT, List.take_length]

set_option maxRecDepth 100000 in
set_option maxHeartbeats 1000000 in
theorem rpRoots_any (w : World) (A : Option Addr) (xs : List UInt8) (n ca : Nat) (hn : n = xs.length) (hl : (xs.length : Int) ≤ 400) (hA : Bytes w w.heap.size A xs) :
    Calls Try.prog 29 #[.slice A n ca] w (NewOk w (trim (rootsP xs))) := by
  subst hn
  have HA := Lib.hid hA
  have hb1 := build1 w 1
  have HF0 := Lib.hid (nextA (Mem.start w) (.cells #[.int .u8 1] 5))
  have HO := Lib.hid (show Mem.Own (w.alloc (.cells #[.int .u8 1] 5)) w.heap.size 5 (some ⟨w.heap.size, 0, none⟩) 1 ([1].map u8v) from own1 w 1)
  clear hA
  go_enter Try.func29, Try.ntmps29
  go_wp2_with fail
  generalize w.alloc (.cells #[.int .u8 1] 5) = w1 at *
  clear hb1
  go_loopw [3, 4] (fun s i wr => ∃ (j : Nat) (O : Option Addr) (co : Nat), i = .int .i64 (j : Int) ∧ s = .slice O (j + 1) co ∧ j ≤ xs.length ∧ Mem.Own wr w.heap.size 5 O co ((rootsT xs j).map u8v) ∧ Below w.heap.size w wr) (fun _ i _ => xs.length - (intOf i).toNat)
  case atStart => exact ⟨0, some ⟨w.heap.size, 0, none⟩, 1, rfl, rfl, Nat.zero_le _, HO.out, HF0.out⟩
  case round =>
    obtain ⟨j, O, co, rfl, rfl, hj, ho, hb⟩ := hrel
    have HR := Lib.hid (And.intro ho hb)
    have HLN := Lib.hid (rootsT_len hj)
    clear ho hb
    by_cases hja : j < xs.length
    · obtain ⟨q, off, rfl, hq, hcell⟩ := (HA.out.below HR.out.2).at_ (k := j) hja
      rw [← cf_lt hja] at hcell
      have HST := Lib.hid (rootsT_succ hja)
      have HLN2 := Lib.hid (rootsT_len (xs := xs) (j := j + 1) (by omega))
      have hji : (j : Int) < (xs.length : Int) := by omega
      generalize cf xs j = x at *
      have hb2 := build2 wr (x.toNat : Int) 1
      have HB := Lib.hid (show Mem.Own (wr.alloc (.cells #[.int .u8 (x.toNat : Int), .int .u8 1] 5)) wr.heap.size 5 (some ⟨wr.heap.size, 0, none⟩) 2 ([x, 1].map u8v) from own2 wr x 1)
      have HBL := Lib.hid (nextA (Mem.start wr) (.cells #[.int .u8 (x.toNat : Int), .int .u8 1] 5))
      go_wp2_with fail
      generalize wr.alloc (.cells #[.int .u8 (x.toNat : Int), .int .u8 1] 5) = w2 at *
      refine (rpMul_any w2 O (rootsT xs j) (j + 1) co HLN.out.symm (some ⟨wr.heap.size, 0, none⟩) [x, 1] 2 2 rfl (by rw [HLN.out]; simp; omega) (HR.out.1.keep HBL.out).bytes HB.out.bytes).mono ?_
      rintro e w3 ⟨O3, c3, rfl, ho3, hb3⟩
      rw [HST.out] at ho3 ⊢
      rw [HLN2.out]
      have H3 := Lib.hid (And.intro ho3 hb3)
      clear ho3 hb3 hb2
      go_wp2_with fail
      go_roundw
      case rel => exact ⟨j + 1, O3, c3, rfl, rfl, hja, H3.out.1.down (Nat.le_trans HR.out.2.size HBL.out.size), (HR.out.2.trans (HBL.out.mono HR.out.2.size)).trans (H3.out.2.mono (Nat.le_trans HR.out.2.size HBL.out.size))⟩
      case measure => simp [intOf]; omega
    · obtain rfl : j = xs.length := by omega
      have HQ := Lib.hid (rootsT_all xs)
      go_wp2_with fail
      go_ret
      refine ⟨O, co, ?_, ?_, HR.out.2⟩
      · rw [← HQ.out, HLN.out]; rfl
      · rw [← HQ.out]; exact HR.out.1
end Go.Proofs.Ytciilojlfaihjaa.PlW
