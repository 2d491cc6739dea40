/- The document's has, in and long. Printed by genwdoc1.py. -/
import Derived.Test.YtebdmfmadbikaaaDoorWrPlain
namespace Go.Proofs.YtebdmfmadbikaaaDoor.WiW
open Go.RowKit Go.Shelf Mem Fds FdW Wi Rng
set_option linter.unusedVariables false
set_option linter.unusedSimpArgs false

/-- The letters of the fields. -/
def letters : List UInt8 := [82, 75, 86, 73, 83, 67, 78, 66, 68, 76, 80]
def letter (f : Nat) : UInt8 := letters.getD f 0
/-- What has tells. -/
def hasS (k : Nat) : List UInt8 := if isK k then 32 :: (flds k).map letter else []
theorem hasS_len (k : Nat) : (hasS k).length ≤ 6 := by
  by_cases h : k < 21
  · have : ∀ k < 21, (hasS k).length ≤ 6 := by decide
    exact this k h
  · unfold hasS; rw [if_neg (by simp [isK]; omega)]; simp
theorem hasS_in (k f : Nat) (hf : f < 11) : (hasS k).any (fun c => c == letter f) = decide (f ∈ flds k) := by
  by_cases h : k < 21
  · have : ∀ k < 21, ∀ f < 11, (hasS k).any (fun c => c == letter f) = decide (f ∈ flds k) := by decide +kernel
    exact this k h f hf
  · have h1 : isK k = false := by simp [isK]; omega
    unfold hasS; rw [if_neg (by rw [h1]; simp), flds_over h1]; rfl
set_option maxHeartbeats 4000000 in
theorem has_any (w : World) (k : Nat) (hk : k < 256) : Calls Tryd.prog 22 #[.int .u8 (k : Int)] w fun e w' => e = .returned (.string (str (hasS k))) ∧ w = w' := by
  by_cases hk2 : k < 21
  · have : k = 0 ∨ k = 1 ∨ k = 2 ∨ k = 3 ∨ k = 4 ∨ k = 5 ∨ k = 6 ∨ k = 7 ∨ k = 8 ∨ k = 9 ∨ k = 10 ∨ k = 11 ∨ k = 12 ∨ k = 13 ∨ k = 14 ∨ k = 15 ∨ k = 16 ∨ k = 17 ∨ k = 18 ∨ k = 19 ∨ k = 20 := by omega
    rcases this with rfl | rfl | rfl | rfl | rfl | rfl | rfl | rfl | rfl | rfl | rfl | rfl | rfl | rfl | rfl | rfl | rfl | rfl | rfl | rfl | rfl
    · go_enter Tryd.func22, Tryd.ntmps22
      go_wp2_with fail
      go_ret
      exact ⟨rfl, rfl⟩
    · go_enter Tryd.func22, Tryd.ntmps22
      go_wp2_with fail
      go_ret
      exact ⟨rfl, rfl⟩
    · go_enter Tryd.func22, Tryd.ntmps22
      go_wp2_with fail
      go_ret
      exact ⟨rfl, rfl⟩
    · go_enter Tryd.func22, Tryd.ntmps22
      go_wp2_with fail
      go_ret
      exact ⟨rfl, rfl⟩
    · go_enter Tryd.func22, Tryd.ntmps22
      go_wp2_with fail
      go_ret
      exact ⟨rfl, rfl⟩
    · go_enter Tryd.func22, Tryd.ntmps22
      go_wp2_with fail
      go_ret
      exact ⟨rfl, rfl⟩
    · go_enter Tryd.func22, Tryd.ntmps22
      go_wp2_with fail
      go_ret
      exact ⟨rfl, rfl⟩
    · go_enter Tryd.func22, Tryd.ntmps22
      go_wp2_with fail
      go_ret
      exact ⟨rfl, rfl⟩
    · go_enter Tryd.func22, Tryd.ntmps22
      go_wp2_with fail
      go_ret
      exact ⟨rfl, rfl⟩
    · go_enter Tryd.func22, Tryd.ntmps22
      go_wp2_with fail
      go_ret
      exact ⟨rfl, rfl⟩
    · go_enter Tryd.func22, Tryd.ntmps22
      go_wp2_with fail
      go_ret
      exact ⟨rfl, rfl⟩
    · go_enter Tryd.func22, Tryd.ntmps22
      go_wp2_with fail
      go_ret
      exact ⟨rfl, rfl⟩
    · go_enter Tryd.func22, Tryd.ntmps22
      go_wp2_with fail
      go_ret
      exact ⟨rfl, rfl⟩
    · go_enter Tryd.func22, Tryd.ntmps22
      go_wp2_with fail
      go_ret
      exact ⟨rfl, rfl⟩
    · go_enter Tryd.func22, Tryd.ntmps22
      go_wp2_with fail
      go_ret
      exact ⟨rfl, rfl⟩
    · go_enter Tryd.func22, Tryd.ntmps22
      go_wp2_with fail
      go_ret
      exact ⟨rfl, rfl⟩
    · go_enter Tryd.func22, Tryd.ntmps22
      go_wp2_with fail
      go_ret
      exact ⟨rfl, rfl⟩
    · go_enter Tryd.func22, Tryd.ntmps22
      go_wp2_with fail
      go_ret
      exact ⟨rfl, rfl⟩
    · go_enter Tryd.func22, Tryd.ntmps22
      go_wp2_with fail
      go_ret
      exact ⟨rfl, rfl⟩
    · go_enter Tryd.func22, Tryd.ntmps22
      go_wp2_with fail
      go_ret
      exact ⟨rfl, rfl⟩
    · go_enter Tryd.func22, Tryd.ntmps22
      go_wp2_with fail
      go_ret
      exact ⟨rfl, rfl⟩
  · have hs : hasS k = [] := by unfold hasS; rw [if_neg (by simp [isK]; omega)]
    rw [hs]
    have e1 : ((k : Int) == 1) = false := by rw [beq_eq_false_iff_ne]; omega
    have e2 : ((k : Int) == 2) = false := by rw [beq_eq_false_iff_ne]; omega
    have e3 : ((k : Int) == 3) = false := by rw [beq_eq_false_iff_ne]; omega
    have e4 : ((k : Int) == 4) = false := by rw [beq_eq_false_iff_ne]; omega
    have e5 : ((k : Int) == 5) = false := by rw [beq_eq_false_iff_ne]; omega
    have e6 : ((k : Int) == 6) = false := by rw [beq_eq_false_iff_ne]; omega
    have e7 : ((k : Int) == 7) = false := by rw [beq_eq_false_iff_ne]; omega
    have e8 : ((k : Int) == 8) = false := by rw [beq_eq_false_iff_ne]; omega
    have e9 : ((k : Int) == 9) = false := by rw [beq_eq_false_iff_ne]; omega
    have e10 : ((k : Int) == 10) = false := by rw [beq_eq_false_iff_ne]; omega
    have e11 : ((k : Int) == 11) = false := by rw [beq_eq_false_iff_ne]; omega
    have e12 : ((k : Int) == 12) = false := by rw [beq_eq_false_iff_ne]; omega
    have e13 : ((k : Int) == 13) = false := by rw [beq_eq_false_iff_ne]; omega
    have e14 : ((k : Int) == 14) = false := by rw [beq_eq_false_iff_ne]; omega
    have e15 : ((k : Int) == 15) = false := by rw [beq_eq_false_iff_ne]; omega
    have e16 : ((k : Int) == 16) = false := by rw [beq_eq_false_iff_ne]; omega
    have e17 : ((k : Int) == 17) = false := by rw [beq_eq_false_iff_ne]; omega
    have e18 : ((k : Int) == 18) = false := by rw [beq_eq_false_iff_ne]; omega
    have e19 : ((k : Int) == 19) = false := by rw [beq_eq_false_iff_ne]; omega
    have e20 : ((k : Int) == 20) = false := by rw [beq_eq_false_iff_ne]; omega
    clear hs hk hk2
    go_enter Tryd.func22, Tryd.ntmps22
    go_wp2_with fail
    go_ret
    exact ⟨rfl, rfl⟩
theorem any_take (l : List UInt8) (c : UInt8) (j : Nat) (h : j < l.length) : (l.take (j + 1)).any (fun x => x == c) = ((l.take j).any (fun x => x == c) || (l[j] == c)) := by
  rw [List.take_succ_eq_append_getElem h, List.any_append]; simp
theorem str_get (l : List UInt8) (j : Nat) (h : j < l.length) (h2 : j < (str l).size) : (str l)[j] = l[j] := rfl
set_option maxHeartbeats 4000000 in
theorem in_any (w : World) (k : Nat) (hk : k < 256) (f : Nat) (hf : f < 11) (c : Nat) (hc : (letter f).toNat = c) : Calls Tryd.prog 26 #[.int .u8 (k : Int), .int .u8 (c : Int)] w fun e w' => e = .returned (.bool (decide (f ∈ flds k))) ∧ w = w' := by
  rw [← hasS_in k f hf]
  obtain ⟨l, hl⟩ : ∃ l, hasS k = l := ⟨_, rfl⟩
  obtain ⟨C, hC⟩ : ∃ C, letter f = C := ⟨_, rfl⟩
  obtain ⟨n, hn⟩ : ∃ n, l.length = n := ⟨_, rfl⟩
  have hn6 : n ≤ 6 := by have := hasS_len k; rw [hl, hn] at this; exact this
  rw [hC] at hc
  rw [hl, hC]
  have HL := Lib.hid (And.intro hl (And.intro hn (And.intro hc hk)))
  have hz : (str l).size = n := by rw [str_size, hn]
  have h6 : (n : Int) ≤ 6 := by omega
  clear hl hC hn hc hk hf
  go_enter Tryd.func26, Tryd.ntmps26
  go_wp2_with fail
  refine (has_any w k HL.out.2.2.2).mono ?_
  rintro e w1 ⟨rfl, rfl⟩
  rw [HL.out.1]
  go_wp2_with fail
  go_loop [6] (fun i => ∃ j : Nat, i = .int .i64 (j : Int) ∧ j ≤ n ∧ (l.take j).any (fun x => x == C) = false) (fun i => n - (intOf i).toNat)
  case atStart => exact ⟨0, rfl, Nat.zero_le _, rfl⟩
  case round =>
    obtain ⟨j, rfl, hj, ha⟩ := hrel
    have HA := Lib.hid ha
    by_cases hjn : j < n
    · have hjl : j < l.length := by rw [HL.out.2.1]; exact hjn
      have h1 : (j : Int) < (n : Int) := by omega
      have h0 : (0 : Int) ≤ (j : Int) := by omega
      have hjs : j < (str l).size := by rw [str_size, HL.out.2.1]; exact hjn
      have hg := str_get l j hjl hjs
      obtain ⟨x, hx⟩ : ∃ x, l[j] = x := ⟨_, rfl⟩
      rw [hx] at hg
      have HT := Lib.hid (show (l.take (j + 1)).any (fun x => x == C) = (x == C) by rw [any_take l C j hjl, HA.out, ← hx]; rfl)
      have HJ := Lib.hid (And.intro hjn (And.intro hjl hx))
      clear hx ha
      by_cases hxc : x = C
      · have hb : ((x.toNat : Int) == (c : Int)) = true := by rw [hxc, beq_iff_eq, HL.out.2.2.1]
        have HF := Lib.hid (show l.any (fun x => x == C) = true by
          rw [List.any_eq_true]
          have hm : l[j]'HJ.out.2.1 ∈ l := List.getElem_mem _
          have hx2 : l[j]'HJ.out.2.1 = x := HJ.out.2.2
          rw [hx2] at hm
          exact ⟨x, hm, by rw [hxc]; simp⟩)
        clear hxc
        go_wp2_with fail
        go_ret
        exact ⟨congrArg (fun b => Ending.returned (.bool b)) HF.out.symm, rfl⟩
      · have hb : ((x.toNat : Int) == (c : Int)) = false := by
          rw [beq_eq_false_iff_ne]; intro h
          have : x.toNat = C.toNat := by rw [HL.out.2.2.1]; omega
          exact hxc (UInt8.toNat_inj.1 this)
        have HF := Lib.hid (show (l.take (j + 1)).any (fun x => x == C) = false by rw [HT.out, beq_eq_false_iff_ne]; exact hxc)
        clear hxc
        go_wp2_with fail
        go_round
        case rel => exact ⟨j + 1, by go_num, HJ.out.1, HF.out⟩
        case measure => simp [intOf]; have := HJ.out.1; omega
    · obtain rfl : j = n := by omega
      have h1 : ¬ (j : Int) < (j : Int) := by omega
      rw [List.take_of_length_le (by rw [HL.out.2.1]; exact Nat.le_refl _)] at HA
      clear ha hjn
      go_wp2_with fail
      go_ret
      exact ⟨congrArg (fun b => Ending.returned (.bool b)) HA.out.symm, rfl⟩
/-- Is a number from 0 to 2^62? -/
theorem rlong_any (w : World) (n : Int) : Calls Tryd.prog 24 #[.int .i64 n] w fun e w' => e = .returned (.bool (wi long n)) ∧ w = w' := by
  by_cases h1 : 0 ≤ n
  · have hr : wi long n = decide (n ≤ 4611686018427387904) := by unfold wi; rw [decide_eq_true h1]; rfl
    rw [hr]
    have d1 : decide (0 ≤ n) = true := decide_eq_true h1
    clear hr
    obtain ⟨d, hd⟩ : ∃ d, decide (n ≤ 4611686018427387904) = d := ⟨_, rfl⟩
    rw [hd]
    go_enter Tryd.func24, Tryd.ntmps24
    go_wp2_with fail
    go_ret
    exact ⟨rfl, rfl⟩
  · have hr : wi long n = false := by simp [wi, h1]
    rw [hr]
    have d1 : decide (0 ≤ n) = false := decide_eq_false h1
    clear hr
    go_enter Tryd.func24, Tryd.ntmps24
    go_wp2_with fail
    go_ret
    exact ⟨rfl, rfl⟩
end Go.Proofs.YtebdmfmadbikaaaDoor.WiW
