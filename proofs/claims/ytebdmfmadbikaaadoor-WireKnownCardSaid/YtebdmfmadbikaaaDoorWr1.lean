/- Package wire's small functions: hasOf, within, slices.Equal, IndexFunc, ContainsFunc. -/
import Derived.Test.YtebdmfmadbikaaaDoorWm
import Derived.Test.YtebdmfmadbikaaaDoorWiPut
import Derived.Laws.StructEq
namespace Go.Proofs.YtebdmfmadbikaaaDoor.WiW
open Go.RowKit Mem Fds FdW Wi
set_option linter.unusedVariables false
set_option linter.unusedSimpArgs false

/-- The table of package wire, as it is laid. -/
def HasT (w : World) : Prop := ∀ k, k < 21 → w.cell? ⟨0, k, none⟩ = some (.int .u16 ((mask k : Nat) : Int))
theorem HasT.pos {w : World} (h : HasT w) : 0 < w.heap.size := World.block_lt_of_cell? _ _ (h 0 (by decide))
theorem HasT.keep {w w' : World} (h : HasT w) (hb : Below w.heap.size w w') : HasT w' := fun k hk => (hb.cell h.pos).trans (h k hk)
theorem HasT.fr {S : Nat → Prop} {w w' : World} (h : HasT w) (hf : Fr S w w') (hS : ¬ S 0) : HasT w' := fun k hk => (World.cell?_of_block (hf.block 0 h.pos hS)).trans (h k hk)
/-- Nothing told but an answer; nothing turned. -/
def Tell (w : World) (v : Value) (e : Ending) (w' : World) : Prop := e = .returned v ∧ Below w.heap.size w w'

theorem hasOf_any (w : World) (k : Nat) (hk8 : k < 256) (h : HasT w) : Calls Tryd.prog 47 #[.int .u8 (k : Int)] w fun e w' => e = .returned (.int .u16 ((mask k : Nat) : Int)) ∧ w = w' := by
  have hw : wrap64 (k : Int) = (k : Int) := by unfold wrap64; omega
  by_cases hk : k < 21
  · have hc := h k hk
    have h1 : ¬ (21 : Int) ≤ (k : Int) := by omega
    have h2 : (k : Int) < 21 := by omega
    have h3 : (0 : Int) ≤ (k : Int) := by omega
    have ha : Tryd.prog.arrayLen 114 = 21 := by kernel_rfl
    have h4 : (k : Int) < Tryd.prog.arrayLen 114 := by rw [ha]; exact h2
    go_enter Tryd.func47, Tryd.ntmps47
    go_wp2_with fail
    go_ret
    exact ⟨rfl, rfl⟩
  · have h1 : (21 : Int) ≤ (k : Int) := by omega
    have h2 : mask k = 0 := (mask_zero k).2 (by simp [isK]; omega)
    rw [h2]
    go_enter Tryd.func47, Tryd.ntmps47
    go_wp2_with fail
    go_ret
    exact ⟨rfl, rfl⟩

theorem run_min3 (x y z : Int) (h : min x y = z) (w : World) : (Builtin.min_ #[3, 3] 3 #[.int .i64 x, .int .i64 y]).run Tryd.prog w = .ok (.int .i64 z) w := by
  subst h
  rcases Int.lt_or_le y x with h | h
  · simp [Builtin.min_, Builtin.min2, h, Int.min_eq_right (Int.le_of_lt h)]
  · simp [Builtin.min_, Builtin.min2, Int.min_eq_left h, Int.not_lt.2 h]
theorem run_max3 (x y z : Int) (h : max x y = z) (w : World) : (Builtin.max_ #[3, 3] 3 #[.int .i64 x, .int .i64 y]).run Tryd.prog w = .ok (.int .i64 z) w := by
  subst h
  rcases Int.lt_or_le x y with h | h
  · simp [Builtin.max_, Builtin.max2, h, Int.max_eq_right (Int.le_of_lt h)]
  · simp [Builtin.max_, Builtin.max2, Int.max_eq_left h, Int.not_lt.2 h]
theorem run_min6 (x y z : Int) (h : min x y = z) (w : World) : (Builtin.min_ #[2, 2] 2 #[.int .i64 x, .int .i64 y]).run Tryd.prog w = .ok (.int .i64 z) w := by
  subst h
  rcases Int.lt_or_le y x with h | h
  · simp [Builtin.min_, Builtin.min2, h, Int.min_eq_right (Int.le_of_lt h)]
  · simp [Builtin.min_, Builtin.min2, Int.min_eq_left h, Int.not_lt.2 h]
theorem run_max6 (x y z : Int) (h : max x y = z) (w : World) : (Builtin.max_ #[2, 2] 2 #[.int .i64 x, .int .i64 y]).run Tryd.prog w = .ok (.int .i64 z) w := by
  subst h
  rcases Int.lt_or_le x y with h | h
  · simp [Builtin.max_, Builtin.max2, h, Int.max_eq_right (Int.le_of_lt h)]
  · simp [Builtin.max_, Builtin.max2, Int.max_eq_left h, Int.not_lt.2 h]
def iv (x : Int) : Value := .int .i64 x
def lo (a : Int) (l : List Int) : Int := l.foldl min a
def hi (a : Int) (l : List Int) : Int := l.foldl max a
theorem meas_ok (L q j : Nat) (h1 : j + 1 = q) (h2 : j < L) : L + 1 - ((q : Int) + 1).toNat < L + 1 - (q : Int).toNat := by omega
theorem lo_snoc (a : Int) (l : List Int) (x : Int) : lo a (l ++ [x]) = min (lo a l) x := by unfold lo; rw [List.foldl_append]; rfl
theorem hi_snoc (a : Int) (l : List Int) (x : Int) : hi a (l ++ [x]) = max (hi a l) x := by unfold hi; rw [List.foldl_append]; rfl
theorem min3_any (w : World) (A : Option Addr) (a : Int) (l : List Int) (n c : Nat) (hn : n = l.length + 1) (hl : n ≤ 1000) (hA : Cells w w.heap.size A ((a :: l).map iv)) :
    Calls Tryd.prog 66 #[.slice A n c] w fun e w' => e = .returned (.int .i64 (lo a l)) ∧ w = w' := by
  subst hn
  have hlen : ((a :: l).map iv).length = l.length + 1 := by simp
  obtain ⟨b, off, rfl, hb, hc⟩ := hA.at_ (k := 0) (by simp)
  simp only [List.getElem_map, List.getElem_cons_zero, iv, Nat.add_zero] at hc
  have h1 : ¬ ((l.length + 1 : Nat) : Int) < 1 := by omega
  have h2 : (0 : Int) < ((l.length + 1 : Nat) : Int) := by omega
  obtain ⟨n, hn⟩ : ∃ n, l.length + 1 = n := ⟨_, rfl⟩
  have HN := Lib.hid hn
  rw [hn] at h1 h2 ⊢
  clear hn
  go_enter Tryd.func66, Tryd.ntmps66
  go_wp2_with fail
  clear h1 h2 hc
  go_loop [3, 4] (fun s i => ∃ j : Nat, i = .int .i64 ((j + 1 : Nat) : Int) ∧ s = .int .i64 (lo a (l.take j)) ∧ j ≤ l.length) (fun _ i => l.length + 1 - (intOf i).toNat)
  case atStart => exact ⟨0, rfl, rfl, Nat.zero_le _⟩
  case round =>
    obtain ⟨j, rfl, rfl, hj⟩ := hrel
    obtain ⟨q, hq⟩ : ∃ q, j + 1 = q := ⟨_, rfl⟩
    obtain ⟨s, hs⟩ : ∃ s, lo a (l.take j) = s := ⟨_, rfl⟩
    rw [hs, hq]
    by_cases hjl : j < l.length
    · obtain ⟨b2, off2, e, hb2, hcell⟩ := hA.at_ (k := q) (by rw [hlen]; omega)
      injection e with e; injection e with e1 e2; subst e1; subst e2
      have hv : ((a :: l).map iv)[q]'(by rw [hlen]; omega) = .int .i64 l[j] := by subst hq; simp [iv]
      rw [hv] at hcell
      have h1 : (q : Int) < (n : Int) := by have := HN.out; omega
      have h0 : (0 : Int) ≤ (q : Int) := by omega
      have hnb : (n : Int) ≤ 1000 := by have := HN.out; omega
      obtain ⟨z, hz⟩ : ∃ z, min s l[j] = z := ⟨_, rfl⟩
      have hrun := fun W => run_min3 _ _ _ hz W
      have HZ := Lib.hid (And.intro hz (And.intro hs hq))
      clear hz hs hq hv
      go_wp2_with fail
      go_round
      case rel =>
        refine ⟨j + 1, ?_, ?_, hjl⟩
        · have h2 := HZ.out.2.2; exact congrArg (Value.int .i64) (by omega)
        · rw [← HZ.out.1, ← HZ.out.2.1, List.take_succ_eq_append_getElem hjl]; rw [lo_snoc]
      case measure =>
        have h2 := HZ.out.2.2
        simp [intOf]
        omega
    · obtain rfl : j = l.length := by omega
      have h1 : ¬ (q : Int) < (n : Int) := by have := HN.out; omega
      rw [List.take_length] at hs
      subst hs
      go_wp2_with fail
      go_ret
      exact ⟨rfl, rfl⟩
theorem max3_any (w : World) (A : Option Addr) (a : Int) (l : List Int) (n c : Nat) (hn : n = l.length + 1) (hl : n ≤ 1000) (hA : Cells w w.heap.size A ((a :: l).map iv)) :
    Calls Tryd.prog 67 #[.slice A n c] w fun e w' => e = .returned (.int .i64 (hi a l)) ∧ w = w' := by
  subst hn
  have hlen : ((a :: l).map iv).length = l.length + 1 := by simp
  obtain ⟨b, off, rfl, hb, hc⟩ := hA.at_ (k := 0) (by simp)
  simp only [List.getElem_map, List.getElem_cons_zero, iv, Nat.add_zero] at hc
  have h1 : ¬ ((l.length + 1 : Nat) : Int) < 1 := by omega
  have h2 : (0 : Int) < ((l.length + 1 : Nat) : Int) := by omega
  obtain ⟨n, hn⟩ : ∃ n, l.length + 1 = n := ⟨_, rfl⟩
  have HN := Lib.hid hn
  rw [hn] at h1 h2 ⊢
  clear hn
  go_enter Tryd.func67, Tryd.ntmps67
  go_wp2_with fail
  clear h1 h2 hc
  go_loop [3, 4] (fun s i => ∃ j : Nat, i = .int .i64 ((j + 1 : Nat) : Int) ∧ s = .int .i64 (hi a (l.take j)) ∧ j ≤ l.length) (fun _ i => l.length + 1 - (intOf i).toNat)
  case atStart => exact ⟨0, rfl, rfl, Nat.zero_le _⟩
  case round =>
    obtain ⟨j, rfl, rfl, hj⟩ := hrel
    obtain ⟨q, hq⟩ : ∃ q, j + 1 = q := ⟨_, rfl⟩
    obtain ⟨s, hs⟩ : ∃ s, hi a (l.take j) = s := ⟨_, rfl⟩
    rw [hs, hq]
    by_cases hjl : j < l.length
    · obtain ⟨b2, off2, e, hb2, hcell⟩ := hA.at_ (k := q) (by rw [hlen]; omega)
      injection e with e; injection e with e1 e2; subst e1; subst e2
      have hv : ((a :: l).map iv)[q]'(by rw [hlen]; omega) = .int .i64 l[j] := by subst hq; simp [iv]
      rw [hv] at hcell
      have h1 : (q : Int) < (n : Int) := by have := HN.out; omega
      have h0 : (0 : Int) ≤ (q : Int) := by omega
      have hnb : (n : Int) ≤ 1000 := by have := HN.out; omega
      obtain ⟨z, hz⟩ : ∃ z, max s l[j] = z := ⟨_, rfl⟩
      have hrun := fun W => run_max3 _ _ _ hz W
      have HZ := Lib.hid (And.intro hz (And.intro hs hq))
      clear hz hs hq hv
      go_wp2_with fail
      go_round
      case rel =>
        refine ⟨j + 1, ?_, ?_, hjl⟩
        · have h2 := HZ.out.2.2; exact congrArg (Value.int .i64) (by omega)
        · rw [← HZ.out.1, ← HZ.out.2.1, List.take_succ_eq_append_getElem hjl]; rw [hi_snoc]
      case measure =>
        have h2 := HZ.out.2.2
        simp [intOf]
        omega
    · obtain rfl : j = l.length := by omega
      have h1 : ¬ (q : Int) < (n : Int) := by have := HN.out; omega
      rw [List.take_length] at hs
      subst hs
      go_wp2_with fail
      go_ret
      exact ⟨rfl, rfl⟩
theorem min6_any (w : World) (A : Option Addr) (a : Int) (l : List Int) (n c : Nat) (hn : n = l.length + 1) (hl : n ≤ 1000) (hA : Cells w w.heap.size A ((a :: l).map iv)) :
    Calls Tryd.prog 68 #[.slice A n c] w fun e w' => e = .returned (.int .i64 (lo a l)) ∧ w = w' := by
  subst hn
  have hlen : ((a :: l).map iv).length = l.length + 1 := by simp
  obtain ⟨b, off, rfl, hb, hc⟩ := hA.at_ (k := 0) (by simp)
  simp only [List.getElem_map, List.getElem_cons_zero, iv, Nat.add_zero] at hc
  have h1 : ¬ ((l.length + 1 : Nat) : Int) < 1 := by omega
  have h2 : (0 : Int) < ((l.length + 1 : Nat) : Int) := by omega
  obtain ⟨n, hn⟩ : ∃ n, l.length + 1 = n := ⟨_, rfl⟩
  have HN := Lib.hid hn
  rw [hn] at h1 h2 ⊢
  clear hn
  go_enter Tryd.func68, Tryd.ntmps68
  go_wp2_with fail
  clear h1 h2 hc
  go_loop [3, 4] (fun s i => ∃ j : Nat, i = .int .i64 ((j + 1 : Nat) : Int) ∧ s = .int .i64 (lo a (l.take j)) ∧ j ≤ l.length) (fun _ i => l.length + 1 - (intOf i).toNat)
  case atStart => exact ⟨0, rfl, rfl, Nat.zero_le _⟩
  case round =>
    obtain ⟨j, rfl, rfl, hj⟩ := hrel
    obtain ⟨q, hq⟩ : ∃ q, j + 1 = q := ⟨_, rfl⟩
    obtain ⟨s, hs⟩ : ∃ s, lo a (l.take j) = s := ⟨_, rfl⟩
    rw [hs, hq]
    by_cases hjl : j < l.length
    · obtain ⟨b2, off2, e, hb2, hcell⟩ := hA.at_ (k := q) (by rw [hlen]; omega)
      injection e with e; injection e with e1 e2; subst e1; subst e2
      have hv : ((a :: l).map iv)[q]'(by rw [hlen]; omega) = .int .i64 l[j] := by subst hq; simp [iv]
      rw [hv] at hcell
      have h1 : (q : Int) < (n : Int) := by have := HN.out; omega
      have h0 : (0 : Int) ≤ (q : Int) := by omega
      have hnb : (n : Int) ≤ 1000 := by have := HN.out; omega
      obtain ⟨z, hz⟩ : ∃ z, min s l[j] = z := ⟨_, rfl⟩
      have hrun := fun W => run_min6 _ _ _ hz W
      have HZ := Lib.hid (And.intro hz (And.intro hs hq))
      clear hz hs hq hv
      go_wp2_with fail
      go_round
      case rel =>
        refine ⟨j + 1, ?_, ?_, hjl⟩
        · have h2 := HZ.out.2.2; exact congrArg (Value.int .i64) (by omega)
        · rw [← HZ.out.1, ← HZ.out.2.1, List.take_succ_eq_append_getElem hjl]; rw [lo_snoc]
      case measure =>
        have h2 := HZ.out.2.2
        simp [intOf]
        omega
    · obtain rfl : j = l.length := by omega
      have h1 : ¬ (q : Int) < (n : Int) := by have := HN.out; omega
      rw [List.take_length] at hs
      subst hs
      go_wp2_with fail
      go_ret
      exact ⟨rfl, rfl⟩
theorem max6_any (w : World) (A : Option Addr) (a : Int) (l : List Int) (n c : Nat) (hn : n = l.length + 1) (hl : n ≤ 1000) (hA : Cells w w.heap.size A ((a :: l).map iv)) :
    Calls Tryd.prog 69 #[.slice A n c] w fun e w' => e = .returned (.int .i64 (hi a l)) ∧ w = w' := by
  subst hn
  have hlen : ((a :: l).map iv).length = l.length + 1 := by simp
  obtain ⟨b, off, rfl, hb, hc⟩ := hA.at_ (k := 0) (by simp)
  simp only [List.getElem_map, List.getElem_cons_zero, iv, Nat.add_zero] at hc
  have h1 : ¬ ((l.length + 1 : Nat) : Int) < 1 := by omega
  have h2 : (0 : Int) < ((l.length + 1 : Nat) : Int) := by omega
  obtain ⟨n, hn⟩ : ∃ n, l.length + 1 = n := ⟨_, rfl⟩
  have HN := Lib.hid hn
  rw [hn] at h1 h2 ⊢
  clear hn
  go_enter Tryd.func69, Tryd.ntmps69
  go_wp2_with fail
  clear h1 h2 hc
  go_loop [3, 4] (fun s i => ∃ j : Nat, i = .int .i64 ((j + 1 : Nat) : Int) ∧ s = .int .i64 (hi a (l.take j)) ∧ j ≤ l.length) (fun _ i => l.length + 1 - (intOf i).toNat)
  case atStart => exact ⟨0, rfl, rfl, Nat.zero_le _⟩
  case round =>
    obtain ⟨j, rfl, rfl, hj⟩ := hrel
    obtain ⟨q, hq⟩ : ∃ q, j + 1 = q := ⟨_, rfl⟩
    obtain ⟨s, hs⟩ : ∃ s, hi a (l.take j) = s := ⟨_, rfl⟩
    rw [hs, hq]
    by_cases hjl : j < l.length
    · obtain ⟨b2, off2, e, hb2, hcell⟩ := hA.at_ (k := q) (by rw [hlen]; omega)
      injection e with e; injection e with e1 e2; subst e1; subst e2
      have hv : ((a :: l).map iv)[q]'(by rw [hlen]; omega) = .int .i64 l[j] := by subst hq; simp [iv]
      rw [hv] at hcell
      have h1 : (q : Int) < (n : Int) := by have := HN.out; omega
      have h0 : (0 : Int) ≤ (q : Int) := by omega
      have hnb : (n : Int) ≤ 1000 := by have := HN.out; omega
      obtain ⟨z, hz⟩ : ∃ z, max s l[j] = z := ⟨_, rfl⟩
      have hrun := fun W => run_max6 _ _ _ hz W
      have HZ := Lib.hid (And.intro hz (And.intro hs hq))
      clear hz hs hq hv
      go_wp2_with fail
      go_round
      case rel =>
        refine ⟨j + 1, ?_, ?_, hjl⟩
        · have h2 := HZ.out.2.2; exact congrArg (Value.int .i64) (by omega)
        · rw [← HZ.out.1, ← HZ.out.2.1, List.take_succ_eq_append_getElem hjl]; rw [hi_snoc]
      case measure =>
        have h2 := HZ.out.2.2
        simp [intOf]
        omega
    · obtain rfl : j = l.length := by omega
      have h1 : ¬ (q : Int) < (n : Int) := by have := HN.out; omega
      rw [List.take_length] at hs
      subst hs
      go_wp2_with fail
      go_ret
      exact ⟨rfl, rfl⟩

theorem within3_any (w : World) (A : Option Addr) (top a : Int) (l : List Int) (n c : Nat) (hn : n = l.length + 1) (hl : n ≤ 1000) (hA : Cells w w.heap.size A ((a :: l).map iv)) :
    Calls Tryd.prog 49 #[.int .i64 top, .slice A n c] w fun e w' => e = .returned (.bool (decide (0 ≤ lo a l) && decide (hi a l ≤ top))) ∧ w = w' := by
  have HN := Lib.hid hn
  clear hn
  by_cases h0 : 0 ≤ lo a l
  · have d0 : decide (0 ≤ lo a l) = true := decide_eq_true h0
    go_enter Tryd.func49, Tryd.ntmps49
    go_wp2_with fail
    refine (min3_any w A a l n c HN.out hl hA).mono ?_
    rintro e w1 ⟨rfl, rfl⟩
    go_wp2_with fail
    refine (max3_any w A a l n c HN.out hl hA).mono ?_
    rintro e w1 ⟨rfl, rfl⟩
    go_wp2_with fail
    go_ret
    exact ⟨by rw [d0]; rfl, rfl⟩
  · have d0 : decide (0 ≤ lo a l) = false := decide_eq_false h0
    go_enter Tryd.func49, Tryd.ntmps49
    go_wp2_with fail
    refine (min3_any w A a l n c HN.out hl hA).mono ?_
    rintro e w1 ⟨rfl, rfl⟩
    go_wp2_with fail
    go_ret
    exact ⟨by rw [d0]; rfl, rfl⟩

theorem within6_any (w : World) (A : Option Addr) (top a : Int) (l : List Int) (n c : Nat) (hn : n = l.length + 1) (hl : n ≤ 1000) (hA : Cells w w.heap.size A ((a :: l).map iv)) :
    Calls Tryd.prog 50 #[.int .i64 top, .slice A n c] w fun e w' => e = .returned (.bool (decide (0 ≤ lo a l) && decide (hi a l ≤ top))) ∧ w = w' := by
  have HN := Lib.hid hn
  clear hn
  by_cases h0 : 0 ≤ lo a l
  · have d0 : decide (0 ≤ lo a l) = true := decide_eq_true h0
    go_enter Tryd.func50, Tryd.ntmps50
    go_wp2_with fail
    refine (min6_any w A a l n c HN.out hl hA).mono ?_
    rintro e w1 ⟨rfl, rfl⟩
    go_wp2_with fail
    refine (max6_any w A a l n c HN.out hl hA).mono ?_
    rintro e w1 ⟨rfl, rfl⟩
    go_wp2_with fail
    go_ret
    exact ⟨by rw [d0]; rfl, rfl⟩
  · have d0 : decide (0 ≤ lo a l) = false := decide_eq_false h0
    go_enter Tryd.func50, Tryd.ntmps50
    go_wp2_with fail
    refine (min6_any w A a l n c HN.out hl hA).mono ?_
    rintro e w1 ⟨rfl, rfl⟩
    go_wp2_with fail
    go_ret
    exact ⟨by rw [d0]; rfl, rfl⟩

theorem within_one (top a : Int) : (decide (0 ≤ lo a []) && decide (hi a [] ≤ top)) = wi top a := rfl
theorem within_three (top a b c : Int) : (decide (0 ≤ lo a [b, c]) && decide (hi a [b, c] ≤ top)) = (wi top a && wi top b && wi top c) := by
  rw [Bool.eq_iff_iff]
  simp only [lo, hi, wi, List.foldl_cons, List.foldl_nil, Int.le_min, Int.max_le, Bool.and_eq_true, decide_eq_true_eq]
  constructor
  · rintro ⟨h1, h2⟩
    refine ⟨⟨⟨?_, ?_⟩, ?_, ?_⟩, ?_, ?_⟩ <;> omega
  · rintro ⟨⟨⟨h1, h2⟩, h3, h4⟩, h5, h6⟩
    constructor <;> omega

theorem eqB_any (w : World) (A B : Option Addr) (a b : List UInt8) (n c m d : Nat) (hn : n = a.length) (hm : m = b.length) (hA : Bytes w w.heap.size A a) (hB : Bytes w w.heap.size B b) (hl : n ≤ maxLen) :
    Calls Tryd.prog 42 #[.slice A n c, .slice B m d] w fun e w' => e = .returned (.bool (decide (a = b))) ∧ Below w.heap.size w w' := by
  subst hn; subst hm
  by_cases hlen : a.length = b.length
  · have h1 : ((a.length : Nat) : Int) = ((b.length : Nat) : Int) := by omega
    obtain ⟨n, hn⟩ : ∃ n, a.length = n := ⟨_, rfl⟩
    have hm : b.length = n := by omega
    rw [hn, hm]
    rw [hn] at hl
    clear h1 hlen
    unfold maxLen at hl
    go_enter Tryd.func42, Tryd.ntmps42
    go_wp2_with fail
    go_loopw [5, 13] (fun t i wr => ∃ j : Nat, i = .int .i64 (j : Int) ∧ j ≤ n ∧ a.take j = b.take j ∧ Below w.heap.size w wr) (fun _ i _ => n - (intOf i).toNat)
    case atStart => exact ⟨0, rfl, Nat.zero_le _, rfl, Below.refl _ _⟩
    case round =>
      obtain ⟨j, rfl, hj, ht, hb⟩ := hrel
      by_cases hjl : j < n
      · have ja : j < a.length := by omega
        have jb : j < b.length := by omega
        obtain ⟨b1, o1, rfl, _, c1⟩ := (hA.below hb).at_ ja
        obtain ⟨b2, o2, rfl, _, c2⟩ := (hB.below hb).at_ jb
        have h1 : (j : Int) < (n : Int) := by omega
        have h0 : (0 : Int) ≤ (j : Int) := by omega
        have hd : decide (((a[j].toNat : Nat) : Int) = ((b[j].toNat : Nat) : Int)) = decide (a[j] = b[j]) := by
          rw [Bool.eq_iff_iff, decide_eq_true_iff, decide_eq_true_iff]
          exact ⟨fun h => UInt8.toNat_inj.1 (by omega), fun h => by rw [h]⟩
        obtain ⟨x, hx⟩ : ∃ x, a[j].toNat = x := ⟨_, rfl⟩
        obtain ⟨y, hy⟩ : ∃ y, b[j].toNat = y := ⟨_, rfl⟩
        rw [hx] at c1 hd
        rw [hy] at c2 hd
        by_cases hxy : (x : Int) = (y : Int)
        · have hab : a[j] = b[j] := by rw [decide_eq_true hxy] at hd; exact of_decide_eq_true hd.symm
          have HR := Lib.hid (show a.take (j + 1) = b.take (j + 1) by rw [List.take_succ_eq_append_getElem ja, List.take_succ_eq_append_getElem jb, ht, hab])
          have HW := Lib.hid hb
          clear hd hab ht hx hy hb
          go_wp2_with fail
          go_quiet (fail)
          go_wp2_with fail
          go_roundw
          case rel => exact ⟨j + 1, rfl, hjl, HR.out, nextN HW.out _⟩
          case measure => simp [intOf]; omega
        · have hne : decide (a = b) = false := by
            rw [decide_eq_false hxy] at hd
            exact decide_eq_false fun e => absurd hd (by simp [e])
          have HR := Lib.hid hne
          have HW := Lib.hid hb
          clear hd hne ht hx hy hb
          go_wp2_with fail
          go_quiet (fail)
          go_wp2_with fail
          go_ret
          exact ⟨by rw [HR.out]; rfl, nextN HW.out _⟩
      · obtain rfl : j = n := by omega
        have hab : decide (a = b) = true := by
          rw [List.take_of_length_le (by omega), List.take_of_length_le (by omega)] at ht
          exact decide_eq_true ht
        go_wp2_with fail
        go_ret
        exact ⟨by rw [hab]; rfl, hb⟩
  · have h1 : ¬ ((a.length : Nat) : Int) = ((b.length : Nat) : Int) := by omega
    have hab : decide (a = b) = false := decide_eq_false fun e => hlen (by rw [e])
    rw [hab]
    clear hab hlen
    go_enter Tryd.func42, Tryd.ntmps42
    go_wp2_with fail
    go_ret
    exact ⟨rfl, Below.refl _ _⟩
theorem eqI_any (w : World) (A B : Option Addr) (a b : List Int) (n c m d : Nat) (hn : n = a.length) (hm : m = b.length) (hA : Cells w w.heap.size A (a.map iv)) (hB : Cells w w.heap.size B (b.map iv)) (hl : n ≤ maxLen) :
    Calls Tryd.prog 41 #[.slice A n c, .slice B m d] w fun e w' => e = .returned (.bool (decide (a = b))) ∧ Below w.heap.size w w' := by
  subst hn; subst hm
  by_cases hlen : a.length = b.length
  · have h1 : ((a.length : Nat) : Int) = ((b.length : Nat) : Int) := by omega
    obtain ⟨n, hn⟩ : ∃ n, a.length = n := ⟨_, rfl⟩
    have hm : b.length = n := by omega
    rw [hn, hm]
    rw [hn] at hl
    clear h1 hlen
    unfold maxLen at hl
    go_enter Tryd.func41, Tryd.ntmps41
    go_wp2_with fail
    go_loopw [5, 13] (fun t i wr => ∃ j : Nat, i = .int .i64 (j : Int) ∧ j ≤ n ∧ a.take j = b.take j ∧ Below w.heap.size w wr) (fun _ i _ => n - (intOf i).toNat)
    case atStart => exact ⟨0, rfl, Nat.zero_le _, rfl, Below.refl _ _⟩
    case round =>
      obtain ⟨j, rfl, hj, ht, hb⟩ := hrel
      by_cases hjl : j < n
      · have ja : j < a.length := by omega
        have jb : j < b.length := by omega
        obtain ⟨b1, o1, rfl, _, c1⟩ := (hA.below hb).at_ (k := j) (by simpa using ja)
        obtain ⟨b2, o2, rfl, _, c2⟩ := (hB.below hb).at_ (k := j) (by simpa using jb)
        simp only [List.getElem_map, iv] at c1 c2
        have h1 : (j : Int) < (n : Int) := by omega
        have h0 : (0 : Int) ≤ (j : Int) := by omega
        have hd : decide (a[j] = b[j]) = decide (a[j] = b[j]) := rfl
        obtain ⟨x, hx⟩ : ∃ x, a[j] = x := ⟨_, rfl⟩
        obtain ⟨y, hy⟩ : ∃ y, b[j] = y := ⟨_, rfl⟩
        rw [hx] at c1
        rw [hy] at c2
        by_cases hxy : x = y
        · have hab : a[j] = b[j] := by rw [hx, hy, hxy]
          have HR := Lib.hid (show a.take (j + 1) = b.take (j + 1) by rw [List.take_succ_eq_append_getElem ja, List.take_succ_eq_append_getElem jb, ht, hab])
          have HW := Lib.hid hb
          clear hd hab ht hx hy hb
          go_wp2_with fail
          go_quiet (fail)
          go_wp2_with fail
          go_roundw
          case rel => exact ⟨j + 1, rfl, hjl, HR.out, nextN HW.out _⟩
          case measure => simp [intOf]; omega
        · have hne : decide (a = b) = false := by
            exact decide_eq_false fun e => hxy (by rw [← hx, ← hy]; simp [e])
          have HR := Lib.hid hne
          have HW := Lib.hid hb
          clear hd hne ht hx hy hb
          go_wp2_with fail
          go_quiet (fail)
          go_wp2_with fail
          go_ret
          exact ⟨by rw [HR.out]; rfl, nextN HW.out _⟩
      · obtain rfl : j = n := by omega
        have hab : decide (a = b) = true := by
          rw [List.take_of_length_le (by omega), List.take_of_length_le (by omega)] at ht
          exact decide_eq_true ht
        go_wp2_with fail
        go_ret
        exact ⟨by rw [hab]; rfl, hb⟩
  · have h1 : ¬ ((a.length : Nat) : Int) = ((b.length : Nat) : Int) := by omega
    have hab : decide (a = b) = false := decide_eq_false fun e => hlen (by rw [e])
    rw [hab]
    clear hab hlen
    go_enter Tryd.func41, Tryd.ntmps41
    go_wp2_with fail
    go_ret
    exact ⟨rfl, Below.refl _ _⟩
/-- An id's two cells. -/
def dc (x : List UInt8 × Int) : List Value := [.string (str x.1), .int .i64 x.2]
theorem dc_len (l : List (List UInt8 × Int)) : (l.flatMap dc).length = 2 * l.length := by
  induction l with
  | nil => rfl
  | cons a r ih => rw [List.flatMap_cons, List.length_append, ih]; simp [dc]; omega
theorem dc_at (l : List (List UInt8 × Int)) (j : Nat) (hj : j < l.length) : (l.flatMap dc)[2 * j]? = some (.string (str l[j].1)) ∧ (l.flatMap dc)[2 * j + 1]? = some (.int .i64 l[j].2) := by
  induction l generalizing j with
  | nil => simp at hj
  | cons a r ih =>
    rw [List.flatMap_cons]
    cases j with
    | zero => exact ⟨rfl, rfl⟩
    | succ j =>
      have h := ih j (by simpa using hj)
      rw [List.getElem?_append_right (by simp [dc]; omega), List.getElem?_append_right (by simp [dc]; omega), show 2 * (j + 1) - (dc a).length = 2 * j by simp [dc]; omega, show 2 * (j + 1) + 1 - (dc a).length = 2 * j + 1 by simp [dc]; omega]
      exact h
theorem ids_at {w : World} {B : Nat} {A : Option Addr} {l : List (List UInt8 × Int)} (h : Cells w B A (l.flatMap dc)) {j : Nat} (hj : j < l.length) :
    ∃ b off, A = some ⟨b, off, none⟩ ∧ b < B ∧ w.cell? ⟨b, off + j * 2, none⟩ = some (.string (str l[j].1)) ∧ w.cell? ⟨b, off + j * 2 + 1, none⟩ = some (.int .i64 l[j].2) := by
  obtain ⟨b, off, e, hb, hc⟩ := h (by rw [dc_len]; omega)
  refine ⟨b, off, e, hb, ?_, ?_⟩
  · rw [Nat.mul_comm]; exact hc _ _ (dc_at l j hj).1
  · rw [Nat.mul_comm, Nat.add_assoc]; exact hc _ _ (dc_at l j hj).2
theorem str_beq (a b : List UInt8) : ((str a).toList == (str b).toList) = decide (a = b) := by
  rw [str_toList, str_toList, Bool.eq_iff_iff, beq_iff_eq, decide_eq_true_iff]
theorem idGuard : Tryd.prog.eqGuardType Tryd.prog.depth 50 = false := by kernel_rfl
theorem neq_id (W : World) (a b : List UInt8 × Int) : (binOp BinOp.neq 50 (.agg #[.string (str a.1), .int .i64 a.2]) (.agg #[.string (str b.1), .int .i64 b.2])).run Tryd.prog W = .ok (.bool (!(decide (a = b)))) W := by
  have u3 := Tryd.underlying9
  have a3 := Tryd.isAgg9
  have z3 := Tryd.sizeOf9
  have u2 := Tryd.underlying2
  have a2 := Tryd.isAgg2
  have z2 := Tryd.sizeOf2
  have hS : Tryd.prog.underlying 50 = some (.struct (Tryd.prog.fieldsOf 50)) := by kernel_rfl
  have hp : Tryd.prog.stoodInHeld 50 = false := by kernel_rfl
  rw [run_neq_struct, show (10000 : Nat) = 9999 + 1 from rfl, run_equalIn_agg W 9999 50 _ _ hS hp]
  simp only [Program.fieldsOf, Tryd.underlying50]
  go_simp
  obtain ⟨a1, a2⟩ := a
  obtain ⟨b1, b2⟩ := b
  by_cases h1 : a1 = b1
  · by_cases h2 : a2 = b2 <;> simp [h1, h2]
  · have h3 : ¬ (str a1).toList = (str b1).toList := by rw [str_toList, str_toList]; exact h1
    by_cases h2 : a2 = b2 <;> simp [h1, h2, h3]
theorem eqD_any (w : World) (A B : Option Addr) (a b : List (List UInt8 × Int)) (n c m d : Nat) (hn : n = a.length) (hm : m = b.length) (hA : Cells w w.heap.size A (a.flatMap dc)) (hB : Cells w w.heap.size B (b.flatMap dc)) (hl : n ≤ maxLen) :
    Calls Tryd.prog 40 #[.slice A n c, .slice B m d] w fun e w' => e = .returned (.bool (decide (a = b))) ∧ Below w.heap.size w w' := by
  subst hn; subst hm
  by_cases hlen : a.length = b.length
  · have h1 : ((a.length : Nat) : Int) = ((b.length : Nat) : Int) := by omega
    obtain ⟨n, hn⟩ : ∃ n, a.length = n := ⟨_, rfl⟩
    have hm : b.length = n := by omega
    rw [hn, hm]
    rw [hn] at hl
    clear h1 hlen
    unfold maxLen at hl
    go_enter Tryd.func40, Tryd.ntmps40
    go_wp2_with fail
    go_loopw [5, 13] (fun t i wr => ∃ j : Nat, i = .int .i64 (j : Int) ∧ j ≤ n ∧ a.take j = b.take j ∧ Below w.heap.size w wr) (fun _ i _ => n - (intOf i).toNat)
    case atStart => exact ⟨0, rfl, Nat.zero_le _, rfl, Below.refl _ _⟩
    case round =>
      obtain ⟨j, rfl, hj, ht, hb⟩ := hrel
      by_cases hjl : j < n
      · have ja : j < a.length := by omega
        have jb : j < b.length := by omega
        obtain ⟨b1, o1, rfl, _, c1, c1'⟩ := ids_at (hA.below hb) ja
        obtain ⟨b2, o2, rfl, _, c2, c2'⟩ := ids_at (hB.below hb) jb
        have h1 : (j : Int) < (n : Int) := by omega
        have h0 : (0 : Int) ≤ (j : Int) := by omega
        have hrun := fun W => neq_id W a[j] b[j]
        obtain ⟨⟨x1, x2⟩, hx⟩ : ∃ x, a[j] = x := ⟨_, rfl⟩
        obtain ⟨⟨y1, y2⟩, hy⟩ : ∃ y, b[j] = y := ⟨_, rfl⟩
        rw [hx] at c1 c1' hrun
        rw [hy] at c2 c2' hrun
        dsimp only at c1 c1' c2 c2' hrun
        have HW := Lib.hid hb
        by_cases hxy : (x1, x2) = (y1, y2)
        · have HR := Lib.hid (show a.take (j + 1) = b.take (j + 1) by rw [List.take_succ_eq_append_getElem ja, List.take_succ_eq_append_getElem jb, ht, hx, hy, hxy])
          rw [decide_eq_true hxy] at hrun
          clear ht hx hy hb hxy
          go_wp2_with fail
          go_quiet (fail)
          go_wp2_with fail
          go_roundw
          case rel => exact ⟨j + 1, rfl, hjl, HR.out, nextN HW.out _⟩
          case measure => simp [intOf]; omega
        · have HR := Lib.hid (show decide (a = b) = false from decide_eq_false fun e => hxy (by rw [← hx, ← hy]; simp [e]))
          rw [decide_eq_false hxy] at hrun
          clear ht hx hy hb hxy
          go_wp2_with fail
          go_quiet (fail)
          go_wp2_with fail
          go_ret
          exact ⟨by rw [HR.out]; rfl, nextN HW.out _⟩
      · obtain rfl : j = n := by omega
        have hab : decide (a = b) = true := by
          rw [List.take_of_length_le (by omega), List.take_of_length_le (by omega)] at ht
          exact decide_eq_true ht
        go_wp2_with fail
        go_ret
        exact ⟨by rw [hab]; rfl, hb⟩
  · have h1 : ¬ ((a.length : Nat) : Int) = ((b.length : Nat) : Int) := by omega
    have hab : decide (a = b) = false := decide_eq_false fun e => hlen (by rw [e])
    rw [hab]
    clear hab hlen
    go_enter Tryd.func40, Tryd.ntmps40
    go_wp2_with fail
    go_ret
    exact ⟨rfl, Below.refl _ _⟩
end Go.Proofs.YtebdmfmadbikaaaDoor.WiW
