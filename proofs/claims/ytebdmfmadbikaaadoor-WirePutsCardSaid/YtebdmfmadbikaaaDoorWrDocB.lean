/- The document's bytes of a number: 1, 2, 4 or 8 of them. A copy of XFieldsBytes over package wire. -/
import Derived.Test.YtebdmfmadbikaaaDoorWrDoc3
namespace Go.Proofs.YtebdmfmadbikaaaDoor.FdW
open Go.RowKit Mem Fds
set_option linter.unusedVariables false
set_option linter.unusedSimpArgs false

theorem set_be (W j n : Nat) (hj : j < W) : (List.replicate (W - j) (0 : UInt8) ++ be j n).set (W - j - 1) (UInt8.ofNat (n / 256 ^ j)) = List.replicate (W - (j + 1)) 0 ++ be (j + 1) n := by
  obtain ⟨m, hm⟩ : ∃ m, W - j = m + 1 := ⟨W - j - 1, by omega⟩
  rw [hm, show W - (j + 1) = m by omega, Nat.add_sub_cancel, List.replicate_succ', be, List.append_assoc, List.set_append_right _ _ (by simp)]
  simp
/-- One more byte. -/
theorem own_be {wr : World} {base g c W j n q : Nat} (ho : Mem.Own wr base 5 (some ⟨g, 0, none⟩) c ((List.replicate (W - j) (0 : UInt8) ++ be j n).map u8v)) (hj : j < W) (hq : q = n / 256 ^ j) (v : Int) (hv : v = ((q % 256 : Nat) : Int)) :
    Mem.Own (wr.setCell ⟨g, W - j - 1, none⟩ (.int .u8 v)) base 5 (some ⟨g, 0, none⟩) c ((List.replicate (W - (j + 1)) (0 : UInt8) ++ be (j + 1) n).map u8v) := by
  subst hq; subst hv
  have := own_set ho (k := W - j - 1) (by simp [be_len]; omega) _ (UInt8.ofNat (n / 256 ^ j)) (by rw [UInt8.toNat_ofNat'])
  rwa [set_be W j n hj] at this
theorem free_be {wr : World} {base g c W j n : Nat} (ho : Mem.Own wr base 5 (some ⟨g, 0, none⟩) c ((List.replicate (W - j) (0 : UInt8) ++ be j n).map u8v)) (hj : j < W) : wr.frozen? ⟨g, W - j - 1, none⟩ = false ∧ ∃ u, wr.cell? ⟨g, W - j - 1, none⟩ = some u := by
  obtain ⟨g', hq, _, _, h3, h4, _⟩ := ho.at_ (k := W - j - 1) (by simp [be_len]; omega)
  injection hq with hq; injection hq with hq1 hq2; subst hq1
  exact ⟨h4, _, h3⟩
theorem div_next {n q j : Nat} (hq : q = n / 256 ^ j) : q / 256 = n / 256 ^ (j + 1) := by rw [hq, Nat.div_div_eq_div_mul, ← Nat.pow_succ]
theorem wrap_div {n q j : Nat} (hq : q = n / 256 ^ j) (hn : n < 256 ^ 8) : IntKind.u64.wrap ((q : Int) / 256) = (q : Int) / 256 := by
  have : q ≤ n := by rw [hq]; exact Nat.div_le_self _ _
  have e : ∀ x : Int, IntKind.u64.wrap x = x % 18446744073709551616 := fun _ => rfl
  rw [e]
  omega
theorem zeros_own (w : World) (W : Nat) (hW : W ≤ 8) (n : Nat) : Mem.Own (w.alloc (.cells (List.replicate W (Value.int .u8 0)).toArray 5)) w.heap.size 5 (some ⟨w.heap.size, 0, none⟩) W ((List.replicate (W - 0) (0 : UInt8) ++ be 0 n).map u8v) := by
  have := own_made w (List.replicate W (Value.int .u8 0)).toArray 5 (by simp [maxLen]; omega) (Nat.le_refl _)
  simpa [be, u8v] using this

theorem make1 (W : World) : (Instr.makeSlice 25 (.int .i64 1) (.int .i64 1)).run Tryd.prog W = .ok (.slice (some ⟨W.heap.size, 0, none⟩) 1 1) (W.alloc (.cells (List.replicate 1 (Value.int .u8 0)).toArray 5)) := by kernel_rfl
set_option maxHeartbeats 1000000 in
theorem bytes1_any (w : World) (n : Nat) (hn : n < 256 ^ 8) :
    Calls Tryd.prog 46 #[.int .u64 (n : Int), .int .i64 1] w (NewOk w (be 1 n)) := by
  have hmk := make1
  have hz := zeros_own w 1 (by decide) n
  have hb := nextA (Mem.start w) (.cells (List.replicate 1 (Value.int .u8 0)).toArray 5)
  have HZ := Lib.hid (And.intro hz hb)
  have HN := Lib.hid hn
  clear hz hb hn
  go_enter Tryd.func46, Tryd.ntmps46
  generalize (List.replicate 1 (Value.int .u8 0)).toArray = zs at *
  go_wp2_with fail
  go_loopw [0, 6] (fun s i wr => ∃ j q : Nat, (j = 0 ∧ i = .int .i64 1 ∨ j = 1 ∧ i = .int .i64 2) ∧ s = .int .u64 (q : Int) ∧ q = n / 256 ^ j ∧ Mem.Own wr w.heap.size 5 (some ⟨w.heap.size, 0, none⟩) 1 ((List.replicate (1 - j) (0 : UInt8) ++ be j n).map u8v) ∧ Below w.heap.size w wr) (fun _ i _ => 1 + 1 - (intOf i).toNat)
  case atStart => exact ⟨0, n, .inl ⟨rfl, rfl⟩, rfl, by simp, HZ.out.1, HZ.out.2⟩
  case round =>
    clear HZ hmk
    obtain ⟨j, q, hrel, rfl, hq, ho, hb⟩ := hrel
    have hwq : IntKind.u64.wrap ((q : Int) / 256) = (q : Int) / 256 := wrap_div hq HN.out
    have HQ := Lib.hid (And.intro hq (And.intro ho hb))
    clear hq ho hb
    rcases hrel with ⟨rfl, rfl⟩ | ⟨rfl, rfl⟩
    · obtain ⟨hf, u, hu⟩ := free_be HQ.out.2.1 (by decide)
      simp only [Nat.sub_zero, Nat.reduceSub] at hf hu
      go_wp2_with fail
      go_roundw
      case rel => exact ⟨1, q / 256, by simp, by simp, div_next HQ.out.1, own_be HQ.out.2.1 (by decide) HQ.out.1 _ (by first | rfl | (simp; done) | omega), HQ.out.2.2.trans (((Fr.refl (fun i => i = w.heap.size) _).setCell (p := ⟨w.heap.size, 0, none⟩) (fun _ => rfl) _).below HQ.out.2.2.size fun k hk => by subst hk; exact Nat.le_refl _)⟩
      case measure => simp [intOf]
    · go_wp2_with fail
      go_ret
      have ho := HQ.out.2.1
      exact ⟨_, _, by rw [be_len]; rfl, by simpa using ho, HQ.out.2.2⟩
theorem make2 (W : World) : (Instr.makeSlice 25 (.int .i64 2) (.int .i64 2)).run Tryd.prog W = .ok (.slice (some ⟨W.heap.size, 0, none⟩) 2 2) (W.alloc (.cells (List.replicate 2 (Value.int .u8 0)).toArray 5)) := by kernel_rfl
set_option maxHeartbeats 1000000 in
theorem bytes2_any (w : World) (n : Nat) (hn : n < 256 ^ 8) :
    Calls Tryd.prog 46 #[.int .u64 (n : Int), .int .i64 2] w (NewOk w (be 2 n)) := by
  have hmk := make2
  have hz := zeros_own w 2 (by decide) n
  have hb := nextA (Mem.start w) (.cells (List.replicate 2 (Value.int .u8 0)).toArray 5)
  have HZ := Lib.hid (And.intro hz hb)
  have HN := Lib.hid hn
  clear hz hb hn
  go_enter Tryd.func46, Tryd.ntmps46
  generalize (List.replicate 2 (Value.int .u8 0)).toArray = zs at *
  go_wp2_with fail
  go_loopw [0, 6] (fun s i wr => ∃ j q : Nat, (j = 0 ∧ i = .int .i64 1 ∨ j = 1 ∧ i = .int .i64 2 ∨ j = 2 ∧ i = .int .i64 3) ∧ s = .int .u64 (q : Int) ∧ q = n / 256 ^ j ∧ Mem.Own wr w.heap.size 5 (some ⟨w.heap.size, 0, none⟩) 2 ((List.replicate (2 - j) (0 : UInt8) ++ be j n).map u8v) ∧ Below w.heap.size w wr) (fun _ i _ => 2 + 1 - (intOf i).toNat)
  case atStart => exact ⟨0, n, .inl ⟨rfl, rfl⟩, rfl, by simp, HZ.out.1, HZ.out.2⟩
  case round =>
    clear HZ hmk
    obtain ⟨j, q, hrel, rfl, hq, ho, hb⟩ := hrel
    have hwq : IntKind.u64.wrap ((q : Int) / 256) = (q : Int) / 256 := wrap_div hq HN.out
    have HQ := Lib.hid (And.intro hq (And.intro ho hb))
    clear hq ho hb
    rcases hrel with ⟨rfl, rfl⟩ | ⟨rfl, rfl⟩ | ⟨rfl, rfl⟩
    · obtain ⟨hf, u, hu⟩ := free_be HQ.out.2.1 (by decide)
      simp only [Nat.sub_zero, Nat.reduceSub] at hf hu
      go_wp2_with fail
      go_roundw
      case rel => exact ⟨1, q / 256, by simp, by simp, div_next HQ.out.1, own_be HQ.out.2.1 (by decide) HQ.out.1 _ (by first | rfl | (simp; done) | omega), HQ.out.2.2.trans (((Fr.refl (fun i => i = w.heap.size) _).setCell (p := ⟨w.heap.size, 1, none⟩) (fun _ => rfl) _).below HQ.out.2.2.size fun k hk => by subst hk; exact Nat.le_refl _)⟩
      case measure => simp [intOf]
    · obtain ⟨hf, u, hu⟩ := free_be HQ.out.2.1 (by decide)
      simp only [Nat.sub_zero, Nat.reduceSub] at hf hu
      go_wp2_with fail
      go_roundw
      case rel => exact ⟨2, q / 256, by simp, by simp, div_next HQ.out.1, own_be HQ.out.2.1 (by decide) HQ.out.1 _ (by first | rfl | (simp; done) | omega), HQ.out.2.2.trans (((Fr.refl (fun i => i = w.heap.size) _).setCell (p := ⟨w.heap.size, 0, none⟩) (fun _ => rfl) _).below HQ.out.2.2.size fun k hk => by subst hk; exact Nat.le_refl _)⟩
      case measure => simp [intOf]
    · go_wp2_with fail
      go_ret
      have ho := HQ.out.2.1
      exact ⟨_, _, by rw [be_len]; rfl, by simpa using ho, HQ.out.2.2⟩
theorem make4 (W : World) : (Instr.makeSlice 25 (.int .i64 4) (.int .i64 4)).run Tryd.prog W = .ok (.slice (some ⟨W.heap.size, 0, none⟩) 4 4) (W.alloc (.cells (List.replicate 4 (Value.int .u8 0)).toArray 5)) := by kernel_rfl
set_option maxHeartbeats 1000000 in
theorem bytes4_any (w : World) (n : Nat) (hn : n < 256 ^ 8) :
    Calls Tryd.prog 46 #[.int .u64 (n : Int), .int .i64 4] w (NewOk w (be 4 n)) := by
  have hmk := make4
  have hz := zeros_own w 4 (by decide) n
  have hb := nextA (Mem.start w) (.cells (List.replicate 4 (Value.int .u8 0)).toArray 5)
  have HZ := Lib.hid (And.intro hz hb)
  have HN := Lib.hid hn
  clear hz hb hn
  go_enter Tryd.func46, Tryd.ntmps46
  generalize (List.replicate 4 (Value.int .u8 0)).toArray = zs at *
  go_wp2_with fail
  go_loopw [0, 6] (fun s i wr => ∃ j q : Nat, (j = 0 ∧ i = .int .i64 1 ∨ j = 1 ∧ i = .int .i64 2 ∨ j = 2 ∧ i = .int .i64 3 ∨ j = 3 ∧ i = .int .i64 4 ∨ j = 4 ∧ i = .int .i64 5) ∧ s = .int .u64 (q : Int) ∧ q = n / 256 ^ j ∧ Mem.Own wr w.heap.size 5 (some ⟨w.heap.size, 0, none⟩) 4 ((List.replicate (4 - j) (0 : UInt8) ++ be j n).map u8v) ∧ Below w.heap.size w wr) (fun _ i _ => 4 + 1 - (intOf i).toNat)
  case atStart => exact ⟨0, n, .inl ⟨rfl, rfl⟩, rfl, by simp, HZ.out.1, HZ.out.2⟩
  case round =>
    clear HZ hmk
    obtain ⟨j, q, hrel, rfl, hq, ho, hb⟩ := hrel
    have hwq : IntKind.u64.wrap ((q : Int) / 256) = (q : Int) / 256 := wrap_div hq HN.out
    have HQ := Lib.hid (And.intro hq (And.intro ho hb))
    clear hq ho hb
    rcases hrel with ⟨rfl, rfl⟩ | ⟨rfl, rfl⟩ | ⟨rfl, rfl⟩ | ⟨rfl, rfl⟩ | ⟨rfl, rfl⟩
    · obtain ⟨hf, u, hu⟩ := free_be HQ.out.2.1 (by decide)
      simp only [Nat.sub_zero, Nat.reduceSub] at hf hu
      go_wp2_with fail
      go_roundw
      case rel => exact ⟨1, q / 256, by simp, by simp, div_next HQ.out.1, own_be HQ.out.2.1 (by decide) HQ.out.1 _ (by first | rfl | (simp; done) | omega), HQ.out.2.2.trans (((Fr.refl (fun i => i = w.heap.size) _).setCell (p := ⟨w.heap.size, 3, none⟩) (fun _ => rfl) _).below HQ.out.2.2.size fun k hk => by subst hk; exact Nat.le_refl _)⟩
      case measure => simp [intOf]
    · obtain ⟨hf, u, hu⟩ := free_be HQ.out.2.1 (by decide)
      simp only [Nat.sub_zero, Nat.reduceSub] at hf hu
      go_wp2_with fail
      go_roundw
      case rel => exact ⟨2, q / 256, by simp, by simp, div_next HQ.out.1, own_be HQ.out.2.1 (by decide) HQ.out.1 _ (by first | rfl | (simp; done) | omega), HQ.out.2.2.trans (((Fr.refl (fun i => i = w.heap.size) _).setCell (p := ⟨w.heap.size, 2, none⟩) (fun _ => rfl) _).below HQ.out.2.2.size fun k hk => by subst hk; exact Nat.le_refl _)⟩
      case measure => simp [intOf]
    · obtain ⟨hf, u, hu⟩ := free_be HQ.out.2.1 (by decide)
      simp only [Nat.sub_zero, Nat.reduceSub] at hf hu
      go_wp2_with fail
      go_roundw
      case rel => exact ⟨3, q / 256, by simp, by simp, div_next HQ.out.1, own_be HQ.out.2.1 (by decide) HQ.out.1 _ (by first | rfl | (simp; done) | omega), HQ.out.2.2.trans (((Fr.refl (fun i => i = w.heap.size) _).setCell (p := ⟨w.heap.size, 1, none⟩) (fun _ => rfl) _).below HQ.out.2.2.size fun k hk => by subst hk; exact Nat.le_refl _)⟩
      case measure => simp [intOf]
    · obtain ⟨hf, u, hu⟩ := free_be HQ.out.2.1 (by decide)
      simp only [Nat.sub_zero, Nat.reduceSub] at hf hu
      go_wp2_with fail
      go_roundw
      case rel => exact ⟨4, q / 256, by simp, by simp, div_next HQ.out.1, own_be HQ.out.2.1 (by decide) HQ.out.1 _ (by first | rfl | (simp; done) | omega), HQ.out.2.2.trans (((Fr.refl (fun i => i = w.heap.size) _).setCell (p := ⟨w.heap.size, 0, none⟩) (fun _ => rfl) _).below HQ.out.2.2.size fun k hk => by subst hk; exact Nat.le_refl _)⟩
      case measure => simp [intOf]
    · go_wp2_with fail
      go_ret
      have ho := HQ.out.2.1
      exact ⟨_, _, by rw [be_len]; rfl, by simpa using ho, HQ.out.2.2⟩
theorem make8 (W : World) : (Instr.makeSlice 25 (.int .i64 8) (.int .i64 8)).run Tryd.prog W = .ok (.slice (some ⟨W.heap.size, 0, none⟩) 8 8) (W.alloc (.cells (List.replicate 8 (Value.int .u8 0)).toArray 5)) := by kernel_rfl
set_option maxHeartbeats 1000000 in
theorem bytes8_any (w : World) (n : Nat) (hn : n < 256 ^ 8) :
    Calls Tryd.prog 46 #[.int .u64 (n : Int), .int .i64 8] w (NewOk w (be 8 n)) := by
  have hmk := make8
  have hz := zeros_own w 8 (by decide) n
  have hb := nextA (Mem.start w) (.cells (List.replicate 8 (Value.int .u8 0)).toArray 5)
  have HZ := Lib.hid (And.intro hz hb)
  have HN := Lib.hid hn
  clear hz hb hn
  go_enter Tryd.func46, Tryd.ntmps46
  generalize (List.replicate 8 (Value.int .u8 0)).toArray = zs at *
  go_wp2_with fail
  go_loopw [0, 6] (fun s i wr => ∃ j q : Nat, (j = 0 ∧ i = .int .i64 1 ∨ j = 1 ∧ i = .int .i64 2 ∨ j = 2 ∧ i = .int .i64 3 ∨ j = 3 ∧ i = .int .i64 4 ∨ j = 4 ∧ i = .int .i64 5 ∨ j = 5 ∧ i = .int .i64 6 ∨ j = 6 ∧ i = .int .i64 7 ∨ j = 7 ∧ i = .int .i64 8 ∨ j = 8 ∧ i = .int .i64 9) ∧ s = .int .u64 (q : Int) ∧ q = n / 256 ^ j ∧ Mem.Own wr w.heap.size 5 (some ⟨w.heap.size, 0, none⟩) 8 ((List.replicate (8 - j) (0 : UInt8) ++ be j n).map u8v) ∧ Below w.heap.size w wr) (fun _ i _ => 8 + 1 - (intOf i).toNat)
  case atStart => exact ⟨0, n, .inl ⟨rfl, rfl⟩, rfl, by simp, HZ.out.1, HZ.out.2⟩
  case round =>
    clear HZ hmk
    obtain ⟨j, q, hrel, rfl, hq, ho, hb⟩ := hrel
    have hwq : IntKind.u64.wrap ((q : Int) / 256) = (q : Int) / 256 := wrap_div hq HN.out
    have HQ := Lib.hid (And.intro hq (And.intro ho hb))
    clear hq ho hb
    rcases hrel with ⟨rfl, rfl⟩ | ⟨rfl, rfl⟩ | ⟨rfl, rfl⟩ | ⟨rfl, rfl⟩ | ⟨rfl, rfl⟩ | ⟨rfl, rfl⟩ | ⟨rfl, rfl⟩ | ⟨rfl, rfl⟩ | ⟨rfl, rfl⟩
    · obtain ⟨hf, u, hu⟩ := free_be HQ.out.2.1 (by decide)
      simp only [Nat.sub_zero, Nat.reduceSub] at hf hu
      go_wp2_with fail
      go_roundw
      case rel => exact ⟨1, q / 256, by simp, by simp, div_next HQ.out.1, own_be HQ.out.2.1 (by decide) HQ.out.1 _ (by first | rfl | (simp; done) | omega), HQ.out.2.2.trans (((Fr.refl (fun i => i = w.heap.size) _).setCell (p := ⟨w.heap.size, 7, none⟩) (fun _ => rfl) _).below HQ.out.2.2.size fun k hk => by subst hk; exact Nat.le_refl _)⟩
      case measure => simp [intOf]
    · obtain ⟨hf, u, hu⟩ := free_be HQ.out.2.1 (by decide)
      simp only [Nat.sub_zero, Nat.reduceSub] at hf hu
      go_wp2_with fail
      go_roundw
      case rel => exact ⟨2, q / 256, by simp, by simp, div_next HQ.out.1, own_be HQ.out.2.1 (by decide) HQ.out.1 _ (by first | rfl | (simp; done) | omega), HQ.out.2.2.trans (((Fr.refl (fun i => i = w.heap.size) _).setCell (p := ⟨w.heap.size, 6, none⟩) (fun _ => rfl) _).below HQ.out.2.2.size fun k hk => by subst hk; exact Nat.le_refl _)⟩
      case measure => simp [intOf]
    · obtain ⟨hf, u, hu⟩ := free_be HQ.out.2.1 (by decide)
      simp only [Nat.sub_zero, Nat.reduceSub] at hf hu
      go_wp2_with fail
      go_roundw
      case rel => exact ⟨3, q / 256, by simp, by simp, div_next HQ.out.1, own_be HQ.out.2.1 (by decide) HQ.out.1 _ (by first | rfl | (simp; done) | omega), HQ.out.2.2.trans (((Fr.refl (fun i => i = w.heap.size) _).setCell (p := ⟨w.heap.size, 5, none⟩) (fun _ => rfl) _).below HQ.out.2.2.size fun k hk => by subst hk; exact Nat.le_refl _)⟩
      case measure => simp [intOf]
    · obtain ⟨hf, u, hu⟩ := free_be HQ.out.2.1 (by decide)
      simp only [Nat.sub_zero, Nat.reduceSub] at hf hu
      go_wp2_with fail
      go_roundw
      case rel => exact ⟨4, q / 256, by simp, by simp, div_next HQ.out.1, own_be HQ.out.2.1 (by decide) HQ.out.1 _ (by first | rfl | (simp; done) | omega), HQ.out.2.2.trans (((Fr.refl (fun i => i = w.heap.size) _).setCell (p := ⟨w.heap.size, 4, none⟩) (fun _ => rfl) _).below HQ.out.2.2.size fun k hk => by subst hk; exact Nat.le_refl _)⟩
      case measure => simp [intOf]
    · obtain ⟨hf, u, hu⟩ := free_be HQ.out.2.1 (by decide)
      simp only [Nat.sub_zero, Nat.reduceSub] at hf hu
      go_wp2_with fail
      go_roundw
      case rel => exact ⟨5, q / 256, by simp, by simp, div_next HQ.out.1, own_be HQ.out.2.1 (by decide) HQ.out.1 _ (by first | rfl | (simp; done) | omega), HQ.out.2.2.trans (((Fr.refl (fun i => i = w.heap.size) _).setCell (p := ⟨w.heap.size, 3, none⟩) (fun _ => rfl) _).below HQ.out.2.2.size fun k hk => by subst hk; exact Nat.le_refl _)⟩
      case measure => simp [intOf]
    · obtain ⟨hf, u, hu⟩ := free_be HQ.out.2.1 (by decide)
      simp only [Nat.sub_zero, Nat.reduceSub] at hf hu
      go_wp2_with fail
      go_roundw
      case rel => exact ⟨6, q / 256, by simp, by simp, div_next HQ.out.1, own_be HQ.out.2.1 (by decide) HQ.out.1 _ (by first | rfl | (simp; done) | omega), HQ.out.2.2.trans (((Fr.refl (fun i => i = w.heap.size) _).setCell (p := ⟨w.heap.size, 2, none⟩) (fun _ => rfl) _).below HQ.out.2.2.size fun k hk => by subst hk; exact Nat.le_refl _)⟩
      case measure => simp [intOf]
    · obtain ⟨hf, u, hu⟩ := free_be HQ.out.2.1 (by decide)
      simp only [Nat.sub_zero, Nat.reduceSub] at hf hu
      go_wp2_with fail
      go_roundw
      case rel => exact ⟨7, q / 256, by simp, by simp, div_next HQ.out.1, own_be HQ.out.2.1 (by decide) HQ.out.1 _ (by first | rfl | (simp; done) | omega), HQ.out.2.2.trans (((Fr.refl (fun i => i = w.heap.size) _).setCell (p := ⟨w.heap.size, 1, none⟩) (fun _ => rfl) _).below HQ.out.2.2.size fun k hk => by subst hk; exact Nat.le_refl _)⟩
      case measure => simp [intOf]
    · obtain ⟨hf, u, hu⟩ := free_be HQ.out.2.1 (by decide)
      simp only [Nat.sub_zero, Nat.reduceSub] at hf hu
      go_wp2_with fail
      go_roundw
      case rel => exact ⟨8, q / 256, by simp, by simp, div_next HQ.out.1, own_be HQ.out.2.1 (by decide) HQ.out.1 _ (by first | rfl | (simp; done) | omega), HQ.out.2.2.trans (((Fr.refl (fun i => i = w.heap.size) _).setCell (p := ⟨w.heap.size, 0, none⟩) (fun _ => rfl) _).below HQ.out.2.2.size fun k hk => by subst hk; exact Nat.le_refl _)⟩
      case measure => simp [intOf]
    · go_wp2_with fail
      go_ret
      have ho := HQ.out.2.1
      exact ⟨_, _, by rw [be_len]; rfl, by simpa using ho, HQ.out.2.2⟩
end Go.Proofs.YtebdmfmadbikaaaDoor.FdW
