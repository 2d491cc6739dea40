/- The walks of package fields' writers, within package wire's. -/
import Derived.Test.YtebdmfmadbikaaaDoorRows
import Derived.Test.YtebdmfmadbikaaaDoorFieldsMath
import Derived.Test.YtebdmfmadbikaaaDoorFr
import Derived.Test.YtebdmfmadbikaaaDoorAppz
import Derived.WalkKit
import Derived.WalkSpells
import Derived.WalkLawsBesides
import Derived.Lib.Hide
import Derived.BigQuiet
import Derived.Deep.QuietTactic
import Derived.Deep.RegionHeld3
import Derived.Deep.RegionLaw
import Derived.Deep.LoopGhost
import Derived.Deep.DeepCutAuto
namespace Go.Proofs.YtebdmfmadbikaaaDoor.FdW
open Go.RowKit Mem Fds
set_option linter.unusedVariables false
set_option linter.unusedSimpArgs false

theorem u8info : (Tryd.prog.info? 5).map (fun i => (i.zero, i.size, i.bytes)) = some (some (.int .u8 0), 1, 1) := by kernel_rfl
theorem as_uint8_uint8 (n : Int) (w : World) : (Instr.typeAssert (.iface 5 (.int .u8 n)) 20 5 true).run Tryd.prog w = .ok (.tuple #[.int .u8 n, .bool true]) w := by kernel_rfl
theorem as_uint8_uint16 (n : Int) (w : World) : (Instr.typeAssert (.iface 5 (.int .u8 n)) 20 64 true).run Tryd.prog w = .ok (.tuple #[.int .u16 0, .bool false]) w := by kernel_rfl
theorem as_uint8_uint32 (n : Int) (w : World) : (Instr.typeAssert (.iface 5 (.int .u8 n)) 20 108 true).run Tryd.prog w = .ok (.tuple #[.int .u32 0, .bool false]) w := by kernel_rfl
theorem as_uint16_uint8 (n : Int) (w : World) : (Instr.typeAssert (.iface 64 (.int .u16 n)) 20 5 true).run Tryd.prog w = .ok (.tuple #[.int .u8 0, .bool false]) w := by kernel_rfl
theorem as_uint16_uint16 (n : Int) (w : World) : (Instr.typeAssert (.iface 64 (.int .u16 n)) 20 64 true).run Tryd.prog w = .ok (.tuple #[.int .u16 n, .bool true]) w := by kernel_rfl
theorem as_uint16_uint32 (n : Int) (w : World) : (Instr.typeAssert (.iface 64 (.int .u16 n)) 20 108 true).run Tryd.prog w = .ok (.tuple #[.int .u32 0, .bool false]) w := by kernel_rfl
theorem as_uint32_uint8 (n : Int) (w : World) : (Instr.typeAssert (.iface 108 (.int .u32 n)) 20 5 true).run Tryd.prog w = .ok (.tuple #[.int .u8 0, .bool false]) w := by kernel_rfl
theorem as_uint32_uint16 (n : Int) (w : World) : (Instr.typeAssert (.iface 108 (.int .u32 n)) 20 64 true).run Tryd.prog w = .ok (.tuple #[.int .u16 0, .bool false]) w := by kernel_rfl
theorem as_uint32_uint32 (n : Int) (w : World) : (Instr.typeAssert (.iface 108 (.int .u32 n)) 20 108 true).run Tryd.prog w = .ok (.tuple #[.int .u32 n, .bool true]) w := by kernel_rfl
theorem as_uint64_uint8 (n : Int) (w : World) : (Instr.typeAssert (.iface 90 (.int .u64 n)) 20 5 true).run Tryd.prog w = .ok (.tuple #[.int .u8 0, .bool false]) w := by kernel_rfl
theorem as_uint64_uint16 (n : Int) (w : World) : (Instr.typeAssert (.iface 90 (.int .u64 n)) 20 64 true).run Tryd.prog w = .ok (.tuple #[.int .u16 0, .bool false]) w := by kernel_rfl
theorem as_uint64_uint32 (n : Int) (w : World) : (Instr.typeAssert (.iface 90 (.int .u64 n)) 20 108 true).run Tryd.prog w = .ok (.tuple #[.int .u32 0, .bool false]) w := by kernel_rfl
theorem size8_any (n : Int) (w : World) : Calls Tryd.prog 72 #[.int .u8 n] w fun e w' => e = .returned (.int .i64 1) ∧ w = w' := by
  have t0 := as_uint8_uint8 n
  go_enter Tryd.func72, Tryd.ntmps72
  go_wp2
  go_ret
  exact ⟨rfl, rfl⟩
theorem size16_any (n : Int) (w : World) : Calls Tryd.prog 73 #[.int .u16 n] w fun e w' => e = .returned (.int .i64 2) ∧ w = w' := by
  have t0 := as_uint16_uint8 n
  have t1 := as_uint16_uint16 n
  go_enter Tryd.func73, Tryd.ntmps73
  go_wp2
  go_ret
  exact ⟨rfl, rfl⟩
theorem size32_any (n : Int) (w : World) : Calls Tryd.prog 78 #[.int .u32 n] w fun e w' => e = .returned (.int .i64 4) ∧ w = w' := by
  have t0 := as_uint32_uint8 n
  have t1 := as_uint32_uint16 n
  have t2 := as_uint32_uint32 n
  go_enter Tryd.func78, Tryd.ntmps78
  go_wp2
  go_ret
  exact ⟨rfl, rfl⟩
theorem size64_any (n : Int) (w : World) : Calls Tryd.prog 77 #[.int .u64 n] w fun e w' => e = .returned (.int .i64 8) ∧ w = w' := by
  have t0 := as_uint64_uint8 n
  have t1 := as_uint64_uint16 n
  have t2 := as_uint64_uint32 n
  go_enter Tryd.func77, Tryd.ntmps77
  go_wp2
  go_ret
  exact ⟨rfl, rfl⟩

/-- A writer at block p: its one field is the slice that begins at A, a row of its own with the bytes l. -/
structure Wr (w : World) (base p : Nat) (A : Option Addr) (c : Nat) (l : List UInt8) : Prop where
  blk : Blk w p 61 #[.slice A l.length c]
  own : Own w base 5 A c (l.map u8v)
  at_ : base ≤ p

/-- What a writer's call may turn: its own block and its row. -/
def WrS (p : Nat) (A : Option Addr) (k : Nat) : Prop := k = p ∨ A.map (·.block) = some k
/-- The row's place behind a call: as it was, or a new block. -/
def WrA (w : World) (A A' : Option Addr) : Prop := ∀ g, A' = some ⟨g, 0, none⟩ → A = some ⟨g, 0, none⟩ ∨ w.heap.size ≤ g
theorem WrA.of {w : World} {A A' : Option Addr} (h : A' = A ∨ A' = some ⟨w.heap.size, 0, none⟩) : WrA w A A' := fun g hg => h.imp (fun e => by rw [← e]; exact hg) fun e => by rw [e] at hg; injection hg with hg; injection hg with hg; omega
/-- What a writer's call leaves. -/
def PutOk (w : World) (base p : Nat) (A : Option Addr) (l : List UInt8) (e : Ending) (w' : World) : Prop :=
  e = .returned (.tuple #[]) ∧ ∃ A' c', Wr w' base p A' c' l ∧ Fr (WrS p A) w w' ∧ WrA w A A'
theorem put_rel {w wr : World} {base p : Nat} {A A1 : Option Addr} {c1 m j n : Nat} {l : List UInt8} {len : Nat} (hb : Blk wr p 61 #[.slice A1 len c1])
    (ho : Own wr base 5 A1 c1 ((l ++ List.replicate (m + 1) 0 ++ be j n).map u8v)) (hf : Fr (WrS p A) w wr) (hA : WrA w A A1) {g : Nat} (hg : A1 = some ⟨g, 0, none⟩) (hne : g ≠ p) (v : Int) (hv : v = ((UInt8.ofNat (n / 256 ^ j)).toNat : Int)) :
    Blk (wr.setCell ⟨g, l.length + m, none⟩ (.int .u8 v)) p 61 #[.slice A1 len c1] ∧ Own (wr.setCell ⟨g, l.length + m, none⟩ (.int .u8 v)) base 5 A1 c1 ((l ++ List.replicate m 0 ++ be (j + 1) n).map u8v) ∧ Fr (WrS p A) w (wr.setCell ⟨g, l.length + m, none⟩ (.int .u8 v)) := by
  subst hg
  refine ⟨hb.far (p := ⟨g, l.length + m, none⟩) hne _, ?_, hf.setCell (p := ⟨g, l.length + m, none⟩) (fun hlt => ?_) _⟩
  · have h := own_set ho (k := l.length + m) (by simp; omega) v _ hv
    have e : (l ++ List.replicate (m + 1) 0 ++ be j n).set (l.length + m) (UInt8.ofNat (n / 256 ^ j)) = l ++ List.replicate m 0 ++ be (j + 1) n := by
      rw [List.replicate_succ', be, ← List.append_assoc, List.append_assoc (l ++ List.replicate m 0), List.set_append_right _ _ (by simp)]
      simp
    rwa [e] at h
  · rcases hA g rfl with hA | hle
    · right; rw [hA]; rfl
    · exact absurd hlt (by show ¬ g < w.heap.size; omega)
theorem cast_div (n j : Nat) : ((n / 256 ^ j : Nat) : Int) / (256 : Int) = ((n / 256 ^ (j + 1) : Nat) : Int) := by
  rw [Nat.pow_succ, ← Nat.div_div_eq_div_mul]; rfl
theorem byte_nat (n : Nat) : ((UInt8.ofNat n).toNat : Int) = (n : Int) % (256 : Int) := by
  rw [UInt8.toNat_ofNat']; rfl

set_option maxHeartbeats 1000000 in
set_option maxRecDepth 100000 in
theorem put8_any (w : World) (base p : Nat) (A : Option Addr) (c : Nat) (l : List UInt8) (n : Nat) (hn : n < 256 ^ 1) (h : Wr w base p A c l) (hlen : l.length ≤ 1000000) :
    Calls Tryd.prog 55 #[.pointer (some ⟨p, 0, none⟩), .int .u8 (n : Int)] w (PutOk w base p A (l ++ be 1 n)) := by
  obtain ⟨hblk, hown, hat⟩ := h
  obtain ⟨i0, hi0, hz0, hz1, hz2⟩ := info_parts u8info
  have hc0 := hblk.cell 0
  have hf0 := hblk.frozen 0
  simp at hc0
  have hlt := hblk.lt
  go_enter Tryd.func55, Tryd.ntmps55
  go_wp2_with fail
  go_cut [] (fun wx => ∃ A1 c1, Blk wx p 61 #[.slice A1 (l.length + 1) c1] ∧ Own wx base 5 A1 c1 (l.map u8v ++ List.replicate 1 (.int .u8 0)) ∧ Fr (WrS p A) w wx ∧ WrA w A A1)
  case first =>
    go_region_law (first
      | (refine step_appz _ (by rfl) _ _ _ _ (by rfl) base 5 i0 _ 1 .i64 Tryd.underlying25 Tryd.underlying3 hi0 hz0 hz1 hz2 (by rfl) (by rfl) A c _ (l.map u8v) (by rfl) (by simp) hown 1 (by decide) .i64 1 (by rfl) (by rfl) (by simp [maxLen]; omega) (by simp; omega) (Nat.le_trans hat (Nat.le_of_lt hlt)) (l.length + 1) (by simp) ?_; (intro A1 c1 w1 ho1 hb1 hg1 hat1; have hk1 : Blk w1 p _ _ := Blk.app (w := w.drew) hblk hown (by decide) hg1; have hc1 := hk1.cell 0; have hf1 := hk1.frozen 0; simp at hc1))
      | (go_simp; go_at_call 72; refine (size8_any _ _).mono ?_; rintro e w' ⟨rfl, rfl⟩))
    all_goals
      go_wp2_with fail
      go_meet
    all_goals exact ⟨A1, c1, hk1.set_ 0 _, ho1.set_far (fun g hg => fun e => hk1.ne_own ho1 (by decide) g hg e.symm), ((Fr.grown (w := w.drew) hg1 (S := WrS p A) fun k hk => .inr hk).setCell (p := ⟨p, 0, none⟩) (fun _ => .inl rfl) _ : Fr (WrS p A) w.drew _) |> fun f => ⟨f.os, f.tape, f.output, f.size, f.block⟩, WrA.of hat1⟩
  case rest =>
    obtain ⟨A1, c1, hk1, ho1, hfr, hwa⟩ := hcut
    have hc1 := hk1.cell 0
    simp at hc1
    go_wp2_with fail
    go_loopw [1, 5] (fun x i wr => ∃ m j : Nat, m + j = 1 ∧ i = .int .i64 ((l.length : Int) + (m : Int) - 1) ∧ x = .int .u8 ((n / 256 ^ j : Nat) : Int) ∧ Blk wr p 61 #[.slice A1 (l.length + 1) c1] ∧ Own wr base 5 A1 c1 ((l ++ List.replicate m 0 ++ be j n).map u8v) ∧ Fr (WrS p A) w wr) (fun _ i _ => (intOf i + 1).toNat)
    case atStart => exact ⟨1, 0, rfl, congrArg (Value.int .i64) (by omega), by rw [Nat.pow_zero, Nat.div_one], hk1, by simpa [be, u8v] using ho1, hfr⟩
    case round =>
      obtain ⟨m, j, hmj, rfl, rfl, hb, ho, hf⟩ := hrel
      have hc2 := hb.cell 0
      simp at hc2
      by_cases hm : m = 0
      · subst hm
        obtain rfl : j = 1 := by omega
        go_wp2_with fail
        go_end0
        refine ⟨rfl, A1, c1, ⟨?_, ?_, hat⟩, hf, hwa⟩
        · rw [List.length_append, be_len]; exact hb
        · simpa using ho
      · obtain ⟨m, rfl⟩ : ∃ m', m = m' + 1 := ⟨m - 1, by omega⟩
        obtain ⟨g, rfl, hg1, hg2, hcg, hfg, _⟩ := ho.at_ (k := l.length + m) (by simp; omega)
        have hne := hk1.ne_own ho1 (by decide) g rfl
        have hbyte := byte_nat (n / 256 ^ j)
        have hq : n / 256 ^ j < 256 ^ 1 := Nat.lt_of_le_of_lt (Nat.div_le_self _ _) hn
        have HD := Lib.hid (cast_div n j)
        generalize hx : n / 256 ^ j = x at *
        have HX := Lib.hid hx
        clear hx
        have hx1 : (x : Int) < 256 := by omega
        rw [show (l.length : Int) + ((m + 1 : Nat) : Int) - 1 = ((l.length + m : Nat) : Int) from by omega]
        have HR := Lib.hid (fun v hv => put_rel (m := m) (j := j) (n := n) hb ho hf hwa rfl hne v hv)
        clear hbyte hq
        have hi1 : (0 : Int) ≤ ((l.length + m : Nat) : Int) := by omega
        have hi2 : ((l.length + m : Nat) : Int) < ((l.length + 1 : Nat) : Int) := by omega
        go_wp2_with fail
        go_roundw
        case rel =>
          refine ⟨m, j + 1, by omega, rfl, congrArg (Value.int .u8) (by rw [← HD.out]; try (simp only [IntKind.wrap_u16, IntKind.wrap_u64, IntKind.wrap_u32']; omega)), ?_⟩
          exact HR.out _ (by rw [HX.out, byte_nat]; try omega)
        case measure => simp [intOf]; omega

set_option maxHeartbeats 1000000 in
set_option maxRecDepth 100000 in
theorem put16_any (w : World) (base p : Nat) (A : Option Addr) (c : Nat) (l : List UInt8) (n : Nat) (hn : n < 256 ^ 2) (h : Wr w base p A c l) (hlen : l.length ≤ 1000000) :
    Calls Tryd.prog 56 #[.pointer (some ⟨p, 0, none⟩), .int .u16 (n : Int)] w (PutOk w base p A (l ++ be 2 n)) := by
  obtain ⟨hblk, hown, hat⟩ := h
  obtain ⟨i0, hi0, hz0, hz1, hz2⟩ := info_parts u8info
  have hc0 := hblk.cell 0
  have hf0 := hblk.frozen 0
  simp at hc0
  have hlt := hblk.lt
  go_enter Tryd.func56, Tryd.ntmps56
  go_wp2_with fail
  go_cut [] (fun wx => ∃ A1 c1, Blk wx p 61 #[.slice A1 (l.length + 2) c1] ∧ Own wx base 5 A1 c1 (l.map u8v ++ List.replicate 2 (.int .u8 0)) ∧ Fr (WrS p A) w wx ∧ WrA w A A1)
  case first =>
    go_region_law (first
      | (refine step_appz _ (by rfl) _ _ _ _ (by rfl) base 5 i0 _ 1 .i64 Tryd.underlying25 Tryd.underlying3 hi0 hz0 hz1 hz2 (by rfl) (by rfl) A c _ (l.map u8v) (by rfl) (by simp) hown 2 (by decide) .i64 2 (by rfl) (by rfl) (by simp [maxLen]; omega) (by simp; omega) (Nat.le_trans hat (Nat.le_of_lt hlt)) (l.length + 2) (by simp) ?_; (intro A1 c1 w1 ho1 hb1 hg1 hat1; have hk1 : Blk w1 p _ _ := Blk.app (w := w.drew) hblk hown (by decide) hg1; have hc1 := hk1.cell 0; have hf1 := hk1.frozen 0; simp at hc1))
      | (go_simp; go_at_call 73; refine (size16_any _ _).mono ?_; rintro e w' ⟨rfl, rfl⟩))
    all_goals
      go_wp2_with fail
      go_meet
    all_goals exact ⟨A1, c1, hk1.set_ 0 _, ho1.set_far (fun g hg => fun e => hk1.ne_own ho1 (by decide) g hg e.symm), ((Fr.grown (w := w.drew) hg1 (S := WrS p A) fun k hk => .inr hk).setCell (p := ⟨p, 0, none⟩) (fun _ => .inl rfl) _ : Fr (WrS p A) w.drew _) |> fun f => ⟨f.os, f.tape, f.output, f.size, f.block⟩, WrA.of hat1⟩
  case rest =>
    obtain ⟨A1, c1, hk1, ho1, hfr, hwa⟩ := hcut
    have hc1 := hk1.cell 0
    simp at hc1
    go_wp2_with fail
    go_loopw [1, 5] (fun x i wr => ∃ m j : Nat, m + j = 2 ∧ i = .int .i64 ((l.length : Int) + (m : Int) - 1) ∧ x = .int .u16 ((n / 256 ^ j : Nat) : Int) ∧ Blk wr p 61 #[.slice A1 (l.length + 2) c1] ∧ Own wr base 5 A1 c1 ((l ++ List.replicate m 0 ++ be j n).map u8v) ∧ Fr (WrS p A) w wr) (fun _ i _ => (intOf i + 1).toNat)
    case atStart => exact ⟨2, 0, rfl, congrArg (Value.int .i64) (by omega), by rw [Nat.pow_zero, Nat.div_one], hk1, by simpa [be, u8v] using ho1, hfr⟩
    case round =>
      obtain ⟨m, j, hmj, rfl, rfl, hb, ho, hf⟩ := hrel
      have hc2 := hb.cell 0
      simp at hc2
      by_cases hm : m = 0
      · subst hm
        obtain rfl : j = 2 := by omega
        go_wp2_with fail
        go_end0
        refine ⟨rfl, A1, c1, ⟨?_, ?_, hat⟩, hf, hwa⟩
        · rw [List.length_append, be_len]; exact hb
        · simpa using ho
      · obtain ⟨m, rfl⟩ : ∃ m', m = m' + 1 := ⟨m - 1, by omega⟩
        obtain ⟨g, rfl, hg1, hg2, hcg, hfg, _⟩ := ho.at_ (k := l.length + m) (by simp; omega)
        have hne := hk1.ne_own ho1 (by decide) g rfl
        have hbyte := byte_nat (n / 256 ^ j)
        have hq : n / 256 ^ j < 256 ^ 2 := Nat.lt_of_le_of_lt (Nat.div_le_self _ _) hn
        have HD := Lib.hid (cast_div n j)
        generalize hx : n / 256 ^ j = x at *
        have HX := Lib.hid hx
        clear hx
        rw [show (l.length : Int) + ((m + 1 : Nat) : Int) - 1 = ((l.length + m : Nat) : Int) from by omega]
        have HR := Lib.hid (fun v hv => put_rel (m := m) (j := j) (n := n) hb ho hf hwa rfl hne v hv)
        clear hbyte hq
        have hi1 : (0 : Int) ≤ ((l.length + m : Nat) : Int) := by omega
        have hi2 : ((l.length + m : Nat) : Int) < ((l.length + 2 : Nat) : Int) := by omega
        go_wp2_with fail
        go_roundw
        case rel =>
          have hx1 : (x : Int) < 65536 := by have hq := Nat.lt_of_le_of_lt (Nat.div_le_self n (256 ^ j)) hn; rw [HX.out] at hq; omega
          refine ⟨m, j + 1, by omega, rfl, congrArg (Value.int .u16) (by rw [← HD.out]; try (simp only [IntKind.wrap_u16, IntKind.wrap_u64, IntKind.wrap_u32']; omega)), ?_⟩
          exact HR.out _ (by rw [HX.out, byte_nat]; try omega)
        case measure => simp [intOf]; omega

set_option maxHeartbeats 1000000 in
set_option maxRecDepth 100000 in
theorem put32_any (w : World) (base p : Nat) (A : Option Addr) (c : Nat) (l : List UInt8) (n : Nat) (hn : n < 256 ^ 4) (h : Wr w base p A c l) (hlen : l.length ≤ 1000000) :
    Calls Tryd.prog 75 #[.pointer (some ⟨p, 0, none⟩), .int .u32 (n : Int)] w (PutOk w base p A (l ++ be 4 n)) := by
  obtain ⟨hblk, hown, hat⟩ := h
  obtain ⟨i0, hi0, hz0, hz1, hz2⟩ := info_parts u8info
  have hc0 := hblk.cell 0
  have hf0 := hblk.frozen 0
  simp at hc0
  have hlt := hblk.lt
  go_enter Tryd.func75, Tryd.ntmps75
  go_wp2_with fail
  go_cut [] (fun wx => ∃ A1 c1, Blk wx p 61 #[.slice A1 (l.length + 4) c1] ∧ Own wx base 5 A1 c1 (l.map u8v ++ List.replicate 4 (.int .u8 0)) ∧ Fr (WrS p A) w wx ∧ WrA w A A1)
  case first =>
    go_region_law (first
      | (refine step_appz _ (by rfl) _ _ _ _ (by rfl) base 5 i0 _ 1 .i64 Tryd.underlying25 Tryd.underlying3 hi0 hz0 hz1 hz2 (by rfl) (by rfl) A c _ (l.map u8v) (by rfl) (by simp) hown 4 (by decide) .i64 4 (by rfl) (by rfl) (by simp [maxLen]; omega) (by simp; omega) (Nat.le_trans hat (Nat.le_of_lt hlt)) (l.length + 4) (by simp) ?_; (intro A1 c1 w1 ho1 hb1 hg1 hat1; have hk1 : Blk w1 p _ _ := Blk.app (w := w.drew) hblk hown (by decide) hg1; have hc1 := hk1.cell 0; have hf1 := hk1.frozen 0; simp at hc1))
      | (go_simp; go_at_call 78; refine (size32_any _ _).mono ?_; rintro e w' ⟨rfl, rfl⟩))
    all_goals
      go_wp2_with fail
      go_meet
    all_goals exact ⟨A1, c1, hk1.set_ 0 _, ho1.set_far (fun g hg => fun e => hk1.ne_own ho1 (by decide) g hg e.symm), ((Fr.grown (w := w.drew) hg1 (S := WrS p A) fun k hk => .inr hk).setCell (p := ⟨p, 0, none⟩) (fun _ => .inl rfl) _ : Fr (WrS p A) w.drew _) |> fun f => ⟨f.os, f.tape, f.output, f.size, f.block⟩, WrA.of hat1⟩
  case rest =>
    obtain ⟨A1, c1, hk1, ho1, hfr, hwa⟩ := hcut
    have hc1 := hk1.cell 0
    simp at hc1
    go_wp2_with fail
    go_loopw [1, 5] (fun x i wr => ∃ m j : Nat, m + j = 4 ∧ i = .int .i64 ((l.length : Int) + (m : Int) - 1) ∧ x = .int .u32 ((n / 256 ^ j : Nat) : Int) ∧ Blk wr p 61 #[.slice A1 (l.length + 4) c1] ∧ Own wr base 5 A1 c1 ((l ++ List.replicate m 0 ++ be j n).map u8v) ∧ Fr (WrS p A) w wr) (fun _ i _ => (intOf i + 1).toNat)
    case atStart => exact ⟨4, 0, rfl, congrArg (Value.int .i64) (by omega), by rw [Nat.pow_zero, Nat.div_one], hk1, by simpa [be, u8v] using ho1, hfr⟩
    case round =>
      obtain ⟨m, j, hmj, rfl, rfl, hb, ho, hf⟩ := hrel
      have hc2 := hb.cell 0
      simp at hc2
      by_cases hm : m = 0
      · subst hm
        obtain rfl : j = 4 := by omega
        go_wp2_with fail
        go_end0
        refine ⟨rfl, A1, c1, ⟨?_, ?_, hat⟩, hf, hwa⟩
        · rw [List.length_append, be_len]; exact hb
        · simpa using ho
      · obtain ⟨m, rfl⟩ : ∃ m', m = m' + 1 := ⟨m - 1, by omega⟩
        obtain ⟨g, rfl, hg1, hg2, hcg, hfg, _⟩ := ho.at_ (k := l.length + m) (by simp; omega)
        have hne := hk1.ne_own ho1 (by decide) g rfl
        have hbyte := byte_nat (n / 256 ^ j)
        have hq : n / 256 ^ j < 256 ^ 4 := Nat.lt_of_le_of_lt (Nat.div_le_self _ _) hn
        have HD := Lib.hid (cast_div n j)
        generalize hx : n / 256 ^ j = x at *
        have HX := Lib.hid hx
        clear hx
        rw [show (l.length : Int) + ((m + 1 : Nat) : Int) - 1 = ((l.length + m : Nat) : Int) from by omega]
        have HR := Lib.hid (fun v hv => put_rel (m := m) (j := j) (n := n) hb ho hf hwa rfl hne v hv)
        clear hbyte hq
        have hi1 : (0 : Int) ≤ ((l.length + m : Nat) : Int) := by omega
        have hi2 : ((l.length + m : Nat) : Int) < ((l.length + 4 : Nat) : Int) := by omega
        go_wp2_with fail
        go_roundw
        case rel =>
          have hx1 : (x : Int) < 4294967296 := by have hq := Nat.lt_of_le_of_lt (Nat.div_le_self n (256 ^ j)) hn; rw [HX.out] at hq; omega
          refine ⟨m, j + 1, by omega, rfl, congrArg (Value.int .u32) (by rw [← HD.out]; try (simp only [IntKind.wrap_u16, IntKind.wrap_u64, IntKind.wrap_u32']; omega)), ?_⟩
          exact HR.out _ (by rw [HX.out, byte_nat]; try omega)
        case measure => simp [intOf]; omega

set_option maxHeartbeats 1000000 in
set_option maxRecDepth 100000 in
theorem put64_any (w : World) (base p : Nat) (A : Option Addr) (c : Nat) (l : List UInt8) (n : Nat) (hn : n < 256 ^ 8) (h : Wr w base p A c l) (hlen : l.length ≤ 1000000) :
    Calls Tryd.prog 74 #[.pointer (some ⟨p, 0, none⟩), .int .u64 (n : Int)] w (PutOk w base p A (l ++ be 8 n)) := by
  obtain ⟨hblk, hown, hat⟩ := h
  obtain ⟨i0, hi0, hz0, hz1, hz2⟩ := info_parts u8info
  have hc0 := hblk.cell 0
  have hf0 := hblk.frozen 0
  simp at hc0
  have hlt := hblk.lt
  go_enter Tryd.func74, Tryd.ntmps74
  go_wp2_with fail
  go_cut [] (fun wx => ∃ A1 c1, Blk wx p 61 #[.slice A1 (l.length + 8) c1] ∧ Own wx base 5 A1 c1 (l.map u8v ++ List.replicate 8 (.int .u8 0)) ∧ Fr (WrS p A) w wx ∧ WrA w A A1)
  case first =>
    go_region_law (first
      | (refine step_appz _ (by rfl) _ _ _ _ (by rfl) base 5 i0 _ 1 .i64 Tryd.underlying25 Tryd.underlying3 hi0 hz0 hz1 hz2 (by rfl) (by rfl) A c _ (l.map u8v) (by rfl) (by simp) hown 8 (by decide) .i64 8 (by rfl) (by rfl) (by simp [maxLen]; omega) (by simp; omega) (Nat.le_trans hat (Nat.le_of_lt hlt)) (l.length + 8) (by simp) ?_; (intro A1 c1 w1 ho1 hb1 hg1 hat1; have hk1 : Blk w1 p _ _ := Blk.app (w := w.drew) hblk hown (by decide) hg1; have hc1 := hk1.cell 0; have hf1 := hk1.frozen 0; simp at hc1))
      | (go_simp; go_at_call 77; refine (size64_any _ _).mono ?_; rintro e w' ⟨rfl, rfl⟩))
    all_goals
      go_wp2_with fail
      go_meet
    all_goals exact ⟨A1, c1, hk1.set_ 0 _, ho1.set_far (fun g hg => fun e => hk1.ne_own ho1 (by decide) g hg e.symm), ((Fr.grown (w := w.drew) hg1 (S := WrS p A) fun k hk => .inr hk).setCell (p := ⟨p, 0, none⟩) (fun _ => .inl rfl) _ : Fr (WrS p A) w.drew _) |> fun f => ⟨f.os, f.tape, f.output, f.size, f.block⟩, WrA.of hat1⟩
  case rest =>
    obtain ⟨A1, c1, hk1, ho1, hfr, hwa⟩ := hcut
    have hc1 := hk1.cell 0
    simp at hc1
    go_wp2_with fail
    go_loopw [1, 5] (fun x i wr => ∃ m j : Nat, m + j = 8 ∧ i = .int .i64 ((l.length : Int) + (m : Int) - 1) ∧ x = .int .u64 ((n / 256 ^ j : Nat) : Int) ∧ Blk wr p 61 #[.slice A1 (l.length + 8) c1] ∧ Own wr base 5 A1 c1 ((l ++ List.replicate m 0 ++ be j n).map u8v) ∧ Fr (WrS p A) w wr) (fun _ i _ => (intOf i + 1).toNat)
    case atStart => exact ⟨8, 0, rfl, congrArg (Value.int .i64) (by omega), by rw [Nat.pow_zero, Nat.div_one], hk1, by simpa [be, u8v] using ho1, hfr⟩
    case round =>
      obtain ⟨m, j, hmj, rfl, rfl, hb, ho, hf⟩ := hrel
      have hc2 := hb.cell 0
      simp at hc2
      by_cases hm : m = 0
      · subst hm
        obtain rfl : j = 8 := by omega
        go_wp2_with fail
        go_end0
        refine ⟨rfl, A1, c1, ⟨?_, ?_, hat⟩, hf, hwa⟩
        · rw [List.length_append, be_len]; exact hb
        · simpa using ho
      · obtain ⟨m, rfl⟩ : ∃ m', m = m' + 1 := ⟨m - 1, by omega⟩
        obtain ⟨g, rfl, hg1, hg2, hcg, hfg, _⟩ := ho.at_ (k := l.length + m) (by simp; omega)
        have hne := hk1.ne_own ho1 (by decide) g rfl
        have hbyte := byte_nat (n / 256 ^ j)
        have hq : n / 256 ^ j < 256 ^ 8 := Nat.lt_of_le_of_lt (Nat.div_le_self _ _) hn
        have HD := Lib.hid (cast_div n j)
        generalize hx : n / 256 ^ j = x at *
        have HX := Lib.hid hx
        clear hx
        rw [show (l.length : Int) + ((m + 1 : Nat) : Int) - 1 = ((l.length + m : Nat) : Int) from by omega]
        have HR := Lib.hid (fun v hv => put_rel (m := m) (j := j) (n := n) hb ho hf hwa rfl hne v hv)
        clear hbyte hq
        have hi1 : (0 : Int) ≤ ((l.length + m : Nat) : Int) := by omega
        have hi2 : ((l.length + m : Nat) : Int) < ((l.length + 8 : Nat) : Int) := by omega
        go_wp2_with fail
        go_roundw
        case rel =>
          have hx1 : (x : Int) < 18446744073709551616 := by have hq := Nat.lt_of_le_of_lt (Nat.div_le_self n (256 ^ j)) hn; rw [HX.out] at hq; omega
          refine ⟨m, j + 1, by omega, rfl, congrArg (Value.int .u64) (by rw [← HD.out]; try (simp only [IntKind.wrap_u16, IntKind.wrap_u64, IntKind.wrap_u32']; omega)), ?_⟩
          exact HR.out _ (by rw [HX.out, byte_nat]; try omega)
        case measure => simp [intOf]; omega
end Go.Proofs.YtebdmfmadbikaaaDoor.FdW
