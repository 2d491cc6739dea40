/- The walks of package fields' writers, within package wire's: the methods, Raw, Out. -/
import Derived.Test.YtebdmfmadbikaaaDoorWiPut
namespace Go.Proofs.YtebdmfmadbikaaaDoor.FdW
open Go.RowKit Mem Fds
set_option linter.unusedVariables false

theorem byte_any (w : World) (base p : Nat) (A : Option Addr) (c : Nat) (l : List UInt8) (n : Nat) (hn : n < 256 ^ 1) (h : Wr w base p A c l) (hlen : l.length ≤ 1000000) :
    Calls Tryd.prog 29 #[.pointer (some ⟨p, 0, none⟩), .int .u8 (n : Int)] w (PutOk w base p A (l ++ be 1 n)) := by
  go_enter Tryd.func29, Tryd.ntmps29
  go_wp2_with fail
  refine (put8_any w base p A c l n hn h hlen).mono ?_
  rintro e w1 ⟨rfl, hp⟩
  have HP := Lib.hid hp
  clear hp
  go_wp2_with fail
  go_end0
  exact ⟨rfl, HP.out⟩
theorem short_any (w : World) (base p : Nat) (A : Option Addr) (c : Nat) (l : List UInt8) (n : Nat) (hn : n < 256 ^ 2) (h : Wr w base p A c l) (hlen : l.length ≤ 1000000) :
    Calls Tryd.prog 30 #[.pointer (some ⟨p, 0, none⟩), .int .u16 (n : Int)] w (PutOk w base p A (l ++ be 2 n)) := by
  go_enter Tryd.func30, Tryd.ntmps30
  go_wp2_with fail
  refine (put16_any w base p A c l n hn h hlen).mono ?_
  rintro e w1 ⟨rfl, hp⟩
  have HP := Lib.hid hp
  clear hp
  go_wp2_with fail
  go_end0
  exact ⟨rfl, HP.out⟩
theorem word_any (w : World) (base p : Nat) (A : Option Addr) (c : Nat) (l : List UInt8) (n : Nat) (hn : n < 256 ^ 4) (h : Wr w base p A c l) (hlen : l.length ≤ 1000000) :
    Calls Tryd.prog 60 #[.pointer (some ⟨p, 0, none⟩), .int .u32 (n : Int)] w (PutOk w base p A (l ++ be 4 n)) := by
  go_enter Tryd.func60, Tryd.ntmps60
  go_wp2_with fail
  refine (put32_any w base p A c l n hn h hlen).mono ?_
  rintro e w1 ⟨rfl, hp⟩
  have HP := Lib.hid hp
  clear hp
  go_wp2_with fail
  go_end0
  exact ⟨rfl, HP.out⟩
theorem long_any (w : World) (base p : Nat) (A : Option Addr) (c : Nat) (l : List UInt8) (n : Nat) (hn : n < 256 ^ 8) (h : Wr w base p A c l) (hlen : l.length ≤ 1000000) :
    Calls Tryd.prog 58 #[.pointer (some ⟨p, 0, none⟩), .int .u64 (n : Int)] w (PutOk w base p A (l ++ be 8 n)) := by
  go_enter Tryd.func58, Tryd.ntmps58
  go_wp2_with fail
  refine (put64_any w base p A c l n hn h hlen).mono ?_
  rintro e w1 ⟨rfl, hp⟩
  have HP := Lib.hid hp
  clear hp
  go_wp2_with fail
  go_end0
  exact ⟨rfl, HP.out⟩

/-- What a call leaves that makes a new row: the row, and nothing else turned. -/
def NewOk (w : World) (l : List UInt8) (e : Ending) (w' : World) : Prop :=
  ∃ A c, e = .returned (.slice A l.length c) ∧ Own w' w.heap.size 5 A c (l.map u8v) ∧ Below w.heap.size w w'
set_option maxRecDepth 100000 in
set_option maxHeartbeats 400000 in
theorem clone_any (w : World) (A : Option Addr) (l : List UInt8) (n c : Nat) (hn : n = l.length) (hlen : n ≤ 100000000) (hA : Bytes w w.heap.size A l) :
    Calls Tryd.prog 45 #[.slice A n c] w (NewOk w l) := by
  obtain ⟨i0, hi0, hz0, hz1, hz2⟩ := info_parts u8info
  subst hn
  have hnil := Lib.run_eql_slice_nil (P := Tryd.prog) w 25 5 A l.length c 0 0 Tryd.underlying25
  cases A with
  | none =>
    have hl : l = [] := by
      rcases l with _ | ⟨x, r⟩
      · rfl
      · obtain ⟨b, off, h, _⟩ := hA (by simp)
        cases h
    subst hl
    clear hnil
    have hnil := Lib.run_eql_slice_nil (P := Tryd.prog) w 25 5 none 0 c 0 0 Tryd.underlying25
    go_enter Tryd.func45, Tryd.ntmps45
    go_wp2_with fail
    go_ret
    exact ⟨none, 0, rfl, Own.nil, Below.refl _ _⟩
  | some a =>
    go_enter Tryd.func45, Tryd.ntmps45
    go_wp2_with ((with_reducible show wpList _ _ _ ((⟨some 7, _, _, _, _, _⟩ : Oper) :: _) _ _); refine wpList_app _ rfl _ _ _ rfl w.heap.size 5 i0 _ 1 Tryd.underlying25 hi0 hz0 hz1 hz2 rfl _ 0 0 [] rfl rfl (own_made w #[] _ (by simp) (Nat.le_refl _)) w.heap.size (some a) c l.length (l.map u8v) rfl (by simp) (hA.below ((Below.refl _ _).alloc (Nat.le_refl _) _)) u8v_one (by simp [maxLen]; omega) (by simp; omega) (by simp) l.length (by simp) ?_; intro A1 c1 w1 ho1 hb1 _ _)
    go_ret
    exact ⟨A1, c1, rfl, by simpa using ho1, ((Below.refl _ _).alloc (Nat.le_refl _) _).trans hb1⟩

/-- What a writer's bytes are, told: a new row. -/
theorem out_any (w : World) (base p : Nat) (A : Option Addr) (c : Nat) (l : List UInt8) (h : Wr w base p A c l) (hlen : l.length ≤ 100000000) :
    Calls Tryd.prog 33 #[.pointer (some ⟨p, 0, none⟩)] w (NewOk w l) := by
  have hc0 := h.blk.cell 0
  simp at hc0
  go_enter Tryd.func33, Tryd.ntmps33
  go_wp2_with fail
  refine (clone_any w A l _ c rfl hlen h.own.bytes).mono ?_
  rintro e w1 ⟨A1, c1, rfl, ho, hb⟩
  have HO := Lib.hid (And.intro ho hb)
  clear ho hb
  go_wp2_with fail
  go_ret
  exact ⟨A1, c1, rfl, HO.out.1, HO.out.2⟩

theorem rowsinfo : (Tryd.prog.info? 25).map (fun i => (i.zero, i.size, i.bytes)) = some (some (.slice none 0 0), 1, 24) := by kernel_rfl
set_option maxRecDepth 100000 in
/-- Grow of nil: a new row's room. -/
theorem grow_any (w : World) (n : Nat) (hn : n ≤ 100000000) :
    Calls Tryd.prog 79 #[.slice none 0 0, .int .i64 (n : Int)] w (NewOk w []) := by
  obtain ⟨i0, hi0, hz0, hz1, hz2⟩ := info_parts u8info
  by_cases h0 : n = 0
  · subst h0
    go_enter Tryd.func79, Tryd.ntmps79
    go_wp2_with fail
    go_ret
    exact ⟨none, 0, rfl, Own.nil, Below.refl _ _⟩
  · have h1 : (0 : Int) < (n : Int) := by omega
    have h2 : (n : Int) ≤ 100000000 := by omega
    go_enter Tryd.func79, Tryd.ntmps79
    go_wp2_with ((with_reducible show wpList _ _ _ ((⟨some 22, _, _, _, _, _⟩ : Oper) :: _) _ _); go_loud (refine wpList_appz _ rfl _ _ _ _ rfl w.heap.size 5 i0 _ 1 .i64 Tryd.underlying25 Tryd.underlying3 hi0 hz0 hz1 hz2 (by rfl) (by rfl) none 0 0 [] (by rfl) rfl Own.nil n (by omega) .i64 (n : Int) (by rfl) rfl (by simp [maxLen]; omega) (by simp; omega) (Nat.le_refl _) n (by simp) ?_); intro A1 c1 w1 ho1 hb1 _ hat)
    go_ret
    exact ⟨A1, c1, rfl, by simpa using ho1.take 0, hb1⟩

set_option maxRecDepth 100000 in
/-- Two rows of bytes, one behind the other: a new row. -/
theorem concat_any (w : World) (q : Nat) (A : Option Addr) (l : List UInt8) (c : Nat) (A' : Option Addr) (l' : List UInt8) (c' : Nat) (hq : Blk w q 25 #[.slice A l.length c, .slice A' l'.length c']) (hA : Bytes w w.heap.size A l) (hA' : Bytes w w.heap.size A' l') (hl : l.length ≤ 10000000) (hl' : l'.length ≤ 10000000) :
    Calls Tryd.prog 76 #[.slice (some ⟨q, 0, none⟩) 2 2] w (NewOk w (l ++ l')) := by
  obtain ⟨i0, hi0, hz0, hz1, hz2⟩ := info_parts u8info
  have hc0 := hq.cell 0
  have hc1 := hq.cell 1
  simp at hc0 hc1
  have h1 : (l.length : Int) ≤ 10000000 := by omega
  have h2 : (l'.length : Int) ≤ 10000000 := by omega
  go_enter Tryd.func76, Tryd.ntmps76
  go_wp2_with fail
  go_loop [3, 11] (fun s i => (i = .int .i64 0 ∧ s = .int .i64 0) ∨ (i = .int .i64 1 ∧ s = .int .i64 (l.length : Int)) ∨ (i = .int .i64 2 ∧ s = .int .i64 ((l.length + l'.length : Nat) : Int))) (fun _ i => 2 - (intOf i).toNat)
  case atStart => exact .inl ⟨rfl, rfl⟩
  case round =>
    rcases hrel with ⟨rfl, rfl⟩ | ⟨rfl, rfl⟩ | ⟨rfl, rfl⟩
    · go_wp2_with fail
      go_round
      case rel => exact .inr (.inl ⟨rfl, rfl⟩)
      case measure => simp [intOf]
    · go_wp2_with fail
      go_round
      case rel => exact .inr (.inr ⟨rfl, by go_num⟩)
      case measure => simp [intOf]
    · go_wp2_with fail
      refine (grow_any _ (l.length + l'.length) (by omega)).mono ?_
      rintro e w1 ⟨A1, k1, rfl, ho1, hb1⟩
      have hq1 := hq.keep hb1
      have hc0 := hq1.cell 0
      have hc1 := hq1.cell 1
      simp at hc0 hc1
      clear hq1
      go_wp2_with fail
      go_loopw [6, 27] (fun s i wr => ∃ (A2 : Option Addr) (k2 : Nat), Below w.heap.size w wr ∧ ((i = .int .i64 0 ∧ s = .slice A2 0 k2 ∧ Own wr w.heap.size 5 A2 k2 []) ∨ (i = .int .i64 1 ∧ s = .slice A2 l.length k2 ∧ Own wr w.heap.size 5 A2 k2 (l.map u8v)) ∨ (i = .int .i64 2 ∧ s = .slice A2 (l.length + l'.length) k2 ∧ Own wr w.heap.size 5 A2 k2 (l.map u8v ++ l'.map u8v)))) (fun _ i _ => 2 - (intOf i).toNat)
      case atStart => exact ⟨A1, k1, hb1, .inl ⟨rfl, rfl, by simpa using ho1⟩⟩
      case round =>
        obtain ⟨A2, k2, hb, hrel⟩ := hrel
        have hq2 : Blk _ q _ _ := (hq.fr (S := fun _ => False) (Fr.quiet hb) (fun h => h))
        have hd0 := hq2.cell 0
        have hd1 := hq2.cell 1
        simp at hd0 hd1
        clear hq2 hc0 hc1
        have hs := hb.size
        rcases hrel with ⟨rfl, rfl, ho⟩ | ⟨rfl, rfl, ho⟩ | ⟨rfl, rfl, ho⟩
        · go_wp2_with ((with_reducible show wpList _ _ _ ((⟨some 33, _, _, _, _, _⟩ : Oper) :: _) _ _); refine wpList_app _ rfl _ _ _ rfl w.heap.size 5 i0 _ 1 Tryd.underlying25 hi0 hz0 hz1 hz2 rfl A2 k2 0 [] rfl rfl ho w.heap.size A c l.length (l.map u8v) rfl (by simp) (hA.below hb) u8v_one (by simp [maxLen]; omega) (by simp; omega) hs l.length (by simp) ?_; intro A3 k3 w3 ho3 hb3 _ _)
          go_roundw
          case rel => exact ⟨A3, k3, hb.trans hb3, .inr (.inl ⟨rfl, rfl, by simpa using ho3⟩)⟩
          case measure => simp [intOf]
        · go_wp2_with ((with_reducible show wpList _ _ _ ((⟨some 33, _, _, _, _, _⟩ : Oper) :: _) _ _); refine wpList_app _ rfl _ _ _ rfl w.heap.size 5 i0 _ 1 Tryd.underlying25 hi0 hz0 hz1 hz2 rfl A2 k2 _ (l.map u8v) rfl (by simp) ho w.heap.size A' c' l'.length (l'.map u8v) rfl (by simp) (hA'.below hb) u8v_one (by simp [maxLen]; omega) (by simp; omega) hs (l.length + l'.length) rfl ?_; intro A3 k3 w3 ho3 hb3 _ _)
          go_roundw
          case rel => exact ⟨A3, k3, hb.trans hb3, .inr (.inr ⟨rfl, rfl, ho3⟩)⟩
          case measure => simp [intOf]
        · go_wp2_with fail
          go_ret
          exact ⟨A2, k2, by rw [List.length_append]; rfl, by rw [List.map_append]; exact ho, hb⟩

set_option maxRecDepth 100000 in
/-- Raw: bytes behind what a writer has: a new row. -/
theorem raw_any (w : World) (base p : Nat) (A : Option Addr) (c : Nat) (l : List UInt8) (h : Wr w base p A c l) (hlen : l.length ≤ 1000000) (B : Option Addr) (b : List UInt8) (n d : Nat) (hn : n = b.length) (hb : n ≤ 1000000) (hB : Bytes w w.heap.size B b) :
    Calls Tryd.prog 61 #[.pointer (some ⟨p, 0, none⟩), .slice B n d] w (PutOk w base p A (l ++ b)) := by
  subst hn
  obtain ⟨hblk, hown, hat⟩ := h
  have hc0 := hblk.cell 0
  have hf0 := hblk.frozen 0
  simp at hc0
  go_enter Tryd.func61, Tryd.ntmps61
  go_wp2_with fail
  refine (concat_any _ w.heap.size A l c B b d (Blk.new w _ _) ((Bytes.below (hown.bytes) (nextA (Mem.start w) _)).up (nextA (Mem.start w) _).size) ((hB.below (nextA (Mem.start w) _)).up (nextA (Mem.start w) _).size) (by omega) (by omega)).mono ?_
  rintro e w1 ⟨A1, c1, rfl, ho, hb1⟩
  have hb01 := next (nextA (Mem.start w) (.cells #[.slice A l.length c, .slice B b.length d] 25)) hb1
  have hk1 := hblk.keep hb01
  have hc1 := hk1.cell 0
  have hf1 := hk1.frozen 0
  simp at hc1
  have hlt := hblk.lt
  have HK := Lib.hid hk1
  have HO := Lib.hid ho
  clear hk1 ho hc0 hf0
  go_wp2_with fail
  go_end0
  refine ⟨rfl, A1, c1, ⟨?_, ?_, hat⟩, (Fr.quiet hb01).setCell (p := ⟨p, 0, none⟩) (fun _ => .inl rfl) _, ?_⟩
  · have := HK.out.set_ 0 (.slice A1 (l ++ b).length c1)
    simpa using this
  · have ho := HO.out
    have h1 := (nextA (Mem.start w) (.cells #[.slice A l.length c, .slice B b.length d] 25)).size
    exact (ho.set_far (p := ⟨p, 0, none⟩) (fun g hg e => HK.out.ne_own ho (by decide) g hg e.symm)).down (by omega)
  · intro g hg
    rcases HO.out.form with ⟨h1, _, _⟩ | ⟨g', h1, hge, _⟩
    · rw [h1] at hg; cases hg
    · rw [h1] at hg; injection hg with hg; injection hg with hg
      have h2 := (nextA (Mem.start w) (.cells #[.slice A l.length c, .slice B b.length d] 25)).size
      exact .inr (by omega)
end Go.Proofs.YtebdmfmadbikaaaDoor.FdW
