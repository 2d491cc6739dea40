/- The laws' helper written. -/
import Derived.Test.YtjpelifafmkdpaaDkSm
import Derived.IntWalk
namespace Go.Proofs.Ytjpelifafmkdpaa.DkW
open Go.RowKit Go.Shelf Mem Rng
set_option linter.unusedVariables false

/-- What the writes of a row make of the blocks; the late writes that they are. -/
def nowOf (N : Int → List UInt8) (l : List Open.OneP) : Int → List UInt8 := l.foldl (fun f x => upd f ((x.i.toNat % 4 : Nat) : Int) (pad x.b)) N
def latesOf (l : List Open.OneP) : List (Int × List UInt8) := l.map fun x => (((x.i.toNat % 4 : Nat) : Int), pad x.b)
def putsOf (s : DS) (l : List Open.OneP) : DS := { s with L := s.L ++ latesOf l, N := nowOf s.N l, steps := s.steps + l.length }
/-- A disk of 4 blocks that is on, with no steps counted down. -/
def On4 (s : DS) : Prop := s.n = 4 ∧ s.off = false ∧ s.well = -1
theorem On4.may {s : DS} (h : On4 s) (a : Nat) (ha : a < 4) (n : Nat) (hn : n ≤ 256) : s.may a n = 0 := by
  unfold DS.may
  rw [h.1, h.2.1, if_neg (by decide), if_neg (by omega), if_neg (by omega)]
theorem On4.write {s : DS} (h : On4 s) (a : Nat) (ha : a < 4) (l : List UInt8) (hn : l.length ≤ 256) : s.write a l = ({ s with L := s.L ++ [((a : Int), pad l)], N := upd s.N a (pad l), steps := s.steps + 1 }, 0) := by
  have hw := h.2.2
  unfold DS.write
  rw [h.may a ha _ hn, if_neg (by decide)]
  unfold DS.step
  rw [hw, if_neg (by decide)]
  obtain ⟨n, S, N, L, st, wl, off⟩ := s
  dsimp only at hw
  subst hw
  rfl
theorem On4.sync {s : DS} (h : On4 s) : s.sync = ({ s with S := s.N, L := [], steps := s.steps + 1 }, 0) := by
  have hw := h.2.2
  have ho := h.2.1
  unfold DS.sync
  rw [if_neg (by rw [ho]; decide)]
  unfold DS.step
  rw [hw, if_neg (by decide)]
  obtain ⟨n, S, N, L, st, wl, off⟩ := s
  dsimp only at hw
  subst hw
  rfl
theorem On4.puts {s : DS} (h : On4 s) (l : List Open.OneP) : On4 (putsOf s l) := h
theorem putsOf_nil (s : DS) : putsOf s [] = s := by
  unfold putsOf latesOf nowOf
  rw [List.map_nil, List.append_nil]; rfl
theorem puts_next {s : DS} (h : On4 s) (l : List Open.OneP) (x : Open.OneP) (hx : x.b.length ≤ 256) : (putsOf s l).write ((x.i.toNat % 4 : Nat) : Int) x.b = (putsOf s (l ++ [x]), 0) := by
  rw [(h.puts l).write _ (Nat.mod_lt _ (by decide)) _ hx]
  unfold putsOf latesOf nowOf
  rw [List.map_append, List.foldl_append, List.length_append, List.append_assoc]; rfl
theorem take_snoc {α : Type} {l : List α} {j : Nat} {x : α} (hx : l[j]? = some x) : l.take (j + 1) = l.take j ++ [x] := by
  obtain ⟨hj, e⟩ := List.getElem?_eq_some_iff.1 hx
  rw [List.take_succ_eq_append_getElem hj, e]
/-- What stands behind written. -/
def wrOf (l r : List Open.OneP) : DS := putsOf (putsOf (DS.new 4) l).sync.1 r
theorem new4 : On4 (DS.new 4) := ⟨rfl, rfl, rfl⟩
theorem sync4 (l : List Open.OneP) : On4 (putsOf (DS.new 4) l).sync.1 := by rw [(new4.puts l).sync]; exact ⟨rfl, rfl, rfl⟩
def WrOk (w : World) (l r : List Open.OneP) (e : Ending) (w' : World) : Prop := ∃ p, e = .returned (.tuple #[.pointer (some ⟨p, 0, none⟩), .bool true]) ∧ DSt w [(p, wrOf l r)] (fun _ => False) w'
set_option maxRecDepth 100000 in
set_option maxHeartbeats 8000000 in
theorem written_any (w : World) (A B : Option Addr) (l r : List Open.OneP) (c d : Nat) (hl : Small l) (hr : Small r) (hA : Cells w w.heap.size A (l.flatMap Open.OneP.cells)) (hB : Cells w w.heap.size B (r.flatMap Open.OneP.cells)) (gl : ∀ x ∈ l, x.good w) (gr : ∀ x ∈ r, x.good w) :
    Calls Try.prog 11 #[.slice A l.length c, .slice B r.length d] w (WrOk w l r) := by
  obtain ⟨n, hn⟩ : ∃ n, l.length = n := ⟨_, rfl⟩
  obtain ⟨m2, hm2⟩ : ∃ m2, r.length = m2 := ⟨_, rfl⟩
  have hn40 : (n : Int) ≤ 40 := by have := hl.1; omega
  have hm40 : (m2 : Int) ≤ 40 := by have := hr.1; omega
  rw [hn, hm2]
  have HL := Lib.hid (And.intro hn (And.intro hl (And.intro hA gl)))
  have HR := Lib.hid (And.intro hm2 (And.intro hr (And.intro hB gr)))
  clear hn hm2 hl hr hA hB gl gr
  go_enter Try.func11, Try.ntmps11
  go_wp2_with fail
  refine (dnew (DSt.start w) 4).mono ?_
  rintro e w1 ⟨p, rfl, h, hb⟩
  have H1 := Lib.hid (show DSt w [(p, DS.new 4)] (fun _ => False) w1 from h)
  clear h hb
  go_wp2_with fail
  go_loopw [7] (fun i wr => ∃ j : Nat, i = .int .i64 (j : Int) ∧ j ≤ n ∧ DSt w [(p, putsOf (DS.new 4) (l.take j))] (fun _ => False) wr) (fun i _ => n - (intOf i).toNat)
  case atStart => exact ⟨0, rfl, Nat.zero_le _, by rw [List.take_zero, putsOf_nil]; exact H1.out⟩
  case round =>
    obtain ⟨j, rfl, hj, h⟩ := hrel
    have H3 := Lib.hid h
    clear h H1
    obtain ⟨w3, rfl⟩ : ∃ w3 : World, w3 = wr := ⟨_, rfl⟩
    by_cases hjn : j < n
    · obtain ⟨x, hx⟩ : ∃ x, l[j]? = some x := ⟨l[j]'(by rw [HL.out.1]; exact hjn), List.getElem?_eq_getElem _⟩
      obtain ⟨b, off, rfl, hbl, hc0, hc1⟩ := Open.put_at HL.out.2.2.1 hx
      have hg := HL.out.2.2.2 x (List.mem_of_getElem? hx)
      have hx256 := HL.out.2.1.2 x (List.mem_of_getElem? hx)
      obtain ⟨m, hm⟩ : ∃ m, x.b.length = m := ⟨_, rfl⟩
      rw [hm] at hc1
      have hcw : ∀ w', Below w.heap.size w w' → w'.cell? ⟨b, off + j * 2, none⟩ = some (.int .u8 (x.i.toNat : Int)) ∧ w'.cell? ⟨b, off + j * 2 + 1, none⟩ = some (.slice x.A m x.c) := fun w' hb => ⟨(hb.cell (p := ⟨b, _, none⟩) hbl).trans hc0, (hb.cell (p := ⟨b, _, none⟩) hbl).trans hc1⟩
      have hst : (putsOf (DS.new 4) (l.take j)).steps + 1 ≤ 256 ^ 3 := by
        show 0 + (l.take j).length + 1 ≤ _; rw [List.length_take]; omega
      have hw := dwrite (w := w3.drew) (H3.out.keep (nextN (Mem.start w3) 1)) (i := 0) rfl ((x.i.toNat % 4 : Nat) : Int) ⟨by omega, by omega⟩ x.A x.b m x.c hm (((hg.1.below H3.out.below).up H3.out.below.size : Bytes w3 w3.heap.size x.A x.b)) hst
      rw [puts_next new4 (l.take j) x hx256, ← take_snoc hx] at hw
      have HW := Lib.hid hw
      have HT := Lib.hid (show w3.drew.cell? ⟨b, off + j * 2, none⟩ = some (.int .u8 (x.i.toNat : Int)) ∧ w3.drew.cell? ⟨b, off + j * 2 + 1, none⟩ = some (.slice x.A m x.c) from hcw _ (nextN H3.out.below 1))
      have HCW := Lib.hid hcw
      have h0 : (0 : Int) ≤ (j : Int) := by omega
      have h1 : (j : Int) < (n : Int) := by omega
      have hr4 : (x.i.toNat : Int).tmod 4 = ((x.i.toNat % 4 : Nat) : Int) := by rw [Int.tmod_eq_emod_of_nonneg (by omega)]; omega
      have hr0 : (0 : Int) ≤ ((x.i.toNat % 4 : Nat) : Int) := by omega
      have hr3 : ((x.i.toNat % 4 : Nat) : Int) < 4 := by omega
      obtain ⟨i4, hi4⟩ : ∃ i4, x.i.toNat % 4 = i4 := ⟨_, rfl⟩
      rw [hi4] at hr4 hr0 hr3 HW
      have hwr : IntKind.i64.wrap (i4 : Int) = (i4 : Int) := IntWalk.i64_in _ (by omega)
      clear hx hg hx256 hc0 hc1 hm hst hw hbl hi4 hcw
      go_wp2_with fail
      --HELD wn5
      refine wp_region_noPanic ?_
      refine wp_heldG (fun w' => w'.cell? ⟨b, off + j * 2, none⟩ = some (.int .u8 (x.i.toNat : Int)) ∧ w'.cell? ⟨b, off + j * 2 + 1, none⟩ = some (.slice x.A m x.c)) [] (by kernel_rfl) ?hs0 ?rg0
      case hs0 =>
        exact HT.out
      case rg0 =>
      intro hHeld
      refine wpAnyG_pure (i := 0) (oi := { dst := some 16, op := Op.move (Operand.tmp 6), type := 28, pos := _, after := #[], guard := none }) (v := ?_) rfl (by kernel_rfl) (by kernel_rfl) (by kernel_rfl) (by kernel_rfl) (fun _ _ _ h => h) (Or.inl ⟨by rfl, ?_⟩) (fun _ => by assumption) ?_
      rotate_left
      · intro w hSw
        try dsimp only at hSw
        go_simp
        try with_reducible rfl
      try simp only [Act.put, List.setIfInBounds_toArray, List.set_cons_zero, List.set_cons_succ]
      refine wpAnyG_pure (i := 1) (oi := { dst := some 17, op := Op.move (Operand.tmp 0), type := 22, pos := _, after := #[], guard := none }) (v := ?_) rfl (by kernel_rfl) (by kernel_rfl) (by kernel_rfl) (by kernel_rfl) (fun _ _ _ h => h) (Or.inl ⟨by rfl, ?_⟩) (fun _ => by assumption) ?_
      rotate_left
      · intro w hSw
        try dsimp only at hSw
        go_simp
        try with_reducible rfl
      try simp only [Act.put, List.setIfInBounds_toArray, List.set_cons_zero, List.set_cons_succ]
      refine wpAnyG_pure (i := 2) (oi := { dst := some 18, op := Op.move (Operand.tmp 7), type := 3, pos := _, after := #[], guard := none }) (v := ?_) rfl (by kernel_rfl) (by kernel_rfl) (by kernel_rfl) (by kernel_rfl) (fun _ _ _ h => h) (Or.inl ⟨by rfl, ?_⟩) (fun _ => by assumption) ?_
      rotate_left
      · intro w hSw
        try dsimp only at hSw
        go_simp
        try with_reducible rfl
      try simp only [Act.put, List.setIfInBounds_toArray, List.set_cons_zero, List.set_cons_succ]
      refine wpAnyG_pure (i := 3) (oi := { dst := some 19, op := Op.indexAddr 22 (Operand.tmp 17) (Operand.tmp 18), type := 0, pos := _, after := #[{ on := 1, ground := Ground.data }, { on := 2, ground := Ground.data }], guard := none }) (v := ?_) rfl (by kernel_rfl) (by kernel_rfl) (by kernel_rfl) (by kernel_rfl) (fun _ _ _ h => h) (Or.inl ⟨by rfl, ?_⟩) (fun _ => by assumption) ?_
      rotate_left
      · intro w hSw
        try dsimp only at hSw
        go_simp
        try with_reducible rfl
      try simp only [Act.put, List.setIfInBounds_toArray, List.set_cons_zero, List.set_cons_succ]
      refine wpAnyG_pure (i := 4) (oi := { dst := some 20, op := Op.fieldAddr 27 (Operand.tmp 19) 0, type := 0, pos := _, after := #[{ on := 3, ground := Ground.data }], guard := none }) (v := ?_) rfl (by kernel_rfl) (by kernel_rfl) (by kernel_rfl) (by kernel_rfl) (fun _ _ _ h => h) (Or.inl ⟨by rfl, ?_⟩) (fun _ => by assumption) ?_
      rotate_left
      · intro w hSw
        try dsimp only at hSw
        go_simp
        try with_reducible rfl
      try simp only [Act.put, List.setIfInBounds_toArray, List.set_cons_zero, List.set_cons_succ]
      refine wpAnyG_take (i := 5) (oi := { dst := some 21, op := Op.load 5 (Operand.tmp 20), type := 5, pos := _, after := #[{ on := 4, ground := Ground.data }], guard := none }) (v := ?_) rfl (by kernel_rfl) (by kernel_rfl) (by kernel_rfl) (by kernel_rfl) (fun _ _ _ h => h) (Or.inl ⟨by rfl, ?_⟩) (by assumption) ?_
      rotate_left
      · intro w hSw
        try dsimp only at hSw
        go_simp
        try with_reducible rfl
      try simp only [Act.put, List.setIfInBounds_toArray, List.set_cons_zero, List.set_cons_succ]
      refine wpAnyG_pure (i := 6) (oi := { dst := some 22, op := Op.binOp BinOp.rem 5 (Operand.tmp 21) (Operand.const (Value.int IntKind.u8 4)) 5, type := 5, pos := _, after := #[{ on := 5, ground := Ground.data }], guard := none }) (v := ?_) rfl (by kernel_rfl) (by kernel_rfl) (by kernel_rfl) (by kernel_rfl) (fun _ _ _ h => h) (Or.inl ⟨by rfl, ?_⟩) (fun _ => by assumption) ?_
      rotate_left
      · intro w hSw
        try dsimp only at hSw
        go_simp
        try with_reducible rfl
      try simp only [Act.put, List.setIfInBounds_toArray, List.set_cons_zero, List.set_cons_succ]
      refine wpAnyG_pure (i := 7) (oi := { dst := some 23, op := Op.convert 5 3 (Operand.tmp 22), type := 3, pos := _, after := #[{ on := 6, ground := Ground.data }], guard := none }) (v := ?_) rfl (by kernel_rfl) (by kernel_rfl) (by kernel_rfl) (by kernel_rfl) (fun _ _ _ h => h) (Or.inl ⟨by rfl, ?_⟩) (fun _ => by assumption) ?_
      rotate_left
      · intro w hSw
        try dsimp only at hSw
        go_simp
        try with_reducible rfl
      try simp only [Act.put, List.setIfInBounds_toArray, List.set_cons_zero, List.set_cons_succ]
      refine wpAnyG_pure (i := 8) (oi := { dst := some 24, op := Op.move (Operand.tmp 0), type := 22, pos := _, after := #[], guard := none }) (v := ?_) rfl (by kernel_rfl) (by kernel_rfl) (by kernel_rfl) (by kernel_rfl) (fun _ _ _ h => h) (Or.inl ⟨by rfl, ?_⟩) (fun _ => by assumption) ?_
      rotate_left
      · intro w hSw
        try dsimp only at hSw
        go_simp
        try with_reducible rfl
      try simp only [Act.put, List.setIfInBounds_toArray, List.set_cons_zero, List.set_cons_succ]
      refine wpAnyG_pure (i := 9) (oi := { dst := some 25, op := Op.move (Operand.tmp 7), type := 3, pos := _, after := #[], guard := none }) (v := ?_) rfl (by kernel_rfl) (by kernel_rfl) (by kernel_rfl) (by kernel_rfl) (fun _ _ _ h => h) (Or.inl ⟨by rfl, ?_⟩) (fun _ => by assumption) ?_
      rotate_left
      · intro w hSw
        try dsimp only at hSw
        go_simp
        try with_reducible rfl
      try simp only [Act.put, List.setIfInBounds_toArray, List.set_cons_zero, List.set_cons_succ]
      refine wpAnyG_pure (i := 10) (oi := { dst := some 26, op := Op.indexAddr 22 (Operand.tmp 24) (Operand.tmp 25), type := 0, pos := _, after := #[{ on := 8, ground := Ground.data }, { on := 9, ground := Ground.data }], guard := none }) (v := ?_) rfl (by kernel_rfl) (by kernel_rfl) (by kernel_rfl) (by kernel_rfl) (fun _ _ _ h => h) (Or.inl ⟨by rfl, ?_⟩) (fun _ => by assumption) ?_
      rotate_left
      · intro w hSw
        try dsimp only at hSw
        go_simp
        try with_reducible rfl
      try simp only [Act.put, List.setIfInBounds_toArray, List.set_cons_zero, List.set_cons_succ]
      refine wpAnyG_pure (i := 11) (oi := { dst := some 27, op := Op.fieldAddr 27 (Operand.tmp 26) 1, type := 0, pos := _, after := #[{ on := 10, ground := Ground.data }], guard := none }) (v := ?_) rfl (by kernel_rfl) (by kernel_rfl) (by kernel_rfl) (by kernel_rfl) (fun _ _ _ h => h) (Or.inl ⟨by rfl, ?_⟩) (fun _ => by assumption) ?_
      rotate_left
      · intro w hSw
        try dsimp only at hSw
        go_simp
        try with_reducible rfl
      try simp only [Act.put, List.setIfInBounds_toArray, List.set_cons_zero, List.set_cons_succ]
      refine wpAnyG_take (i := 12) (oi := { dst := some 28, op := Op.load 23 (Operand.tmp 27), type := 23, pos := _, after := #[{ on := 11, ground := Ground.data }], guard := none }) (v := ?_) rfl (by kernel_rfl) (by kernel_rfl) (by kernel_rfl) (by kernel_rfl) (fun _ _ _ h => h) (Or.inl ⟨by rfl, ?_⟩) (by assumption) ?_
      rotate_left
      · intro w hSw
        try dsimp only at hSw
        go_simp
        try with_reducible rfl
      try simp only [Act.put, List.setIfInBounds_toArray, List.set_cons_zero, List.set_cons_succ]
      refine wpAnyG_one (i := 13) (o := { dst := some 29, op := Op.call { callee := Callee.value (Operand.func 23), args := #[Operand.tmp 16, Operand.tmp 23, Operand.tmp 28], argTypes := #[28, 3, 23] }, type := 31, pos := _, after := #[{ on := 0, ground := Ground.data }, { on := 7, ground := Ground.data }, { on := 12, ground := Ground.data }], guard := none }) (by kernel_rfl) rfl (fun K hK => ?_)
      go_simp
      refine HW.out.mono ?_
      rintro e w4 ⟨rfl, h4, f4⟩
      have H4 := Lib.hid (And.intro h4 f4)
      clear h4 f4
      try dsimp only
      refine hK.out _ _ ?_ (fun hHeld => ?_)
      · intro _
        try dsimp only
        exact HCW.out w4 H4.out.1.below
      clear hK K
      try simp only [Act.put, List.setIfInBounds_toArray, List.set_cons_zero, List.set_cons_succ]
      have hHeld := hHeld (by kernel_rfl)
      refine wpAnyG_pure (i := 14) (oi := { dst := some 30, op := Op.binOp BinOp.neq 31 (Operand.tmp 29) (Operand.const (Value.int IntKind.i64 0)) 31, type := 4, pos := _, after := #[{ on := 13, ground := Ground.data }], guard := none }) (v := ?_) rfl (by kernel_rfl) (by kernel_rfl) (by kernel_rfl) (by kernel_rfl) (fun _ _ _ h => h) (Or.inl ⟨by rfl, ?_⟩) (fun _ => by assumption) ?_
      rotate_left
      · intro w hSw
        try dsimp only at hSw
        go_simp
        try with_reducible rfl
      try simp only [Act.put, List.setIfInBounds_toArray, List.set_cons_zero, List.set_cons_succ]
      refine wpAnyG_done (by kernel_rfl) ?_ _
      refine NoPanic.normal ?_
      --END wn5
      go_wp2_with fail
      go_roundw
      case rel => exact ⟨j + 1, rfl, hjn, H4.out.1⟩
      case measure => simp [intOf]; omega
    · obtain rfl : n = j := by omega
      have HS := Lib.hid (show DSt w [(p, putsOf (DS.new 4) l)] (fun _ => False) w3 from by have := H3.out; rwa [← HL.out.1, List.take_length] at this)
      go_wp2_with fail
      have hw := dsync HS.out (i := 0) rfl (by show 0 + l.length + 1 ≤ _; rw [HL.out.1]; omega)
      rw [show (putsOf (DS.new 4) l).sync.2 = 0 from by rw [(new4.puts l).sync]] at hw
      refine hw.mono ?_
      rintro e w5 ⟨rfl, h, f5⟩
      have H5 := Lib.hid (show DSt w [(p, (putsOf (DS.new 4) l).sync.1)] (fun _ => False) w5 from h)
      clear h f5 hw HS H3
      go_wp2_with fail
      go_loopw [8] (fun i wr => ∃ j : Nat, i = .int .i64 (j : Int) ∧ j ≤ m2 ∧ DSt w [(p, putsOf (putsOf (DS.new 4) l).sync.1 (r.take j))] (fun _ => False) wr) (fun i _ => m2 - (intOf i).toNat)
      case atStart => exact ⟨0, rfl, Nat.zero_le _, by rw [List.take_zero, putsOf_nil]; exact H5.out⟩
      case round =>
        obtain ⟨j, rfl, hj, h⟩ := hrel
        have H3 := Lib.hid h
        clear h H5
        obtain ⟨w3, rfl⟩ : ∃ w3 : World, w3 = wr := ⟨_, rfl⟩
        by_cases hjn : j < m2
        · obtain ⟨x, hx⟩ : ∃ x, r[j]? = some x := ⟨r[j]'(by rw [HR.out.1]; exact hjn), List.getElem?_eq_getElem _⟩
          obtain ⟨b, off, rfl, hbl, hc0, hc1⟩ := Open.put_at HR.out.2.2.1 hx
          have hg := HR.out.2.2.2 x (List.mem_of_getElem? hx)
          have hx256 := HR.out.2.1.2 x (List.mem_of_getElem? hx)
          obtain ⟨m, hm⟩ : ∃ m, x.b.length = m := ⟨_, rfl⟩
          rw [hm] at hc1
          have hcw : ∀ w', Below w.heap.size w w' → w'.cell? ⟨b, off + j * 2, none⟩ = some (.int .u8 (x.i.toNat : Int)) ∧ w'.cell? ⟨b, off + j * 2 + 1, none⟩ = some (.slice x.A m x.c) := fun w' hb => ⟨(hb.cell (p := ⟨b, _, none⟩) hbl).trans hc0, (hb.cell (p := ⟨b, _, none⟩) hbl).trans hc1⟩
          have hst : (putsOf (putsOf (DS.new 4) l).sync.1 (r.take j)).steps + 1 ≤ 256 ^ 3 := by
            rw [(new4.puts l).sync]; show 0 + l.length + 1 + (r.take j).length + 1 ≤ _; rw [List.length_take, HL.out.1]; omega
          have hw := dwrite (w := w3.drew) (H3.out.keep (nextN (Mem.start w3) 1)) (i := 0) rfl ((x.i.toNat % 4 : Nat) : Int) ⟨by omega, by omega⟩ x.A x.b m x.c hm (((hg.1.below H3.out.below).up H3.out.below.size : Bytes w3 w3.heap.size x.A x.b)) hst
          rw [puts_next (sync4 l) (r.take j) x hx256, ← take_snoc hx] at hw
          have HW := Lib.hid hw
          have HT := Lib.hid (show w3.drew.cell? ⟨b, off + j * 2, none⟩ = some (.int .u8 (x.i.toNat : Int)) ∧ w3.drew.cell? ⟨b, off + j * 2 + 1, none⟩ = some (.slice x.A m x.c) from hcw _ (nextN H3.out.below 1))
          have HCW := Lib.hid hcw
          have h0 : (0 : Int) ≤ (j : Int) := by omega
          have h1 : (j : Int) < (m2 : Int) := by omega
          have hr4 : (x.i.toNat : Int).tmod 4 = ((x.i.toNat % 4 : Nat) : Int) := by rw [Int.tmod_eq_emod_of_nonneg (by omega)]; omega
          have hr0 : (0 : Int) ≤ ((x.i.toNat % 4 : Nat) : Int) := by omega
          have hr3 : ((x.i.toNat % 4 : Nat) : Int) < 4 := by omega
          obtain ⟨i4, hi4⟩ : ∃ i4, x.i.toNat % 4 = i4 := ⟨_, rfl⟩
          rw [hi4] at hr4 hr0 hr3 HW
          have hwr : IntKind.i64.wrap (i4 : Int) = (i4 : Int) := IntWalk.i64_in _ (by omega)
          clear hx hg hx256 hc0 hc1 hm hst hw hbl hi4 hcw
          go_wp2_with fail
          --HELD wn12
          refine wp_region_noPanic ?_
          refine wp_heldG (fun w' => w'.cell? ⟨b, off + j * 2, none⟩ = some (.int .u8 (x.i.toNat : Int)) ∧ w'.cell? ⟨b, off + j * 2 + 1, none⟩ = some (.slice x.A m x.c)) [] (by kernel_rfl) ?hs0 ?rg0
          case hs0 =>
            exact HT.out
          case rg0 =>
          intro hHeld
          refine wpAnyG_pure (i := 0) (oi := { dst := some 42, op := Op.move (Operand.tmp 6), type := 28, pos := _, after := #[], guard := none }) (v := ?_) rfl (by kernel_rfl) (by kernel_rfl) (by kernel_rfl) (by kernel_rfl) (fun _ _ _ h => h) (Or.inl ⟨by rfl, ?_⟩) (fun _ => by assumption) ?_
          rotate_left
          · intro w hSw
            try dsimp only at hSw
            go_simp
            try with_reducible rfl
          try simp only [Act.put, List.setIfInBounds_toArray, List.set_cons_zero, List.set_cons_succ]
          refine wpAnyG_pure (i := 1) (oi := { dst := some 43, op := Op.move (Operand.tmp 1), type := 22, pos := _, after := #[], guard := none }) (v := ?_) rfl (by kernel_rfl) (by kernel_rfl) (by kernel_rfl) (by kernel_rfl) (fun _ _ _ h => h) (Or.inl ⟨by rfl, ?_⟩) (fun _ => by assumption) ?_
          rotate_left
          · intro w hSw
            try dsimp only at hSw
            go_simp
            try with_reducible rfl
          try simp only [Act.put, List.setIfInBounds_toArray, List.set_cons_zero, List.set_cons_succ]
          refine wpAnyG_pure (i := 2) (oi := { dst := some 44, op := Op.move (Operand.tmp 8), type := 3, pos := _, after := #[], guard := none }) (v := ?_) rfl (by kernel_rfl) (by kernel_rfl) (by kernel_rfl) (by kernel_rfl) (fun _ _ _ h => h) (Or.inl ⟨by rfl, ?_⟩) (fun _ => by assumption) ?_
          rotate_left
          · intro w hSw
            try dsimp only at hSw
            go_simp
            try with_reducible rfl
          try simp only [Act.put, List.setIfInBounds_toArray, List.set_cons_zero, List.set_cons_succ]
          refine wpAnyG_pure (i := 3) (oi := { dst := some 45, op := Op.indexAddr 22 (Operand.tmp 43) (Operand.tmp 44), type := 0, pos := _, after := #[{ on := 1, ground := Ground.data }, { on := 2, ground := Ground.data }], guard := none }) (v := ?_) rfl (by kernel_rfl) (by kernel_rfl) (by kernel_rfl) (by kernel_rfl) (fun _ _ _ h => h) (Or.inl ⟨by rfl, ?_⟩) (fun _ => by assumption) ?_
          rotate_left
          · intro w hSw
            try dsimp only at hSw
            go_simp
            try with_reducible rfl
          try simp only [Act.put, List.setIfInBounds_toArray, List.set_cons_zero, List.set_cons_succ]
          refine wpAnyG_pure (i := 4) (oi := { dst := some 46, op := Op.fieldAddr 27 (Operand.tmp 45) 0, type := 0, pos := _, after := #[{ on := 3, ground := Ground.data }], guard := none }) (v := ?_) rfl (by kernel_rfl) (by kernel_rfl) (by kernel_rfl) (by kernel_rfl) (fun _ _ _ h => h) (Or.inl ⟨by rfl, ?_⟩) (fun _ => by assumption) ?_
          rotate_left
          · intro w hSw
            try dsimp only at hSw
            go_simp
            try with_reducible rfl
          try simp only [Act.put, List.setIfInBounds_toArray, List.set_cons_zero, List.set_cons_succ]
          refine wpAnyG_take (i := 5) (oi := { dst := some 47, op := Op.load 5 (Operand.tmp 46), type := 5, pos := _, after := #[{ on := 4, ground := Ground.data }], guard := none }) (v := ?_) rfl (by kernel_rfl) (by kernel_rfl) (by kernel_rfl) (by kernel_rfl) (fun _ _ _ h => h) (Or.inl ⟨by rfl, ?_⟩) (by assumption) ?_
          rotate_left
          · intro w hSw
            try dsimp only at hSw
            go_simp
            try with_reducible rfl
          try simp only [Act.put, List.setIfInBounds_toArray, List.set_cons_zero, List.set_cons_succ]
          refine wpAnyG_pure (i := 6) (oi := { dst := some 48, op := Op.binOp BinOp.rem 5 (Operand.tmp 47) (Operand.const (Value.int IntKind.u8 4)) 5, type := 5, pos := _, after := #[{ on := 5, ground := Ground.data }], guard := none }) (v := ?_) rfl (by kernel_rfl) (by kernel_rfl) (by kernel_rfl) (by kernel_rfl) (fun _ _ _ h => h) (Or.inl ⟨by rfl, ?_⟩) (fun _ => by assumption) ?_
          rotate_left
          · intro w hSw
            try dsimp only at hSw
            go_simp
            try with_reducible rfl
          try simp only [Act.put, List.setIfInBounds_toArray, List.set_cons_zero, List.set_cons_succ]
          refine wpAnyG_pure (i := 7) (oi := { dst := some 49, op := Op.convert 5 3 (Operand.tmp 48), type := 3, pos := _, after := #[{ on := 6, ground := Ground.data }], guard := none }) (v := ?_) rfl (by kernel_rfl) (by kernel_rfl) (by kernel_rfl) (by kernel_rfl) (fun _ _ _ h => h) (Or.inl ⟨by rfl, ?_⟩) (fun _ => by assumption) ?_
          rotate_left
          · intro w hSw
            try dsimp only at hSw
            go_simp
            try with_reducible rfl
          try simp only [Act.put, List.setIfInBounds_toArray, List.set_cons_zero, List.set_cons_succ]
          refine wpAnyG_pure (i := 8) (oi := { dst := some 50, op := Op.move (Operand.tmp 1), type := 22, pos := _, after := #[], guard := none }) (v := ?_) rfl (by kernel_rfl) (by kernel_rfl) (by kernel_rfl) (by kernel_rfl) (fun _ _ _ h => h) (Or.inl ⟨by rfl, ?_⟩) (fun _ => by assumption) ?_
          rotate_left
          · intro w hSw
            try dsimp only at hSw
            go_simp
            try with_reducible rfl
          try simp only [Act.put, List.setIfInBounds_toArray, List.set_cons_zero, List.set_cons_succ]
          refine wpAnyG_pure (i := 9) (oi := { dst := some 51, op := Op.move (Operand.tmp 8), type := 3, pos := _, after := #[], guard := none }) (v := ?_) rfl (by kernel_rfl) (by kernel_rfl) (by kernel_rfl) (by kernel_rfl) (fun _ _ _ h => h) (Or.inl ⟨by rfl, ?_⟩) (fun _ => by assumption) ?_
          rotate_left
          · intro w hSw
            try dsimp only at hSw
            go_simp
            try with_reducible rfl
          try simp only [Act.put, List.setIfInBounds_toArray, List.set_cons_zero, List.set_cons_succ]
          refine wpAnyG_pure (i := 10) (oi := { dst := some 52, op := Op.indexAddr 22 (Operand.tmp 50) (Operand.tmp 51), type := 0, pos := _, after := #[{ on := 8, ground := Ground.data }, { on := 9, ground := Ground.data }], guard := none }) (v := ?_) rfl (by kernel_rfl) (by kernel_rfl) (by kernel_rfl) (by kernel_rfl) (fun _ _ _ h => h) (Or.inl ⟨by rfl, ?_⟩) (fun _ => by assumption) ?_
          rotate_left
          · intro w hSw
            try dsimp only at hSw
            go_simp
            try with_reducible rfl
          try simp only [Act.put, List.setIfInBounds_toArray, List.set_cons_zero, List.set_cons_succ]
          refine wpAnyG_pure (i := 11) (oi := { dst := some 53, op := Op.fieldAddr 27 (Operand.tmp 52) 1, type := 0, pos := _, after := #[{ on := 10, ground := Ground.data }], guard := none }) (v := ?_) rfl (by kernel_rfl) (by kernel_rfl) (by kernel_rfl) (by kernel_rfl) (fun _ _ _ h => h) (Or.inl ⟨by rfl, ?_⟩) (fun _ => by assumption) ?_
          rotate_left
          · intro w hSw
            try dsimp only at hSw
            go_simp
            try with_reducible rfl
          try simp only [Act.put, List.setIfInBounds_toArray, List.set_cons_zero, List.set_cons_succ]
          refine wpAnyG_take (i := 12) (oi := { dst := some 54, op := Op.load 23 (Operand.tmp 53), type := 23, pos := _, after := #[{ on := 11, ground := Ground.data }], guard := none }) (v := ?_) rfl (by kernel_rfl) (by kernel_rfl) (by kernel_rfl) (by kernel_rfl) (fun _ _ _ h => h) (Or.inl ⟨by rfl, ?_⟩) (by assumption) ?_
          rotate_left
          · intro w hSw
            try dsimp only at hSw
            go_simp
            try with_reducible rfl
          try simp only [Act.put, List.setIfInBounds_toArray, List.set_cons_zero, List.set_cons_succ]
          refine wpAnyG_one (i := 13) (o := { dst := some 55, op := Op.call { callee := Callee.value (Operand.func 23), args := #[Operand.tmp 42, Operand.tmp 49, Operand.tmp 54], argTypes := #[28, 3, 23] }, type := 31, pos := _, after := #[{ on := 0, ground := Ground.data }, { on := 7, ground := Ground.data }, { on := 12, ground := Ground.data }], guard := none }) (by kernel_rfl) rfl (fun K hK => ?_)
          go_simp
          refine HW.out.mono ?_
          rintro e w4 ⟨rfl, h4, f4⟩
          have H4 := Lib.hid (And.intro h4 f4)
          clear h4 f4
          try dsimp only
          refine hK.out _ _ ?_ (fun hHeld => ?_)
          · intro _
            try dsimp only
            exact HCW.out w4 H4.out.1.below
          clear hK K
          try simp only [Act.put, List.setIfInBounds_toArray, List.set_cons_zero, List.set_cons_succ]
          have hHeld := hHeld (by kernel_rfl)
          refine wpAnyG_pure (i := 14) (oi := { dst := some 56, op := Op.binOp BinOp.neq 31 (Operand.tmp 55) (Operand.const (Value.int IntKind.i64 0)) 31, type := 4, pos := _, after := #[{ on := 13, ground := Ground.data }], guard := none }) (v := ?_) rfl (by kernel_rfl) (by kernel_rfl) (by kernel_rfl) (by kernel_rfl) (fun _ _ _ h => h) (Or.inl ⟨by rfl, ?_⟩) (fun _ => by assumption) ?_
          rotate_left
          · intro w hSw
            try dsimp only at hSw
            go_simp
            try with_reducible rfl
          try simp only [Act.put, List.setIfInBounds_toArray, List.set_cons_zero, List.set_cons_succ]
          refine wpAnyG_done (by kernel_rfl) ?_ _
          refine NoPanic.normal ?_
          --END wn12
          go_wp2_with fail
          go_roundw
          case rel => exact ⟨j + 1, rfl, hjn, H4.out.1⟩
          case measure => simp [intOf]; omega
        · obtain rfl : m2 = j := by omega
          have HS := Lib.hid (show DSt w [(p, wrOf l r)] (fun _ => False) w3 from by have := H3.out; rwa [← HR.out.1, List.take_length] at this)
          have heq : (wrOf l r).L.length = m2 := by rw [← HR.out.1]; unfold wrOf; rw [(new4.puts l).sync]; show ([] ++ latesOf r).length = _; simp [latesOf]
          go_wp2_with fail
          refine (dopen HS.out (i := 0) rfl).mono ?_
          rintro e w' ⟨rfl, rfl⟩
          rw [heq]
          clear heq
          go_wp2_with fail
          go_ret2
          exact ⟨p, rfl, HS.out⟩
end Go.Proofs.Ytjpelifafmkdpaa.DkW
