/- net.Take, Twice, Set, Clear. -/
import Derived.Test.YtdgaicnnaidkkaaNtDel
namespace Go.Proofs.Ytdgaicnnaidkkaa.NtW
open Go.RowKit Go.Shelf Mem Rng
set_option linter.unusedVariables false

theorem tot_erase : ∀ (ms : List Ms) (i : Nat) (m : Ms), ms[i]? = some m → tot (ms.eraseIdx i) + m.l.length = tot ms
  | [], i, m, h => by cases h
  | a :: r, 0, m, h => by injection h with h; subst h; simp [tot]; omega
  | a :: r, i + 1, m, h => by
    have ih := tot_erase r i m h
    simp [tot] at ih ⊢; omega
theorem tot_set : ∀ (ms : List Ms) (i : Nat) (m n : Ms), ms[i]? = some m → tot (ms.set i n) + m.l.length = tot ms + n.l.length
  | [], i, m, n, h => by cases h
  | a :: r, 0, m, n, h => by injection h with h; subst h; simp [tot]; omega
  | a :: r, i + 1, m, n, h => by
    have ih := tot_set r i m n h
    simp [tot] at ih ⊢; omega
theorem map_erase {α β : Type} (f : α → β) : ∀ (l : List α) (i : Nat), (l.eraseIdx i).map f = (l.map f).eraseIdx i
  | [], i => by simp
  | a :: r, 0 => rfl
  | a :: r, i + 1 => by simp [List.eraseIdx_cons_succ, map_erase f r i]
theorem ms_one (ms : List Ms) : ∀ v ∈ ms.map Ms.v, v.oneCell' = true := fun v hv => by
  obtain ⟨m, _, rfl⟩ := List.mem_map.1 hv; rfl
section
variable {F : Nat → Prop} {p c most g : Nat} {A : Option Addr} {ms : List Ms} {w w' w1 w2 w3 : World}
theorem Net.del (h : Net F p (some ⟨g, 0, none⟩) c most ms w) {i : Nat} {m : Ms} (hm : ms[i]? = some m) (ho : Mem.Own w3 0 22 (some ⟨g, 0, none⟩) c ((ms.map Ms.v).eraseIdx i)) (hf : Fr (fun k => k = g) w w3) {n x : Int} {k : Nat} (hx : x = (tot ms : Int) - (m.l.length : Int)) (hk : k = ms.length - 1) :
    Net F p (some ⟨g, 0, none⟩) c most (ms.eraseIdx i) ((w3.setCell ⟨p, 0, none⟩ (.slice (some ⟨g, 0, none⟩) k c)).setCell ⟨p, 2, none⟩ (.int .i64 x)) ∧
      Fr F w ((w3.setCell ⟨p, 0, none⟩ (.slice (some ⟨g, 0, none⟩) k c)).setCell ⟨p, 2, none⟩ (.int .i64 x)) := by
  have hi : i < ms.length := (List.getElem?_eq_some_iff.1 hm).1
  have hgp := (h.foot.2 g rfl).2
  have hte := tot_erase ms i m hm
  have hle : (ms.eraseIdx i).length = ms.length - 1 := List.length_eraseIdx_of_lt hi
  have fW : Fr (fun k => k = g ∨ k = p) w ((w3.setCell ⟨p, 0, none⟩ (.slice (some ⟨g, 0, none⟩) k c)).setCell ⟨p, 2, none⟩ (.int .i64 x)) :=
    ((hf.mono fun k _ h => .inl h).setCell (p := ⟨p, 0, none⟩) (fun _ => .inr rfl) _).setCell (p := ⟨p, 2, none⟩) (fun _ => .inr rfl) _
  refine ⟨⟨?_, ?_, fun m' hm' => ?_, h.foot, fun k hk => Nat.lt_of_lt_of_le (h.lt k hk) fW.size, ⟨h.bound.1, by rw [hle]; have := h.bound.2.1; omega, by have := h.bound.2.2; omega⟩⟩, fW.mono fun k _ hk => hk.elim (fun e => by rw [e]; exact (h.foot.2 g rfl).1) (fun e => by rw [e]; exact h.foot.1)⟩
  · have hb := ((h.blk.fr hf (fun e => hgp e.symm)).set_ 0 (.slice (some ⟨g, 0, none⟩) k c)).set_ 2 (.int .i64 x)
    rw [hle, ← hk, show (((tot (ms.eraseIdx i) : Nat)) : Int) = x from by omega]
    exact hb
  · rw [map_erase]
    exact (ho.set_far (fun g' hg' e => by injection hg' with hg'; injection hg' with hg'; dsimp only at e; omega)).set_far (fun g' hg' e => by injection hg' with hg'; injection hg' with hg'; dsimp only at e; omega)
  · obtain ⟨h1, h2, h3, h4⟩ := h.msg m' (List.mem_of_mem_eraseIdx hm')
    refine ⟨bytesFr h1 fW (fun b o e hl hk => ?_), h2, h3, h4⟩
    obtain ⟨b', o', e', hF, hbp, hbA⟩ := h4 hl
    rw [e] at e'; injection e' with e'; injection e' with e' _; subst e'
    exact hk.elim (fun e => hbA (by rw [e])) hbp
/-- Another message in one's place. -/
theorem Net.put (h : Net F p (some ⟨g, 0, none⟩) c most ms w) {i : Nat} {m : Ms} (hm : ms[i]? = some m) {l : List UInt8} (hl : l.length ≤ 131072) (ht : tot ms - m.l.length + l.length ≤ 134217728) {A1 : Option Addr} {c1 : Nat}
    (ho : Mem.Own w1 w.heap.size 5 A1 c1 (l.map u8v)) (hb : Below w.heap.size w w1) {x : Int} (hx : x = (tot ms : Int) - (m.l.length : Int) + (l.length : Int)) :
    ∃ F', Net F' p (some ⟨g, 0, none⟩) c most (ms.set i ⟨A1, l, c1⟩) ((w1.setCell ⟨g, i, none⟩ (.slice A1 l.length c1)).setCell ⟨p, 2, none⟩ (.int .i64 x)) ∧ Grow F F' w ∧
      Fr F w ((w1.setCell ⟨g, i, none⟩ (.slice A1 l.length c1)).setCell ⟨p, 2, none⟩ (.int .i64 x)) := by
  have hi : i < ms.length := (List.getElem?_eq_some_iff.1 hm).1
  have hgp := (h.foot.2 g rfl).2
  have hts := tot_set ms i m ⟨A1, l, c1⟩ hm
  have hte := tot_erase ms i m hm
  have hA1 : ∀ g', A1 = some ⟨g', 0, none⟩ → w.heap.size ≤ g' ∧ g' < w1.heap.size := fun g' hg' => by
    rcases ho.form with ⟨e, _⟩ | ⟨g2, e, h1, h2, _⟩
    · rw [e] at hg'; cases hg'
    · rw [e] at hg'; injection hg' with hg'; injection hg' with hg'; subst hg'; exact ⟨h1, h2⟩
  have hpl := h.lt p h.foot.1
  have hgl := h.lt g (h.foot.2 g rfl).1
  have f1 : Fr (fun k => k = g ∨ k = p) w1 ((w1.setCell ⟨g, i, none⟩ (.slice A1 l.length c1)).setCell ⟨p, 2, none⟩ (.int .i64 x)) :=
    ((Fr.refl _ w1).setCell (p := ⟨g, i, none⟩) (fun _ => .inl rfl) _).setCell (p := ⟨p, 2, none⟩) (fun _ => .inr rfl) _
  have fW := (Fr.quiet (S := fun k => k = g ∨ k = p) hb).trans f1 fun _ _ h => h
  refine ⟨fun k => F k ∨ A1 = some ⟨k, 0, none⟩, ⟨?_, ?_, fun m' hm' => ?_, ⟨.inl h.foot.1, fun g' hg' => by injection hg' with hg'; injection hg' with hg'; subst hg'; exact ⟨.inl (h.foot.2 g rfl).1, hgp⟩⟩, fun k hk => ?_, ⟨h.bound.1, by rw [List.length_set]; exact h.bound.2.1, ?_⟩⟩, fun k hk => hk.imp id (fun e => (hA1 k e).1), fW.mono fun k _ hk => hk.elim (fun e => by rw [e]; exact (h.foot.2 g rfl).1) (fun e => by rw [e]; exact h.foot.1)⟩
  · have hb2 := ((h.blk.keep hb).far (p := ⟨g, i, none⟩) hgp (.slice A1 l.length c1)).set_ 2 (.int .i64 x)
    rw [List.length_set, show (((tot (ms.set i ⟨A1, l, c1⟩) : Nat)) : Int) = x from by dsimp only at hts; omega]
    exact hb2
  · rw [List.map_set]
    obtain ⟨g', hA, _, _, _, _, hs⟩ := (h.own.keep hb).at_ (k := i) (by rw [List.length_map]; exact hi)
    injection hA with hA; injection hA with hA; subst hA
    exact (hs (.slice A1 l.length c1)).set_far (fun g' hg' e => by injection hg' with hg'; injection hg' with hg'; dsimp only at e; omega)
  · rcases List.mem_or_eq_of_mem_set hm' with hm' | rfl
    · obtain ⟨h1, h2, h3, h4⟩ := h.msg m' hm'
      refine ⟨bytesFr h1 fW (fun b o e hl hk => ?_), h2, h3, fun hl => ?_⟩
      · obtain ⟨b', o', e', hF, hbp, hbA⟩ := h4 hl
        rw [e] at e'; injection e' with e'; injection e' with e' _; subst e'
        exact hk.elim (fun e => hbA (by rw [e])) hbp
      · obtain ⟨b', o', e', hF, hbp, hbA⟩ := h4 hl
        exact ⟨b', o', e', .inl hF, hbp, hbA⟩
    · refine ⟨bytesFr ho.bytes f1 (fun b o (e : A1 = some ⟨b, o, none⟩) hl' hk => ?_), by have := ho.le; simpa using this, hl, fun hl' => ?_⟩
      · rcases ho.form with ⟨e2, _⟩ | ⟨g', e2, h1, h2, _⟩
        · rw [e] at e2; cases e2
        · rw [e] at e2; injection e2 with e2; injection e2 with e2; subst e2
          rcases hk with hk | hk <;> omega
      · rcases ho.form with ⟨e2, _, e3⟩ | ⟨g', e2, h1, h2, _⟩
        · rw [List.map_eq_nil_iff] at e3; dsimp only at hl'; rw [e3] at hl'; simp at hl'
        · exact ⟨g', 0, e2, .inr e2, by omega, fun e => by injection e with e; injection e with e; omega⟩
  · have hs : ((w1.setCell ⟨g, i, none⟩ (.slice A1 l.length c1)).setCell ⟨p, 2, none⟩ (.int .i64 x)).heap.size = w1.heap.size := by simp [World.setCell]
    rw [hs]
    rcases hk with hk | hk
    · have := h.lt k hk; have := hb.size; omega
    · exact (hA1 k hk).2
  · dsimp only at hts; omega
end
/-- What Take leaves. -/
def TakeOk (w : World) (F : Nat → Prop) (p most : Nat) (L : List (List UInt8)) (v : Option (List UInt8)) (e : Ending) (w' : World) : Prop :=
  ∃ B c, e = .returned (.tuple #[.slice B (v.getD []).length c, .bool v.isSome]) ∧ Mem.Own w' w.heap.size 5 B c ((v.getD []).map u8v) ∧ NetA F p most L w' ∧ Fr F w w'
set_option maxRecDepth 100000 in
set_option maxHeartbeats 4000000 in
theorem take_no (p : Nat) (F : Nat → Prop) (A : Option Addr) (c most : Nat) (ms : List Ms) (w : World) (h : Net F p A c most ms w) (i : Int) (hi : i < 0 ∨ (ms.length : Int) ≤ i) :
    Calls Try.prog 8 #[.pointer (some ⟨p, 0, none⟩), .int .i64 i] w (TakeOk w F p most (ms.map Ms.l) none) := by
  have HR := Lib.hid (at_no p F A c most ms w h i hi)
  have HN := Lib.hid h
  clear h hi
  go_enter Try.func8, Try.ntmps8
  go_wp2_with fail
  refine HR.out.mono ?_
  rintro e w1 ⟨B, c1, rfl, ho, hb⟩
  have H1 := Lib.hid (And.intro ho hb)
  clear ho hb HR
  go_wp2_with fail
  go_ret2
  exact ⟨B, c1, rfl, H1.out.1, ⟨A, c, ms, rfl, HN.out.keep H1.out.2⟩, Fr.quiet H1.out.2⟩
set_option maxRecDepth 100000 in
set_option maxHeartbeats 8000000 in
theorem take_yes (p : Nat) (F : Nat → Prop) (A : Option Addr) (c most : Nat) (ms : List Ms) (w : World) (h : Net F p A c most ms w) (i : Nat) (m : Ms) (hm : ms[i]? = some m) :
    Calls Try.prog 8 #[.pointer (some ⟨p, 0, none⟩), .int .i64 (i : Int)] w (TakeOk w F p most ((ms.map Ms.l).eraseIdx i) (some m.l)) := by
  have HR := Lib.hid (at_yes p F A c most ms w h i m hm)
  obtain ⟨g, rfl, _, _⟩ := h.row_at hm
  have hi : i < ms.length := (List.getElem?_eq_some_iff.1 hm).1
  obtain ⟨S, hS⟩ : ∃ S, tot ms = S := ⟨_, rfl⟩
  obtain ⟨k, hk⟩ : ∃ k, ms.length = k := ⟨_, rfl⟩
  obtain ⟨n, hn⟩ : ∃ n, m.l.length = n := ⟨_, rfl⟩
  have hte := tot_erase ms i m hm
  have hS2 : (S : Int) ≤ 256 ^ 4 := by have := h.bound.2.2; omega
  have hS0 : (0 : Int) ≤ (S : Int) := by omega
  have hn0 : (0 : Int) ≤ (n : Int) := by omega
  have hnS : (n : Int) ≤ (S : Int) := by omega
  have hki : (i : Int) < (k : Int) := by omega
  have hi0 : (0 : Int) ≤ (i : Int) := by omega
  have hk2 : (k : Int) ≤ 256 ^ 3 := by have := h.bound.1; have := h.bound.2.1; omega
  have hw : IntKind.i64.wrap ((S : Int) - (n : Int)) = (S : Int) - (n : Int) := IntWalk.i64_in _ (by omega)
  have hw2 : IntKind.i64.wrap ((i : Int) + 1) = (i : Int) + 1 := IntWalk.i64_in _ (by omega)
  have HSK := Lib.hid (show tot ms = S ∧ ms.length = k ∧ m.l.length = n from ⟨hS, hk, hn⟩)
  have HN := Lib.hid h
  have HM := Lib.hid (And.intro hm hi)
  clear h hm hi hS hk hte
  go_enter Try.func8, Try.ntmps8
  go_wp2_with fail
  refine HR.out.mono ?_
  rintro e w1 ⟨B, c1, rfl, ho, hb⟩
  rw [show ((some m.l).getD []).length = n from hn]
  have H1 := Lib.hid (And.intro ho hb)
  clear ho hb HR hn
  go_wp2_with fail
  have HD := Lib.hid (And.intro (HN.out.keep (next H1.out.2 (nextN (Mem.start w1) 1))) (And.intro (H1.out.1.keep (nextN (Mem.start w1) 1)) (show Below w.heap.size w w1.drew from next H1.out.2 (nextN (Mem.start w1) 1))))
  have HDL := Lib.hid (delete_any w1.drew 0 g c i k (ms.map Ms.v) (ms_one ms) HD.out.1.own (by have := HM.out.2; have := HSK.out.2.1; omega) (by rw [List.length_map]; exact HSK.out.2.1.symm))
  --HELD take3
  refine wp_region_noPanic ?_
  refine wp_heldG (fun w' => w'.cell? ⟨p, 0, none⟩ = some (.slice (some ⟨g, 0, none⟩) k c) ∧ w'.cell? ⟨p, 2, none⟩ = some (.int .i64 (S : Int)) ∧ Blk w' p 49 #[.slice (some ⟨g, 0, none⟩) k c, .int .i64 (most : Int), .int .i64 (S : Int)]) [21, 24] (by kernel_rfl) ?hs0 ?rg0
  case hs0 =>
    exact ⟨by rw [← HSK.out.2.1]; exact HD.out.1.cell0, by rw [← HSK.out.1]; exact HD.out.1.cell2, by rw [← HSK.out.1, ← HSK.out.2.1]; exact HD.out.1.blk⟩
  case rg0 =>
  intro hHeld
  refine wpAnyG_pure (i := 0) (oi := { dst := some 15, op := Op.move (Operand.tmp 0), type := 23, pos := _, after := #[], guard := none }) (v := ?_) rfl (by kernel_rfl) (by kernel_rfl) (by kernel_rfl) (by kernel_rfl) (fun _ _ _ h => h) (Or.inl ⟨by rfl, ?_⟩) (fun _ => by assumption) ?_
  rotate_left
  · intro w hSw
    try dsimp only at hSw
    go_simp
    try with_reducible rfl
  try simp only [Act.put, List.setIfInBounds_toArray, List.set_cons_zero, List.set_cons_succ]
  refine wpAnyG_pure (i := 1) (oi := { dst := some 16, op := Op.move (Operand.tmp 0), type := 23, pos := _, after := #[{ on := 21, ground := Ground.gcOnly Departure.lateStores }], guard := none }) (v := ?_) rfl (by kernel_rfl) (by kernel_rfl) (by kernel_rfl) (by kernel_rfl) (fun _ _ _ h => h) (Or.inl ⟨by rfl, ?_⟩) (fun _ => by assumption) ?_
  rotate_left
  · intro w hSw
    try dsimp only at hSw
    go_simp
    try with_reducible rfl
  try simp only [Act.put, List.setIfInBounds_toArray, List.set_cons_zero, List.set_cons_succ]
  refine wpAnyG_pure (i := 2) (oi := { dst := some 17, op := Op.move (Operand.tmp 0), type := 23, pos := _, after := #[], guard := none }) (v := ?_) rfl (by kernel_rfl) (by kernel_rfl) (by kernel_rfl) (by kernel_rfl) (fun _ _ _ h => h) (Or.inl ⟨by rfl, ?_⟩) (fun _ => by assumption) ?_
  rotate_left
  · intro w hSw
    try dsimp only at hSw
    go_simp
    try with_reducible rfl
  try simp only [Act.put, List.setIfInBounds_toArray, List.set_cons_zero, List.set_cons_succ]
  refine wpAnyG_pure (i := 3) (oi := { dst := some 18, op := Op.nilCheck (Operand.tmp 17), type := 0, pos := _, after := #[{ on := 2, ground := Ground.data }], guard := none }) (v := ?_) rfl (by kernel_rfl) (by kernel_rfl) (by kernel_rfl) (by kernel_rfl) (fun _ _ _ h => h) (Or.inl ⟨by rfl, ?_⟩) (fun _ => by assumption) ?_
  rotate_left
  · intro w hSw
    try dsimp only at hSw
    go_simp
    try with_reducible rfl
  try simp only [Act.put, List.setIfInBounds_toArray, List.set_cons_zero, List.set_cons_succ]
  refine wpAnyG_pure (i := 4) (oi := { dst := some 19, op := Op.fieldAddr 49 (Operand.tmp 18) 0, type := 0, pos := _, after := #[{ on := 3, ground := Ground.data }], guard := none }) (v := ?_) rfl (by kernel_rfl) (by kernel_rfl) (by kernel_rfl) (by kernel_rfl) (fun _ _ _ h => h) (Or.inl ⟨by rfl, ?_⟩) (fun _ => by assumption) ?_
  rotate_left
  · intro w hSw
    try dsimp only at hSw
    go_simp
    try with_reducible rfl
  try simp only [Act.put, List.setIfInBounds_toArray, List.set_cons_zero, List.set_cons_succ]
  refine wpAnyG_pure (i := 5) (oi := { dst := some 20, op := Op.fieldAddr 47 (Operand.tmp 19) 0, type := 0, pos := _, after := #[{ on := 4, ground := Ground.data }], guard := none }) (v := ?_) rfl (by kernel_rfl) (by kernel_rfl) (by kernel_rfl) (by kernel_rfl) (fun _ _ _ h => h) (Or.inl ⟨by rfl, ?_⟩) (fun _ => by assumption) ?_
  rotate_left
  · intro w hSw
    try dsimp only at hSw
    go_simp
    try with_reducible rfl
  try simp only [Act.put, List.setIfInBounds_toArray, List.set_cons_zero, List.set_cons_succ]
  refine wpAnyG_take (i := 6) (oi := { dst := some 21, op := Op.load 30 (Operand.tmp 20), type := 30, pos := _, after := #[{ on := 5, ground := Ground.data }], guard := none }) (v := ?_) rfl (by kernel_rfl) (by kernel_rfl) (by kernel_rfl) (by kernel_rfl) (fun _ _ _ h => h) (Or.inl ⟨by rfl, ?_⟩) (by assumption) ?_
  rotate_left
  · intro w hSw
    try dsimp only at hSw
    go_simp
    try with_reducible rfl
  try simp only [Act.put, List.setIfInBounds_toArray, List.set_cons_zero, List.set_cons_succ]
  refine wpAnyG_pure (i := 7) (oi := { dst := some 22, op := Op.move (Operand.tmp 1), type := 3, pos := _, after := #[], guard := none }) (v := ?_) rfl (by kernel_rfl) (by kernel_rfl) (by kernel_rfl) (by kernel_rfl) (fun _ _ _ h => h) (Or.inl ⟨by rfl, ?_⟩) (fun _ => by assumption) ?_
  rotate_left
  · intro w hSw
    try dsimp only at hSw
    go_simp
    try with_reducible rfl
  try simp only [Act.put, List.setIfInBounds_toArray, List.set_cons_zero, List.set_cons_succ]
  refine wpAnyG_pure (i := 8) (oi := { dst := some 23, op := Op.move (Operand.tmp 1), type := 3, pos := _, after := #[], guard := none }) (v := ?_) rfl (by kernel_rfl) (by kernel_rfl) (by kernel_rfl) (by kernel_rfl) (fun _ _ _ h => h) (Or.inl ⟨by rfl, ?_⟩) (fun _ => by assumption) ?_
  rotate_left
  · intro w hSw
    try dsimp only at hSw
    go_simp
    try with_reducible rfl
  try simp only [Act.put, List.setIfInBounds_toArray, List.set_cons_zero, List.set_cons_succ]
  refine wpAnyG_pure (i := 9) (oi := { dst := some 24, op := Op.binOp BinOp.add 3 (Operand.tmp 23) (Operand.const (Value.int IntKind.i64 1)) 3, type := 3, pos := _, after := #[{ on := 8, ground := Ground.data }], guard := none }) (v := ?_) rfl (by kernel_rfl) (by kernel_rfl) (by kernel_rfl) (by kernel_rfl) (fun _ _ _ h => h) (Or.inl ⟨by rfl, ?_⟩) (fun _ => by assumption) ?_
  rotate_left
  · intro w hSw
    try dsimp only at hSw
    go_simp
    try with_reducible rfl
  try simp only [Act.put, List.setIfInBounds_toArray, List.set_cons_zero, List.set_cons_succ]
  refine wpAnyG_pure (i := 11) (oi := { dst := some 26, op := Op.move (Operand.tmp 0), type := 23, pos := _, after := #[], guard := none }) (v := ?_) rfl (by kernel_rfl) (by kernel_rfl) (by kernel_rfl) (by kernel_rfl) (fun _ _ _ h => h) (Or.inl ⟨by rfl, ?_⟩) (fun _ => by assumption) ?_
  rotate_left
  · intro w hSw
    try dsimp only at hSw
    go_simp
    try with_reducible rfl
  try simp only [Act.put, List.setIfInBounds_toArray, List.set_cons_zero, List.set_cons_succ]
  refine wpAnyG_pure (i := 12) (oi := { dst := some 27, op := Op.nilCheck (Operand.tmp 26), type := 0, pos := _, after := #[{ on := 11, ground := Ground.data }], guard := none }) (v := ?_) rfl (by kernel_rfl) (by kernel_rfl) (by kernel_rfl) (by kernel_rfl) (fun _ _ _ h => h) (Or.inl ⟨by rfl, ?_⟩) (fun _ => by assumption) ?_
  rotate_left
  · intro w hSw
    try dsimp only at hSw
    go_simp
    try with_reducible rfl
  try simp only [Act.put, List.setIfInBounds_toArray, List.set_cons_zero, List.set_cons_succ]
  refine wpAnyG_pure (i := 13) (oi := { dst := some 28, op := Op.fieldAddr 49 (Operand.tmp 27) 2, type := 0, pos := _, after := #[{ on := 12, ground := Ground.data }], guard := none }) (v := ?_) rfl (by kernel_rfl) (by kernel_rfl) (by kernel_rfl) (by kernel_rfl) (fun _ _ _ h => h) (Or.inl ⟨by rfl, ?_⟩) (fun _ => by assumption) ?_
  rotate_left
  · intro w hSw
    try dsimp only at hSw
    go_simp
    try with_reducible rfl
  try simp only [Act.put, List.setIfInBounds_toArray, List.set_cons_zero, List.set_cons_succ]
  refine wpAnyG_take (i := 14) (oi := { dst := some 29, op := Op.load 3 (Operand.tmp 28), type := 3, pos := _, after := #[{ on := 13, ground := Ground.data }], guard := none }) (v := ?_) rfl (by kernel_rfl) (by kernel_rfl) (by kernel_rfl) (by kernel_rfl) (fun _ _ _ h => h) (Or.inl ⟨by rfl, ?_⟩) (by assumption) ?_
  rotate_left
  · intro w hSw
    try dsimp only at hSw
    go_simp
    try with_reducible rfl
  try simp only [Act.put, List.setIfInBounds_toArray, List.set_cons_zero, List.set_cons_succ]
  refine wpAnyG_pure (i := 15) (oi := { dst := some 30, op := Op.move (Operand.tmp 6), type := 22, pos := _, after := #[], guard := none }) (v := ?_) rfl (by kernel_rfl) (by kernel_rfl) (by kernel_rfl) (by kernel_rfl) (fun _ _ _ h => h) (Or.inl ⟨by rfl, ?_⟩) (fun _ => by assumption) ?_
  rotate_left
  · intro w hSw
    try dsimp only at hSw
    go_simp
    try with_reducible rfl
  try simp only [Act.put, List.setIfInBounds_toArray, List.set_cons_zero, List.set_cons_succ]
  refine wpAnyG_pure (i := 16) (oi := { dst := some 31, op := Op.call { callee := Callee.builtin Builtin.len, args := #[Operand.tmp 30], argTypes := #[22] }, type := 3, pos := _, after := #[{ on := 15, ground := Ground.data }], guard := none }) (v := ?_) rfl (by kernel_rfl) (by kernel_rfl) (by kernel_rfl) (by kernel_rfl) (fun _ _ _ h => h) (Or.inl ⟨by rfl, ?_⟩) (fun _ => by assumption) ?_
  rotate_left
  · intro w hSw
    try dsimp only at hSw
    go_simp
    try with_reducible rfl
  try simp only [Act.put, List.setIfInBounds_toArray, List.set_cons_zero, List.set_cons_succ]
  refine wpAnyG_pure (i := 17) (oi := { dst := some 32, op := Op.binOp BinOp.sub 3 (Operand.tmp 29) (Operand.tmp 31) 3, type := 3, pos := _, after := #[{ on := 14, ground := Ground.data }, { on := 16, ground := Ground.data }], guard := none }) (v := ?_) rfl (by kernel_rfl) (by kernel_rfl) (by kernel_rfl) (by kernel_rfl) (fun _ _ _ h => h) (Or.inl ⟨by rfl, ?_⟩) (fun _ => by assumption) ?_
  rotate_left
  · intro w hSw
    try dsimp only at hSw
    go_simp
    try with_reducible rfl
  try simp only [Act.put, List.setIfInBounds_toArray, List.set_cons_zero, List.set_cons_succ]
  refine wpAnyG_one (i := 10) (o := { dst := some 25, op := Op.call { callee := Callee.value (Operand.func 21), args := #[Operand.tmp 21, Operand.tmp 22, Operand.tmp 24], argTypes := #[30, 3, 3] }, type := 30, pos := _, after := #[{ on := 6, ground := Ground.data }, { on := 7, ground := Ground.data }, { on := 9, ground := Ground.data }], guard := none }) (by kernel_rfl) rfl (fun K hK => ?_)
  go_simp
  refine HDL.out.mono ?_
  rintro e w3 ⟨rfl, ho3, hf3⟩
  have HO3 := Lib.hid (And.intro ho3 hf3)
  clear ho3 hf3
  try dsimp only
  refine hK.out _ _ ?_ (fun hHeld => ?_)
  · intro _
    try dsimp only
    exact ⟨cellFr HO3.out.2 hHeld.1 (fun e => (HN.out.foot.2 g rfl).2 e.symm), cellFr HO3.out.2 hHeld.2.1 (fun e => (HN.out.foot.2 g rfl).2 e.symm), hHeld.2.2.fr HO3.out.2 (fun e => (HN.out.foot.2 g rfl).2 e.symm)⟩
  clear hK K
  try simp only [Act.put, List.setIfInBounds_toArray, List.set_cons_zero, List.set_cons_succ]
  have hHeld := hHeld (by kernel_rfl)
  refine wpAnyG_pure (i := 18) (oi := { dst := some 33, op := Op.nilCheck (Operand.tmp 15), type := 0, pos := _, after := #[{ on := 0, ground := Ground.data }, { on := 0, ground := Ground.phase }, { on := 1, ground := Ground.textOnly Departure.lateStores }, { on := 2, ground := Ground.phase }, { on := 3, ground := Ground.phase }, { on := 4, ground := Ground.phase }, { on := 5, ground := Ground.phase }, { on := 6, ground := Ground.phase }, { on := 7, ground := Ground.phase }, { on := 8, ground := Ground.phase }, { on := 9, ground := Ground.phase }, { on := 10, ground := Ground.phase }, { on := 11, ground := Ground.textOnly Departure.lateStores }, { on := 12, ground := Ground.textOnly Departure.lateStoresUnsure }, { on := 13, ground := Ground.textOnly Departure.lateStoresUnsure }, { on := 14, ground := Ground.phase }, { on := 15, ground := Ground.textOnly Departure.lateStores }, { on := 16, ground := Ground.textOnly Departure.lateStoresUnsure }, { on := 17, ground := Ground.textOnly Departure.lateStoresUnsure }], guard := none }) (v := ?_) rfl (by kernel_rfl) (by kernel_rfl) (by kernel_rfl) (by kernel_rfl) (fun _ _ _ h => h) (Or.inl ⟨by rfl, ?_⟩) (fun _ => by assumption) ?_
  rotate_left
  · intro w hSw
    try dsimp only at hSw
    go_simp
    try with_reducible rfl
  try simp only [Act.put, List.setIfInBounds_toArray, List.set_cons_zero, List.set_cons_succ]
  refine wpAnyG_pure (i := 19) (oi := { dst := some 34, op := Op.fieldAddr 49 (Operand.tmp 33) 0, type := 0, pos := _, after := #[{ on := 18, ground := Ground.data }, { on := 0, ground := Ground.phase }, { on := 1, ground := Ground.textOnly Departure.lateStores }, { on := 2, ground := Ground.phase }, { on := 3, ground := Ground.phase }, { on := 4, ground := Ground.phase }, { on := 5, ground := Ground.phase }, { on := 6, ground := Ground.phase }, { on := 7, ground := Ground.phase }, { on := 8, ground := Ground.phase }, { on := 9, ground := Ground.phase }, { on := 10, ground := Ground.phase }, { on := 11, ground := Ground.textOnly Departure.lateStores }, { on := 12, ground := Ground.textOnly Departure.lateStoresUnsure }, { on := 13, ground := Ground.textOnly Departure.lateStoresUnsure }, { on := 14, ground := Ground.phase }, { on := 15, ground := Ground.textOnly Departure.lateStores }, { on := 16, ground := Ground.textOnly Departure.lateStoresUnsure }, { on := 17, ground := Ground.textOnly Departure.lateStoresUnsure }], guard := none }) (v := ?_) rfl (by kernel_rfl) (by kernel_rfl) (by kernel_rfl) (by kernel_rfl) (fun _ _ _ h => h) (Or.inl ⟨by rfl, ?_⟩) (fun _ => by assumption) ?_
  rotate_left
  · intro w hSw
    try dsimp only at hSw
    go_simp
    try with_reducible rfl
  try simp only [Act.put, List.setIfInBounds_toArray, List.set_cons_zero, List.set_cons_succ]
  refine wpAnyG_pure (i := 20) (oi := { dst := some 35, op := Op.fieldAddr 47 (Operand.tmp 34) 0, type := 0, pos := _, after := #[{ on := 19, ground := Ground.data }, { on := 0, ground := Ground.phase }, { on := 1, ground := Ground.textOnly Departure.lateStores }, { on := 2, ground := Ground.phase }, { on := 3, ground := Ground.phase }, { on := 4, ground := Ground.phase }, { on := 5, ground := Ground.phase }, { on := 6, ground := Ground.phase }, { on := 7, ground := Ground.phase }, { on := 8, ground := Ground.phase }, { on := 9, ground := Ground.phase }, { on := 10, ground := Ground.phase }, { on := 11, ground := Ground.textOnly Departure.lateStores }, { on := 12, ground := Ground.textOnly Departure.lateStoresUnsure }, { on := 13, ground := Ground.textOnly Departure.lateStoresUnsure }, { on := 14, ground := Ground.phase }, { on := 15, ground := Ground.textOnly Departure.lateStores }, { on := 16, ground := Ground.textOnly Departure.lateStoresUnsure }, { on := 17, ground := Ground.textOnly Departure.lateStoresUnsure }], guard := none }) (v := ?_) rfl (by kernel_rfl) (by kernel_rfl) (by kernel_rfl) (by kernel_rfl) (fun _ _ _ h => h) (Or.inl ⟨by rfl, ?_⟩) (fun _ => by assumption) ?_
  rotate_left
  · intro w hSw
    try dsimp only at hSw
    go_simp
    try with_reducible rfl
  try simp only [Act.put, List.setIfInBounds_toArray, List.set_cons_zero, List.set_cons_succ]
  refine wpAnyG_one (i := 21) (o := { dst := none, op := Op.store 30 (Operand.tmp 35) (Operand.tmp 25), type := 0, pos := _, after := #[{ on := 20, ground := Ground.data }, { on := 10, ground := Ground.data }, { on := 10, ground := Ground.chain }, { on := 0, ground := Ground.phase }, { on := 1, ground := Ground.textOnly Departure.lateStores }, { on := 2, ground := Ground.phase }, { on := 3, ground := Ground.phase }, { on := 4, ground := Ground.phase }, { on := 5, ground := Ground.phase }, { on := 6, ground := Ground.phase }, { on := 7, ground := Ground.phase }, { on := 8, ground := Ground.phase }, { on := 9, ground := Ground.phase }, { on := 10, ground := Ground.phase }, { on := 11, ground := Ground.textOnly Departure.lateStores }, { on := 12, ground := Ground.textOnly Departure.lateStoresUnsure }, { on := 13, ground := Ground.textOnly Departure.lateStoresUnsure }, { on := 14, ground := Ground.phase }, { on := 15, ground := Ground.textOnly Departure.lateStores }, { on := 16, ground := Ground.textOnly Departure.lateStoresUnsure }, { on := 17, ground := Ground.textOnly Departure.lateStoresUnsure }], guard := none }) (by kernel_rfl) rfl (fun K hK => ?_)
  have HBK := Lib.hid hHeld.2.2
  have z0 := HBK.out.frozen 0
  have cc0 := hHeld.1
  go_simp
  clear z0 cc0
  try dsimp only
  refine hK.out _ _ ?_ (fun hHeld => ?_)
  · exact fun h => (st_no (by kernel_rfl) h).elim
  clear hK K
  try simp only [Act.put, List.setIfInBounds_toArray, List.set_cons_zero, List.set_cons_succ]
  clear hHeld
  refine wpAnyG_pure (i := 22) (oi := { dst := some 36, op := Op.nilCheck (Operand.tmp 16), type := 0, pos := _, after := #[{ on := 1, ground := Ground.data }, { on := 0, ground := Ground.phase }, { on := 1, ground := Ground.phase }, { on := 2, ground := Ground.phase }, { on := 3, ground := Ground.phase }, { on := 4, ground := Ground.phase }, { on := 5, ground := Ground.phase }, { on := 6, ground := Ground.phase }, { on := 7, ground := Ground.phase }, { on := 8, ground := Ground.phase }, { on := 9, ground := Ground.phase }, { on := 10, ground := Ground.phase }, { on := 11, ground := Ground.phase }, { on := 12, ground := Ground.phase }, { on := 13, ground := Ground.phase }, { on := 14, ground := Ground.phase }, { on := 15, ground := Ground.phase }, { on := 16, ground := Ground.phase }, { on := 17, ground := Ground.phase }, { on := 18, ground := Ground.phase }, { on := 19, ground := Ground.phase }, { on := 20, ground := Ground.phase }, { on := 21, ground := Ground.phase }], guard := none }) (v := ?_) rfl (by kernel_rfl) (by kernel_rfl) (by kernel_rfl) (by kernel_rfl) (fun _ _ _ h => h) (Or.inl ⟨by rfl, ?_⟩) (fun h => (st_no (by kernel_rfl) h).elim) ?_
  rotate_left
  · intro w hSw
    try dsimp only at hSw
    go_simp
    try with_reducible rfl
  try simp only [Act.put, List.setIfInBounds_toArray, List.set_cons_zero, List.set_cons_succ]
  refine wpAnyG_pure (i := 23) (oi := { dst := some 37, op := Op.fieldAddr 49 (Operand.tmp 36) 2, type := 0, pos := _, after := #[{ on := 22, ground := Ground.data }, { on := 0, ground := Ground.phase }, { on := 1, ground := Ground.phase }, { on := 2, ground := Ground.phase }, { on := 3, ground := Ground.phase }, { on := 4, ground := Ground.phase }, { on := 5, ground := Ground.phase }, { on := 6, ground := Ground.phase }, { on := 7, ground := Ground.phase }, { on := 8, ground := Ground.phase }, { on := 9, ground := Ground.phase }, { on := 10, ground := Ground.phase }, { on := 11, ground := Ground.phase }, { on := 12, ground := Ground.phase }, { on := 13, ground := Ground.phase }, { on := 14, ground := Ground.phase }, { on := 15, ground := Ground.phase }, { on := 16, ground := Ground.phase }, { on := 17, ground := Ground.phase }, { on := 18, ground := Ground.phase }, { on := 19, ground := Ground.phase }, { on := 20, ground := Ground.phase }, { on := 21, ground := Ground.phase }], guard := none }) (v := ?_) rfl (by kernel_rfl) (by kernel_rfl) (by kernel_rfl) (by kernel_rfl) (fun _ _ _ h => h) (Or.inl ⟨by rfl, ?_⟩) (fun h => (st_no (by kernel_rfl) h).elim) ?_
  rotate_left
  · intro w hSw
    try dsimp only at hSw
    go_simp
    try with_reducible rfl
  try simp only [Act.put, List.setIfInBounds_toArray, List.set_cons_zero, List.set_cons_succ]
  refine wpAnyG_one (i := 24) (o := { dst := none, op := Op.store 3 (Operand.tmp 37) (Operand.tmp 32), type := 0, pos := _, after := #[{ on := 23, ground := Ground.data }, { on := 17, ground := Ground.data }, { on := 21, ground := Ground.chain }, { on := 0, ground := Ground.phase }, { on := 1, ground := Ground.phase }, { on := 2, ground := Ground.phase }, { on := 3, ground := Ground.phase }, { on := 4, ground := Ground.phase }, { on := 5, ground := Ground.phase }, { on := 6, ground := Ground.phase }, { on := 7, ground := Ground.phase }, { on := 8, ground := Ground.phase }, { on := 9, ground := Ground.phase }, { on := 10, ground := Ground.phase }, { on := 11, ground := Ground.phase }, { on := 12, ground := Ground.phase }, { on := 13, ground := Ground.phase }, { on := 14, ground := Ground.phase }, { on := 15, ground := Ground.phase }, { on := 16, ground := Ground.phase }, { on := 17, ground := Ground.phase }, { on := 18, ground := Ground.phase }, { on := 19, ground := Ground.phase }, { on := 20, ground := Ground.phase }, { on := 21, ground := Ground.phase }], guard := none }) (by kernel_rfl) rfl (fun K hK => ?_)
  have hb2 := HBK.out.set_ 0 (.slice (some ⟨g, 0, none⟩) (k - 1) c)
  have cc2 := hb2.cell 2
  have z2 := hb2.frozen 2
  rw [show ((#[Value.slice (some ⟨g, 0, none⟩) k c, Value.int .i64 (most : Int), Value.int .i64 (S : Int)] : Array Value).setIfInBounds 0 (.slice (some ⟨g, 0, none⟩) (k - 1) c))[2]? = some (Value.int .i64 (S : Int)) from rfl] at cc2
  go_simp
  clear z2 cc2 hb2
  try dsimp only
  refine hK.out _ _ ?_ (fun hHeld => ?_)
  · exact fun h => (st_no (by kernel_rfl) h).elim
  clear hK K
  try simp only [Act.put, List.setIfInBounds_toArray, List.set_cons_zero, List.set_cons_succ]
  clear hHeld
  refine wpAnyG_done (by kernel_rfl) ?_ _
  refine NoPanic.normal ?_
  --END take3
  go_wp2_with fail
  go_ret2
  have hd := HD.out.1.del (n := (S : Int) - (n : Int)) HM.out.1 HO3.out.1 HO3.out.2 (x := (S : Int) - (n : Int)) (k := k - 1) (by rw [HSK.out.1, HSK.out.2.2]) (by rw [HSK.out.2.1])
  refine ⟨B, c1, by rw [← HSK.out.2.2]; rfl, ?_, ⟨_, c, _, by rw [map_erase], hd.1⟩, (Fr.quiet HD.out.2.2).trans hd.2 fun _ _ h => h⟩
  exact (HD.out.2.1.fr hd.2 (fun g' hg' hF => by
    have h1 := HN.out.lt g' hF
    rcases H1.out.1.form with ⟨e, _⟩ | ⟨g2, e, h2, _⟩
    · rw [e] at hg'; cases hg'
    · rw [e] at hg'; injection hg' with hg'; injection hg' with hg'; omega))
theorem take_any (F : Nat → Prop) (p most : Nat) (L : List (List UInt8)) (w : World) (h : NetA F p most L w) (i : Int) :
    Calls Try.prog 8 #[.pointer (some ⟨p, 0, none⟩), .int .i64 i] w (TakeOk w F p most (if (atV L i).isSome then L.eraseIdx i.toNat else L) (atV L i)) := by
  obtain ⟨A, c, ms, rfl, hn⟩ := h
  by_cases hi : i < 0
  · unfold atV; rw [if_pos hi]; exact take_no p F A c most ms w hn i (.inl hi)
  · obtain ⟨k, rfl⟩ : ∃ k : Nat, i = (k : Int) := ⟨i.toNat, by omega⟩
    rw [atV_nat, List.getElem?_map, Int.toNat_natCast]
    cases hm : ms[k]? with
    | none => exact take_no p F A c most ms w hn k (.inr (by have := List.getElem?_eq_none_iff.1 hm; omega))
    | some m => exact take_yes p F A c most ms w hn k m hm
/-- What Twice answers. -/
def twiceE (most : Nat) (L : List (List UInt8)) (i : Int) : Int := match atV L i with
  | none => 5
  | some l => sendE most L l
def twiceL (most : Nat) (L : List (List UInt8)) (i : Int) : List (List UInt8) := match atV L i with
  | none => L
  | some l => sendL most L l
set_option maxRecDepth 100000 in
set_option maxHeartbeats 4000000 in
theorem twice_any (F : Nat → Prop) (p most : Nat) (L : List (List UInt8)) (w : World) (h : NetA F p most L w) (i : Int) :
    Calls Try.prog 18 #[.pointer (some ⟨p, 0, none⟩), .int .i64 i] w (NetOk w F p most (twiceL most L i) (.int .i64 (twiceE most L i))) := by
  have HR := Lib.hid (at_any F p most L w h i)
  have HN := Lib.hid h
  unfold twiceL twiceE
  clear h
  cases hv : atV L i with
  | none =>
    rw [hv] at HR
    dsimp only
    clear hv
    go_enter Try.func18, Try.ntmps18
    go_wp2_with fail
    refine HR.out.mono ?_
    rintro e w1 ⟨B, c1, rfl, ho, hb⟩
    have H1 := Lib.hid (NetOk.same (v := .int .i64 5) HN.out hb)
    clear ho hb HR
    go_wp2_with fail
    go_ret
    exact H1.out
  | some l =>
    rw [hv] at HR
    dsimp only
    clear hv
    go_enter Try.func18, Try.ntmps18
    go_wp2_with fail
    refine HR.out.mono ?_
    rintro e w1 ⟨B, c1, rfl, ho, hb⟩
    have H1 := Lib.hid hb
    have HS := Lib.hid (send_any F p most L w1 (by obtain ⟨A, c, ms, e, hn⟩ := HN.out; exact ⟨A, c, ms, e, hn.keep hb⟩) B l l.length c1 rfl ho.bytes)
    clear ho hb HR
    rw [show ((some l).getD []).length = l.length from rfl]
    go_wp2_with fail
    refine HS.out.mono ?_
    rintro e w2 ⟨rfl, F', h1, h2, h3⟩
    have H2 := Lib.hid (And.intro h1 (And.intro h2 h3))
    clear h1 h2 h3 HS
    go_wp2_with fail
    go_ret
    exact ⟨rfl, F', H2.out.1, fun k hk => (H2.out.2.1 k hk).imp id (fun h => Nat.le_trans H1.out.size h), (Fr.quiet H1.out).trans H2.out.2.2 fun _ _ h => h⟩
set_option maxRecDepth 100000 in
set_option maxHeartbeats 4000000 in
theorem clear_any (F : Nat → Prop) (p most : Nat) (L : List (List UInt8)) (w : World) (h : NetA F p most L w) :
    Calls Try.prog 17 #[.pointer (some ⟨p, 0, none⟩)] w fun e w' => e = .returned (.tuple #[]) ∧ NetA F p most [] w' ∧ Fr F w w' := by
  obtain ⟨A, c, ms, rfl, hn⟩ := h
  have h0 := hn.cell0
  have h2 := hn.cell2
  have z0 := hn.blk.frozen 0
  have z2 := hn.blk.frozen 2
  have hb := (hn.blk.set_ 0 (.slice none 0 0)).set_ 2 (.int .i64 0)
  have HF := Lib.hid (show Fr (fun k => k = p) w ((w.setCell ⟨p, 0, none⟩ (.slice none 0 0)).setCell ⟨p, 2, none⟩ (.int .i64 0)) from ((Fr.refl (fun k => k = p) w).setCell (p := ⟨p, 0, none⟩) (fun _ => rfl) _).setCell (p := ⟨p, 2, none⟩) (fun _ => rfl) _)
  have HX := Lib.hid (show NetA F p most [] ((w.setCell ⟨p, 0, none⟩ (.slice none 0 0)).setCell ⟨p, 2, none⟩ (.int .i64 0)) from
    ⟨none, 0, [], rfl, hb, Mem.Own.nil, (fun m h => by cases h), ⟨hn.foot.1, (fun g h => by cases h)⟩, fun k hk => Nat.lt_of_lt_of_le (hn.lt k hk) HF.out.size, hn.bound.1, Nat.zero_le _, by decide⟩)
  have HN := Lib.hid hn
  have hb1 := hn.blk.set_ 0 (.slice none 0 0)
  have c2 := hb1.cell 2
  have zz := hb1.frozen 2
  rw [show ((#[Value.slice A ms.length c, Value.int .i64 (most : Int), Value.int .i64 ((tot ms : Nat) : Int)] : Array Value).setIfInBounds 0 (.slice none 0 0))[2]? = some (Value.int .i64 ((tot ms : Nat) : Int)) from rfl] at c2
  clear hn hb hb1
  go_enter Try.func17, Try.ntmps17
  go_wp2_with fail
  first | go_ret | go_end0
  exact ⟨rfl, HX.out, HF.out.mono fun k _ hk => by rw [hk]; exact HN.out.foot.1⟩
/-- What Set answers, and leaves. -/
def setE (L : List (List UInt8)) (i : Int) (l : List UInt8) : Int := match atV L i with
  | none => 5
  | some o => if 131072 < l.length then 3 else if 134217728 < (L.map List.length).sum - o.length + l.length then 181 else 0
def setL (L : List (List UInt8)) (i : Int) (l : List UInt8) : List (List UInt8) := if setE L i l = 0 then L.set i.toNat l else L
set_option maxRecDepth 100000 in
set_option maxHeartbeats 8000000 in
theorem set_ok (p : Nat) (F : Nat → Prop) (A : Option Addr) (c most : Nat) (ms : List Ms) (w : World) (h : Net F p A c most ms w) (i : Nat) (m : Ms) (hm : ms[i]? = some m) (B : Option Addr) (l : List UInt8) (n cb : Nat) (hn : n = l.length) (hl : l.length ≤ 131072) (hB : Bytes w w.heap.size B l) (hf : tot ms - m.l.length + l.length ≤ 134217728) :
    Calls Try.prog 19 #[.pointer (some ⟨p, 0, none⟩), .int .i64 (i : Int), .slice B n cb] w (NetOk w F p most ((ms.map Ms.l).set i l) (.int .i64 0)) := by
  have HR := Lib.hid (at_yes p F A c most ms w h i m hm)
  obtain ⟨g, rfl, hcg, hzg⟩ := h.row_at hm
  have hi : i < ms.length := (List.getElem?_eq_some_iff.1 hm).1
  obtain ⟨S, hS⟩ : ∃ S, tot ms = S := ⟨_, rfl⟩
  obtain ⟨k, hk⟩ : ∃ k, ms.length = k := ⟨_, rfl⟩
  obtain ⟨o, ho⟩ : ∃ o, m.l.length = o := ⟨_, rfl⟩
  have hte := tot_erase ms i m hm
  have hS2 : (S : Int) ≤ 256 ^ 4 := by have := h.bound.2.2; omega
  have hS0 : (0 : Int) ≤ (S : Int) := by omega
  have ho0 : (0 : Int) ≤ (o : Int) := by omega
  have hoS : (o : Int) ≤ (S : Int) := by omega
  have hn0 : (0 : Int) ≤ (n : Int) := by omega
  have hn2 : (n : Int) ≤ 256 ^ 3 := by omega
  have hki : (i : Int) < (k : Int) := by omega
  have hi0 : (0 : Int) ≤ (i : Int) := by omega
  have hd : decide ((131072 : Int) < (n : Int)) = false := by rw [hn]; simp; omega
  have hd2 : decide ((134217728 : Int) < (S : Int) - (o : Int) + (n : Int)) = false := by simp; omega
  have hw : IntKind.i64.wrap ((S : Int) - (o : Int)) = (S : Int) - (o : Int) := IntWalk.i64_in _ (by omega)
  have hw2 : IntKind.i64.wrap ((S : Int) - (o : Int) + (n : Int)) = (S : Int) - (o : Int) + (n : Int) := IntWalk.i64_in _ (by omega)
  have HSK := Lib.hid (show tot ms = S ∧ ms.length = k ∧ m.l.length = o from ⟨hS, hk, ho⟩)
  have HN := Lib.hid h
  have HM := Lib.hid (And.intro hm hi)
  have HF := Lib.hid (And.intro hn (And.intro hl hf))
  have HB := Lib.hid hB
  have HCG := Lib.hid (And.intro hcg hzg)
  clear h hm hi hS hk hte hn hl hf hB hcg hzg
  go_enter Try.func19, Try.ntmps19
  go_wp2_with fail
  refine HR.out.mono ?_
  rintro e w1 ⟨B1, c1, rfl, ho1, hb⟩
  rw [show ((some m.l).getD []).length = o from ho]
  have H1 := Lib.hid (And.intro ho1 hb)
  have hcell := (HN.out.keep hb).cell2
  rw [HSK.out.1] at hcell
  clear ho1 hb HR ho
  go_wp2_with fail
  have HD := Lib.hid (And.intro (HN.out.keep (next H1.out.2 (nextN (Mem.start w1) 1))) (show Below w.heap.size w w1.drew from next H1.out.2 (nextN (Mem.start w1) 1)))
  have HCL := Lib.hid (PlW.clone_any w1.drew B l n cb HF.out.1 (by have := HF.out.1; have := HF.out.2.1; omega) ((HB.out.below HD.out.2).up HD.out.2.size))
  clear hcell
  --HELD set10
  refine wp_region_noPanic ?_
  refine wp_heldG (fun w' => w'.cell? ⟨p, 0, none⟩ = some (.slice (some ⟨g, 0, none⟩) k c) ∧ w'.cell? ⟨p, 2, none⟩ = some (.int .i64 (S : Int)) ∧ Blk w' p 49 #[.slice (some ⟨g, 0, none⟩) k c, .int .i64 (most : Int), .int .i64 (S : Int)] ∧ w'.cell? ⟨g, i, none⟩ = some m.v ∧ w'.frozen? ⟨g, i, none⟩ = false) [20, 23] (by kernel_rfl) ?hs0 ?rg0
  case hs0 =>
    exact ⟨by rw [← HSK.out.2.1]; exact HD.out.1.cell0, by rw [← HSK.out.1]; exact HD.out.1.cell2, by rw [← HSK.out.1, ← HSK.out.2.1]; exact HD.out.1.blk, cellB HD.out.2 HCG.out.1, (HD.out.2.frozen (World.block_lt_of_cell? _ _ HCG.out.1)).trans HCG.out.2⟩
  case rg0 =>
  intro hHeld
  refine wpAnyG_pure (i := 0) (oi := { dst := some 37, op := Op.move (Operand.tmp 0), type := 23, pos := _, after := #[], guard := none }) (v := ?_) rfl (by kernel_rfl) (by kernel_rfl) (by kernel_rfl) (by kernel_rfl) (fun _ _ _ h => h) (Or.inl ⟨by rfl, ?_⟩) (fun _ => by assumption) ?_
  rotate_left
  · intro w hSw
    try dsimp only at hSw
    go_simp
    try with_reducible rfl
  try simp only [Act.put, List.setIfInBounds_toArray, List.set_cons_zero, List.set_cons_succ]
  refine wpAnyG_pure (i := 1) (oi := { dst := some 38, op := Op.nilCheck (Operand.tmp 37), type := 0, pos := _, after := #[{ on := 0, ground := Ground.data }], guard := none }) (v := ?_) rfl (by kernel_rfl) (by kernel_rfl) (by kernel_rfl) (by kernel_rfl) (fun _ _ _ h => h) (Or.inl ⟨by rfl, ?_⟩) (fun _ => by assumption) ?_
  rotate_left
  · intro w hSw
    try dsimp only at hSw
    go_simp
    try with_reducible rfl
  try simp only [Act.put, List.setIfInBounds_toArray, List.set_cons_zero, List.set_cons_succ]
  refine wpAnyG_pure (i := 2) (oi := { dst := some 39, op := Op.fieldAddr 49 (Operand.tmp 38) 0, type := 0, pos := _, after := #[{ on := 1, ground := Ground.data }], guard := none }) (v := ?_) rfl (by kernel_rfl) (by kernel_rfl) (by kernel_rfl) (by kernel_rfl) (fun _ _ _ h => h) (Or.inl ⟨by rfl, ?_⟩) (fun _ => by assumption) ?_
  rotate_left
  · intro w hSw
    try dsimp only at hSw
    go_simp
    try with_reducible rfl
  try simp only [Act.put, List.setIfInBounds_toArray, List.set_cons_zero, List.set_cons_succ]
  refine wpAnyG_pure (i := 3) (oi := { dst := some 40, op := Op.fieldAddr 47 (Operand.tmp 39) 0, type := 0, pos := _, after := #[{ on := 2, ground := Ground.data }], guard := none }) (v := ?_) rfl (by kernel_rfl) (by kernel_rfl) (by kernel_rfl) (by kernel_rfl) (fun _ _ _ h => h) (Or.inl ⟨by rfl, ?_⟩) (fun _ => by assumption) ?_
  rotate_left
  · intro w hSw
    try dsimp only at hSw
    go_simp
    try with_reducible rfl
  try simp only [Act.put, List.setIfInBounds_toArray, List.set_cons_zero, List.set_cons_succ]
  refine wpAnyG_take (i := 4) (oi := { dst := some 41, op := Op.load 30 (Operand.tmp 40), type := 30, pos := _, after := #[{ on := 3, ground := Ground.data }], guard := none }) (v := ?_) rfl (by kernel_rfl) (by kernel_rfl) (by kernel_rfl) (by kernel_rfl) (fun _ _ _ h => h) (Or.inl ⟨by rfl, ?_⟩) (by assumption) ?_
  rotate_left
  · intro w hSw
    try dsimp only at hSw
    go_simp
    try with_reducible rfl
  try simp only [Act.put, List.setIfInBounds_toArray, List.set_cons_zero, List.set_cons_succ]
  refine wpAnyG_pure (i := 5) (oi := { dst := some 42, op := Op.move (Operand.tmp 1), type := 3, pos := _, after := #[], guard := none }) (v := ?_) rfl (by kernel_rfl) (by kernel_rfl) (by kernel_rfl) (by kernel_rfl) (fun _ _ _ h => h) (Or.inl ⟨by rfl, ?_⟩) (fun _ => by assumption) ?_
  rotate_left
  · intro w hSw
    try dsimp only at hSw
    go_simp
    try with_reducible rfl
  try simp only [Act.put, List.setIfInBounds_toArray, List.set_cons_zero, List.set_cons_succ]
  refine wpAnyG_pure (i := 6) (oi := { dst := some 43, op := Op.move (Operand.tmp 0), type := 23, pos := _, after := #[{ on := 20, ground := Ground.gcOnly Departure.lateStores }], guard := none }) (v := ?_) rfl (by kernel_rfl) (by kernel_rfl) (by kernel_rfl) (by kernel_rfl) (fun _ _ _ h => h) (Or.inl ⟨by rfl, ?_⟩) (fun _ => by assumption) ?_
  rotate_left
  · intro w hSw
    try dsimp only at hSw
    go_simp
    try with_reducible rfl
  try simp only [Act.put, List.setIfInBounds_toArray, List.set_cons_zero, List.set_cons_succ]
  refine wpAnyG_pure (i := 7) (oi := { dst := some 44, op := Op.move (Operand.tmp 2), type := 22, pos := _, after := #[], guard := none }) (v := ?_) rfl (by kernel_rfl) (by kernel_rfl) (by kernel_rfl) (by kernel_rfl) (fun _ _ _ h => h) (Or.inl ⟨by rfl, ?_⟩) (fun _ => by assumption) ?_
  rotate_left
  · intro w hSw
    try dsimp only at hSw
    go_simp
    try with_reducible rfl
  try simp only [Act.put, List.setIfInBounds_toArray, List.set_cons_zero, List.set_cons_succ]
  refine wpAnyG_pure (i := 9) (oi := { dst := some 46, op := Op.move (Operand.tmp 0), type := 23, pos := _, after := #[], guard := none }) (v := ?_) rfl (by kernel_rfl) (by kernel_rfl) (by kernel_rfl) (by kernel_rfl) (fun _ _ _ h => h) (Or.inl ⟨by rfl, ?_⟩) (fun _ => by assumption) ?_
  rotate_left
  · intro w hSw
    try dsimp only at hSw
    go_simp
    try with_reducible rfl
  try simp only [Act.put, List.setIfInBounds_toArray, List.set_cons_zero, List.set_cons_succ]
  refine wpAnyG_pure (i := 10) (oi := { dst := some 47, op := Op.nilCheck (Operand.tmp 46), type := 0, pos := _, after := #[{ on := 9, ground := Ground.data }], guard := none }) (v := ?_) rfl (by kernel_rfl) (by kernel_rfl) (by kernel_rfl) (by kernel_rfl) (fun _ _ _ h => h) (Or.inl ⟨by rfl, ?_⟩) (fun _ => by assumption) ?_
  rotate_left
  · intro w hSw
    try dsimp only at hSw
    go_simp
    try with_reducible rfl
  try simp only [Act.put, List.setIfInBounds_toArray, List.set_cons_zero, List.set_cons_succ]
  refine wpAnyG_pure (i := 11) (oi := { dst := some 48, op := Op.fieldAddr 49 (Operand.tmp 47) 2, type := 0, pos := _, after := #[{ on := 10, ground := Ground.data }], guard := none }) (v := ?_) rfl (by kernel_rfl) (by kernel_rfl) (by kernel_rfl) (by kernel_rfl) (fun _ _ _ h => h) (Or.inl ⟨by rfl, ?_⟩) (fun _ => by assumption) ?_
  rotate_left
  · intro w hSw
    try dsimp only at hSw
    go_simp
    try with_reducible rfl
  try simp only [Act.put, List.setIfInBounds_toArray, List.set_cons_zero, List.set_cons_succ]
  refine wpAnyG_take (i := 12) (oi := { dst := some 49, op := Op.load 3 (Operand.tmp 48), type := 3, pos := _, after := #[{ on := 11, ground := Ground.data }], guard := none }) (v := ?_) rfl (by kernel_rfl) (by kernel_rfl) (by kernel_rfl) (by kernel_rfl) (fun _ _ _ h => h) (Or.inl ⟨by rfl, ?_⟩) (by assumption) ?_
  rotate_left
  · intro w hSw
    try dsimp only at hSw
    go_simp
    try with_reducible rfl
  try simp only [Act.put, List.setIfInBounds_toArray, List.set_cons_zero, List.set_cons_succ]
  refine wpAnyG_pure (i := 13) (oi := { dst := some 50, op := Op.move (Operand.tmp 7), type := 22, pos := _, after := #[], guard := none }) (v := ?_) rfl (by kernel_rfl) (by kernel_rfl) (by kernel_rfl) (by kernel_rfl) (fun _ _ _ h => h) (Or.inl ⟨by rfl, ?_⟩) (fun _ => by assumption) ?_
  rotate_left
  · intro w hSw
    try dsimp only at hSw
    go_simp
    try with_reducible rfl
  try simp only [Act.put, List.setIfInBounds_toArray, List.set_cons_zero, List.set_cons_succ]
  refine wpAnyG_pure (i := 14) (oi := { dst := some 51, op := Op.call { callee := Callee.builtin Builtin.len, args := #[Operand.tmp 50], argTypes := #[22] }, type := 3, pos := _, after := #[{ on := 13, ground := Ground.data }], guard := none }) (v := ?_) rfl (by kernel_rfl) (by kernel_rfl) (by kernel_rfl) (by kernel_rfl) (fun _ _ _ h => h) (Or.inl ⟨by rfl, ?_⟩) (fun _ => by assumption) ?_
  rotate_left
  · intro w hSw
    try dsimp only at hSw
    go_simp
    try with_reducible rfl
  try simp only [Act.put, List.setIfInBounds_toArray, List.set_cons_zero, List.set_cons_succ]
  refine wpAnyG_pure (i := 15) (oi := { dst := some 52, op := Op.binOp BinOp.sub 3 (Operand.tmp 49) (Operand.tmp 51) 3, type := 3, pos := _, after := #[{ on := 12, ground := Ground.data }, { on := 14, ground := Ground.data }], guard := none }) (v := ?_) rfl (by kernel_rfl) (by kernel_rfl) (by kernel_rfl) (by kernel_rfl) (fun _ _ _ h => h) (Or.inl ⟨by rfl, ?_⟩) (fun _ => by assumption) ?_
  rotate_left
  · intro w hSw
    try dsimp only at hSw
    go_simp
    try with_reducible rfl
  try simp only [Act.put, List.setIfInBounds_toArray, List.set_cons_zero, List.set_cons_succ]
  refine wpAnyG_pure (i := 16) (oi := { dst := some 53, op := Op.move (Operand.tmp 2), type := 22, pos := _, after := #[], guard := none }) (v := ?_) rfl (by kernel_rfl) (by kernel_rfl) (by kernel_rfl) (by kernel_rfl) (fun _ _ _ h => h) (Or.inl ⟨by rfl, ?_⟩) (fun _ => by assumption) ?_
  rotate_left
  · intro w hSw
    try dsimp only at hSw
    go_simp
    try with_reducible rfl
  try simp only [Act.put, List.setIfInBounds_toArray, List.set_cons_zero, List.set_cons_succ]
  refine wpAnyG_pure (i := 17) (oi := { dst := some 54, op := Op.call { callee := Callee.builtin Builtin.len, args := #[Operand.tmp 53], argTypes := #[22] }, type := 3, pos := _, after := #[{ on := 16, ground := Ground.data }], guard := none }) (v := ?_) rfl (by kernel_rfl) (by kernel_rfl) (by kernel_rfl) (by kernel_rfl) (fun _ _ _ h => h) (Or.inl ⟨by rfl, ?_⟩) (fun _ => by assumption) ?_
  rotate_left
  · intro w hSw
    try dsimp only at hSw
    go_simp
    try with_reducible rfl
  try simp only [Act.put, List.setIfInBounds_toArray, List.set_cons_zero, List.set_cons_succ]
  refine wpAnyG_pure (i := 18) (oi := { dst := some 55, op := Op.binOp BinOp.add 3 (Operand.tmp 52) (Operand.tmp 54) 3, type := 3, pos := _, after := #[{ on := 15, ground := Ground.data }, { on := 17, ground := Ground.data }], guard := none }) (v := ?_) rfl (by kernel_rfl) (by kernel_rfl) (by kernel_rfl) (by kernel_rfl) (fun _ _ _ h => h) (Or.inl ⟨by rfl, ?_⟩) (fun _ => by assumption) ?_
  rotate_left
  · intro w hSw
    try dsimp only at hSw
    go_simp
    try with_reducible rfl
  try simp only [Act.put, List.setIfInBounds_toArray, List.set_cons_zero, List.set_cons_succ]
  refine wpAnyG_one (i := 8) (o := { dst := some 45, op := Op.call { callee := Callee.value (Operand.func 20), args := #[Operand.tmp 44], argTypes := #[22] }, type := 22, pos := _, after := #[{ on := 7, ground := Ground.data }], guard := none }) (by kernel_rfl) rfl (fun K hK => ?_)
  go_simp
  refine HCL.out.mono ?_
  rintro e w3 ⟨A1, c3, rfl, ho3, hb3⟩
  have HO1 := Lib.hid (And.intro ho3 hb3)
  clear ho3 hb3
  try dsimp only
  refine hK.out _ _ ?_ (fun hHeld => ?_)
  · intro _
    try dsimp only
    exact ⟨cellB HO1.out.2 hHeld.1, cellB HO1.out.2 hHeld.2.1, hHeld.2.2.1.keep HO1.out.2, cellB HO1.out.2 hHeld.2.2.2.1, (HO1.out.2.frozen (World.block_lt_of_cell? _ _ hHeld.2.2.2.1)).trans hHeld.2.2.2.2⟩
  clear hK K
  try simp only [Act.put, List.setIfInBounds_toArray, List.set_cons_zero, List.set_cons_succ]
  have hHeld := hHeld (by kernel_rfl)
  refine wpAnyG_pure (i := 19) (oi := { dst := some 56, op := Op.indexAddr 30 (Operand.tmp 41) (Operand.tmp 42), type := 0, pos := _, after := #[{ on := 4, ground := Ground.data }, { on := 5, ground := Ground.data }, { on := 0, ground := Ground.phase }, { on := 1, ground := Ground.phase }, { on := 2, ground := Ground.phase }, { on := 3, ground := Ground.phase }, { on := 4, ground := Ground.phase }, { on := 5, ground := Ground.phase }, { on := 6, ground := Ground.textOnly Departure.lateStores }, { on := 7, ground := Ground.phase }, { on := 8, ground := Ground.phase }, { on := 9, ground := Ground.textOnly Departure.lateStores }, { on := 10, ground := Ground.textOnly Departure.lateStoresUnsure }, { on := 11, ground := Ground.textOnly Departure.lateStoresUnsure }, { on := 12, ground := Ground.phase }, { on := 13, ground := Ground.textOnly Departure.lateStores }, { on := 14, ground := Ground.textOnly Departure.lateStoresUnsure }, { on := 15, ground := Ground.textOnly Departure.lateStoresUnsure }, { on := 16, ground := Ground.textOnly Departure.lateStores }, { on := 17, ground := Ground.textOnly Departure.lateStoresUnsure }, { on := 18, ground := Ground.textOnly Departure.lateStoresUnsure }], guard := none }) (v := ?_) rfl (by kernel_rfl) (by kernel_rfl) (by kernel_rfl) (by kernel_rfl) (fun _ _ _ h => h) (Or.inl ⟨by rfl, ?_⟩) (fun _ => by assumption) ?_
  rotate_left
  · intro w hSw
    try dsimp only at hSw
    go_simp
    try with_reducible rfl
  try simp only [Act.put, List.setIfInBounds_toArray, List.set_cons_zero, List.set_cons_succ]
  refine wpAnyG_one (i := 20) (o := { dst := none, op := Op.store 22 (Operand.tmp 56) (Operand.tmp 45), type := 0, pos := _, after := #[{ on := 19, ground := Ground.data }, { on := 8, ground := Ground.data }, { on := 8, ground := Ground.chain }, { on := 0, ground := Ground.phase }, { on := 1, ground := Ground.phase }, { on := 2, ground := Ground.phase }, { on := 3, ground := Ground.phase }, { on := 4, ground := Ground.phase }, { on := 5, ground := Ground.phase }, { on := 6, ground := Ground.textOnly Departure.lateStores }, { on := 7, ground := Ground.phase }, { on := 8, ground := Ground.phase }, { on := 9, ground := Ground.textOnly Departure.lateStores }, { on := 10, ground := Ground.textOnly Departure.lateStoresUnsure }, { on := 11, ground := Ground.textOnly Departure.lateStoresUnsure }, { on := 12, ground := Ground.phase }, { on := 13, ground := Ground.textOnly Departure.lateStores }, { on := 14, ground := Ground.textOnly Departure.lateStoresUnsure }, { on := 15, ground := Ground.textOnly Departure.lateStoresUnsure }, { on := 16, ground := Ground.textOnly Departure.lateStores }, { on := 17, ground := Ground.textOnly Departure.lateStoresUnsure }, { on := 18, ground := Ground.textOnly Departure.lateStoresUnsure }], guard := none }) (by kernel_rfl) rfl (fun K hK => ?_)
  have HBK := Lib.hid hHeld.2.2.1
  have z0 := hHeld.2.2.2.2
  have cc0 := hHeld.2.2.2.1
  go_simp
  clear z0 cc0
  try dsimp only
  refine hK.out _ _ ?_ (fun hHeld => ?_)
  · exact fun h => (st_no (by kernel_rfl) h).elim
  clear hK K
  try simp only [Act.put, List.setIfInBounds_toArray, List.set_cons_zero, List.set_cons_succ]
  clear hHeld
  refine wpAnyG_pure (i := 21) (oi := { dst := some 57, op := Op.nilCheck (Operand.tmp 43), type := 0, pos := _, after := #[{ on := 6, ground := Ground.data }, { on := 0, ground := Ground.phase }, { on := 1, ground := Ground.phase }, { on := 2, ground := Ground.phase }, { on := 3, ground := Ground.phase }, { on := 4, ground := Ground.phase }, { on := 5, ground := Ground.phase }, { on := 6, ground := Ground.phase }, { on := 7, ground := Ground.phase }, { on := 8, ground := Ground.phase }, { on := 9, ground := Ground.phase }, { on := 10, ground := Ground.phase }, { on := 11, ground := Ground.phase }, { on := 12, ground := Ground.phase }, { on := 13, ground := Ground.phase }, { on := 14, ground := Ground.phase }, { on := 15, ground := Ground.phase }, { on := 16, ground := Ground.phase }, { on := 17, ground := Ground.phase }, { on := 18, ground := Ground.phase }, { on := 19, ground := Ground.phase }, { on := 20, ground := Ground.phase }], guard := none }) (v := ?_) rfl (by kernel_rfl) (by kernel_rfl) (by kernel_rfl) (by kernel_rfl) (fun _ _ _ h => h) (Or.inl ⟨by rfl, ?_⟩) (fun h => (st_no (by kernel_rfl) h).elim) ?_
  rotate_left
  · intro w hSw
    try dsimp only at hSw
    go_simp
    try with_reducible rfl
  try simp only [Act.put, List.setIfInBounds_toArray, List.set_cons_zero, List.set_cons_succ]
  refine wpAnyG_pure (i := 22) (oi := { dst := some 58, op := Op.fieldAddr 49 (Operand.tmp 57) 2, type := 0, pos := _, after := #[{ on := 21, ground := Ground.data }, { on := 0, ground := Ground.phase }, { on := 1, ground := Ground.phase }, { on := 2, ground := Ground.phase }, { on := 3, ground := Ground.phase }, { on := 4, ground := Ground.phase }, { on := 5, ground := Ground.phase }, { on := 6, ground := Ground.phase }, { on := 7, ground := Ground.phase }, { on := 8, ground := Ground.phase }, { on := 9, ground := Ground.phase }, { on := 10, ground := Ground.phase }, { on := 11, ground := Ground.phase }, { on := 12, ground := Ground.phase }, { on := 13, ground := Ground.phase }, { on := 14, ground := Ground.phase }, { on := 15, ground := Ground.phase }, { on := 16, ground := Ground.phase }, { on := 17, ground := Ground.phase }, { on := 18, ground := Ground.phase }, { on := 19, ground := Ground.phase }, { on := 20, ground := Ground.phase }], guard := none }) (v := ?_) rfl (by kernel_rfl) (by kernel_rfl) (by kernel_rfl) (by kernel_rfl) (fun _ _ _ h => h) (Or.inl ⟨by rfl, ?_⟩) (fun h => (st_no (by kernel_rfl) h).elim) ?_
  rotate_left
  · intro w hSw
    try dsimp only at hSw
    go_simp
    try with_reducible rfl
  try simp only [Act.put, List.setIfInBounds_toArray, List.set_cons_zero, List.set_cons_succ]
  refine wpAnyG_one (i := 23) (o := { dst := none, op := Op.store 3 (Operand.tmp 58) (Operand.tmp 55), type := 0, pos := _, after := #[{ on := 22, ground := Ground.data }, { on := 18, ground := Ground.data }, { on := 20, ground := Ground.chain }, { on := 0, ground := Ground.phase }, { on := 1, ground := Ground.phase }, { on := 2, ground := Ground.phase }, { on := 3, ground := Ground.phase }, { on := 4, ground := Ground.phase }, { on := 5, ground := Ground.phase }, { on := 6, ground := Ground.phase }, { on := 7, ground := Ground.phase }, { on := 8, ground := Ground.phase }, { on := 9, ground := Ground.phase }, { on := 10, ground := Ground.phase }, { on := 11, ground := Ground.phase }, { on := 12, ground := Ground.phase }, { on := 13, ground := Ground.phase }, { on := 14, ground := Ground.phase }, { on := 15, ground := Ground.phase }, { on := 16, ground := Ground.phase }, { on := 17, ground := Ground.phase }, { on := 18, ground := Ground.phase }, { on := 19, ground := Ground.phase }, { on := 20, ground := Ground.phase }], guard := none }) (by kernel_rfl) rfl (fun K hK => ?_)
  have hb2 := HBK.out.far (p := ⟨g, i, none⟩) (HN.out.foot.2 g rfl).2 (.slice A1 l.length c3)
  have cc2 := hb2.cell 2
  have z2 := hb2.frozen 2
  rw [show ((#[Value.slice (some ⟨g, 0, none⟩) k c, Value.int .i64 (most : Int), Value.int .i64 (S : Int)] : Array Value))[2]? = some (Value.int .i64 (S : Int)) from rfl] at cc2
  go_simp
  clear z2 cc2 hb2
  try dsimp only
  refine hK.out _ _ ?_ (fun hHeld => ?_)
  · exact fun h => (st_no (by kernel_rfl) h).elim
  clear hK K
  try simp only [Act.put, List.setIfInBounds_toArray, List.set_cons_zero, List.set_cons_succ]
  clear hHeld
  refine wpAnyG_done (by kernel_rfl) ?_ _
  refine NoPanic.normal ?_
  --END set10
  go_wp2_with fail
  go_ret
  obtain ⟨F', h1, h2, h3⟩ := HD.out.1.put HM.out.1 HF.out.2.1 HF.out.2.2 HO1.out.1 HO1.out.2 (x := (S : Int) - (o : Int) + (n : Int)) (by rw [HSK.out.1, HSK.out.2.2, HF.out.1])
  exact ⟨rfl, F', ⟨_, c, _, by rw [List.map_set], h1⟩, fun k hk => (h2 k hk).imp id (fun h => Nat.le_trans HD.out.2.size h), (Fr.quiet HD.out.2).trans h3 fun _ _ h => h⟩
set_option maxRecDepth 100000 in
set_option maxHeartbeats 4000000 in
theorem set_none (F : Nat → Prop) (p most : Nat) (L : List (List UInt8)) (w : World) (h : NetA F p most L w) (i : Int) (hv : atV L i = none) (B : Option Addr) (n cb : Nat) :
    Calls Try.prog 19 #[.pointer (some ⟨p, 0, none⟩), .int .i64 i, .slice B n cb] w (NetOk w F p most L (.int .i64 5)) := by
  have HR := Lib.hid (at_any F p most L w h i)
  have HN := Lib.hid h
  rw [hv] at HR
  clear h hv
  go_enter Try.func19, Try.ntmps19
  go_wp2_with fail
  refine HR.out.mono ?_
  rintro e w1 ⟨B1, c1, rfl, ho1, hb⟩
  have H1 := Lib.hid (NetOk.same (v := .int .i64 5) HN.out hb)
  clear ho1 hb HR
  go_wp2_with fail
  go_ret
  exact H1.out
set_option maxRecDepth 100000 in
set_option maxHeartbeats 4000000 in
theorem set_long (F : Nat → Prop) (p most : Nat) (L : List (List UInt8)) (w : World) (h : NetA F p most L w) (i : Int) (o : List UInt8) (hv : atV L i = some o) (B : Option Addr) (n cb : Nat) (hn : 131072 < n) :
    Calls Try.prog 19 #[.pointer (some ⟨p, 0, none⟩), .int .i64 i, .slice B n cb] w (NetOk w F p most L (.int .i64 3)) := by
  have HR := Lib.hid (at_any F p most L w h i)
  have HN := Lib.hid h
  have hd : decide ((131072 : Int) < (n : Int)) = true := by simp; omega
  rw [hv] at HR
  clear h hv hn
  go_enter Try.func19, Try.ntmps19
  go_wp2_with fail
  refine HR.out.mono ?_
  rintro e w1 ⟨B1, c1, rfl, ho1, hb⟩
  have H1 := Lib.hid (NetOk.same (v := .int .i64 3) HN.out hb)
  clear ho1 hb HR
  go_wp2_with fail
  go_ret
  exact H1.out
set_option maxRecDepth 100000 in
set_option maxHeartbeats 4000000 in
theorem set_full (F : Nat → Prop) (p : Nat) (A : Option Addr) (c most : Nat) (ms : List Ms) (w : World) (h : Net F p A c most ms w) (i : Nat) (m : Ms) (hm : ms[i]? = some m) (B : Option Addr) (n cb : Nat) (hn : n ≤ 131072) (hf : 134217728 < tot ms - m.l.length + n) :
    Calls Try.prog 19 #[.pointer (some ⟨p, 0, none⟩), .int .i64 (i : Int), .slice B n cb] w (NetOk w F p most (ms.map Ms.l) (.int .i64 181)) := by
  have HR := Lib.hid (at_yes p F A c most ms w h i m hm)
  obtain ⟨S, hS⟩ : ∃ S, tot ms = S := ⟨_, rfl⟩
  obtain ⟨o, ho⟩ : ∃ o, m.l.length = o := ⟨_, rfl⟩
  have hte := tot_erase ms i m hm
  have hS2 : (S : Int) ≤ 256 ^ 4 := by have := h.bound.2.2; omega
  have hS0 : (0 : Int) ≤ (S : Int) := by omega
  have ho0 : (0 : Int) ≤ (o : Int) := by omega
  have hoS : (o : Int) ≤ (S : Int) := by omega
  have hn0 : (0 : Int) ≤ (n : Int) := by omega
  have hn2 : (n : Int) ≤ 256 ^ 3 := by omega
  have hd : decide ((131072 : Int) < (n : Int)) = false := by simp; omega
  have hd2 : decide ((134217728 : Int) < (S : Int) - (o : Int) + (n : Int)) = true := by simp; omega
  have HN := Lib.hid (show NetA F p most (ms.map Ms.l) w from ⟨A, c, ms, rfl, h⟩)
  have HS := Lib.hid hS
  have HC := Lib.hid h
  clear h hm hS hte hn hf
  go_enter Try.func19, Try.ntmps19
  go_wp2_with fail
  refine HR.out.mono ?_
  rintro e w1 ⟨B1, c1, rfl, ho1, hb⟩
  rw [show ((some m.l).getD []).length = o from ho]
  have hcell := (HC.out.keep hb).cell2
  rw [HS.out] at hcell
  have H1 := Lib.hid (NetOk.same (v := .int .i64 181) HN.out hb)
  clear ho1 hb HR ho
  go_wp2_with fail
  go_ret
  exact H1.out
theorem set_any (F : Nat → Prop) (p most : Nat) (L : List (List UInt8)) (w : World) (h : NetA F p most L w) (i : Int) (B : Option Addr) (l : List UInt8) (n cb : Nat) (hn : n = l.length) (hB : Bytes w w.heap.size B l) :
    Calls Try.prog 19 #[.pointer (some ⟨p, 0, none⟩), .int .i64 i, .slice B n cb] w (NetOk w F p most (setL L i l) (.int .i64 (setE L i l))) := by
  cases hv : atV L i with
  | none =>
    have e : setE L i l = 5 := by unfold setE; rw [hv]
    unfold setL; rw [e, if_neg (by decide)]
    exact set_none F p most L w h i hv B n cb
  | some o =>
    by_cases h1 : 131072 < l.length
    · have e : setE L i l = 3 := by unfold setE; rw [hv]; exact if_pos h1
      unfold setL; rw [e, if_neg (by decide)]
      exact set_long F p most L w h i o hv B n cb (by omega)
    · have h' := h
      obtain ⟨A, c, ms, rfl, hm⟩ := h'
      have ht : ((ms.map Ms.l).map List.length).sum = tot ms := by rw [List.map_map]; rfl
      have hv' := hv
      have hi : ¬ i < 0 := fun hi => by unfold atV at hv'; rw [if_pos hi] at hv'; cases hv'
      obtain ⟨k, rfl⟩ : ∃ k : Nat, i = (k : Int) := ⟨i.toNat, by omega⟩
      rw [atV_nat, List.getElem?_map] at hv'
      cases hmk : ms[k]? with
      | none => rw [hmk] at hv'; cases hv'
      | some m =>
        rw [hmk] at hv'
        have hmo : m.l = o := by injection hv'
        by_cases h2 : 134217728 < tot ms - o.length + l.length
        · have e : setE (ms.map Ms.l) (k : Int) l = 181 := by unfold setE; rw [hv]; dsimp only; rw [if_neg h1, ht, if_pos h2]
          unfold setL; rw [e, if_neg (by decide)]
          exact set_full F p A c most ms w hm k m hmk B n cb (by omega) (by rw [hmo, hn]; exact h2)
        · have e : setE (ms.map Ms.l) (k : Int) l = 0 := by unfold setE; rw [hv]; dsimp only; rw [if_neg h1, ht, if_neg h2]
          unfold setL; rw [e, if_pos rfl, Int.toNat_natCast]
          exact set_ok p F A c most ms w hm k m hmk B l n cb hn (by omega) hB (by rw [hmo]; omega)
end Go.Proofs.Ytdgaicnnaidkkaa.NtW
