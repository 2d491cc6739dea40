/- net.New; Len, at, At, Send. -/
import Derived.Test.YtdgaicnnaidkkaaNtSt
namespace Go.Proofs.Ytdgaicnnaidkkaa.NtW
open Go.RowKit Go.Shelf Mem Rng
set_option linter.unusedVariables false

theorem msinfo : (Try.prog.info? 22).map (fun i => (i.zero, i.size, i.bytes)) = some (some (Value.slice none 0 0), 1, 24) := by kernel_rfl
theorem build1 (W : World) (b : Option Addr) (n c : Nat) : (Instr.buildSlice 30 1 #[(0, .slice b n c)]).run Try.prog W = .ok (.slice (some ⟨W.heap.size, 0, none⟩) 1 1) (W.alloc (.cells #[.slice b n c] 22)) := by kernel_rfl
theorem cellA {w : World} {a : Addr} {v : Value} (h : w.cell? a = some v) (o : Obj) : (w.alloc o).cell? a = some v := by
  rw [World.cell?_alloc_lt _ _ _ (World.block_lt_of_cell? w a h)]; exact h
theorem cellB {w w' : World} {a : Addr} {v : Value} (hb : Below w.heap.size w w') (h : w.cell? a = some v) : w'.cell? a = some v := (hb.cell (World.block_lt_of_cell? w a h)).trans h
set_option maxRecDepth 100000 in
set_option maxHeartbeats 2000000 in
theorem new_any (w : World) (most : Int) : Calls Try.prog 6 #[.int .i64 most] w fun e w' => e = .returned (.pointer (some ⟨w.heap.size, 0, none⟩)) ∧ NetA (fun k => k = w.heap.size) w.heap.size (max 0 (min 100000 most)).toNat [] w' ∧ Below w.heap.size w w' ∧ w'.heap.size = w.heap.size + 1 := by
  obtain ⟨m, hm⟩ : ∃ m, max 0 (min (100000 : Int) most) = m := ⟨_, rfl⟩
  have hm0 : 0 ≤ m := by rw [← hm]; exact Int.le_max_left _ _
  have hm1 : m.toNat ≤ 100000 := by rw [← hm]; omega
  have e : ((m.toNat : Nat) : Int) = m := by omega
  have hfin : NetA (fun k => k = w.heap.size) w.heap.size m.toNat [] (w.alloc (.cells #[.slice none 0 0, .int .i64 m, .int .i64 0] 49)) := by
    refine ⟨none, 0, [], rfl, ?_, Mem.Own.nil, (fun m h => by cases h), ⟨rfl, (fun g h => by cases h)⟩, (fun k hk => by rw [hk]; simp), hm1, Nat.zero_le _, by decide⟩
    have := Blk.new w 49 #[.slice none 0 0, .int .i64 m, .int .i64 0]
    rw [e]; exact this
  have HF := Lib.hid hfin
  have HM := Lib.hid hm
  rw [hm]
  clear hfin hm0 hm1 e hm
  go_enter Try.func6, Try.ntmps6
  go_wp2_with fail
  all_goals
    go_ret
    have hmm := HM.out
    refine ⟨rfl, ?_, nextA (Mem.start w) _, by simp⟩
    first
      | (obtain rfl : m = 0 := by omega
         exact HF.out)
      | (obtain rfl : m = 100000 := by omega
         exact HF.out)
      | (obtain rfl : m = most := by omega
         exact HF.out)
theorem len_any (F : Nat → Prop) (p most : Nat) (L : List (List UInt8)) (w : World) (h : NetA F p most L w) : Calls Try.prog 10 #[.pointer (some ⟨p, 0, none⟩)] w fun e w' => e = .returned (.int .i64 (L.length : Int)) ∧ w = w' := by
  obtain ⟨A, c, ms, rfl, hn⟩ := h
  have h0 := hn.cell0
  rw [List.length_map]
  clear hn
  go_enter Try.func10, Try.ntmps10
  go_wp2_with fail
  go_ret
  exact ⟨rfl, rfl⟩
/-- What at tells. -/
def atV (L : List (List UInt8)) (i : Int) : Option (List UInt8) := if i < 0 then none else L[i.toNat]?
theorem atV_nat (L : List (List UInt8)) (i : Nat) : atV L (i : Int) = L[i]? := by unfold atV; rw [if_neg (by omega), Int.toNat_natCast]
theorem row_no (p : Nat) (F : Nat → Prop) (A : Option Addr) (c most : Nat) (ms : List Ms) (w : World) (h : Net F p A c most ms w) (i : Int) (hi : i < 0 ∨ (ms.length : Int) ≤ i) :
    Calls Try.prog 28 #[.pointer (some ⟨p, 0, none⟩), .int .i64 i] w fun e w' => e = .returned (.tuple #[.slice none 0 0, .bool false]) ∧ w = w' := by
  have h0 := h.cell0
  clear h
  by_cases hi0 : i < 0
  · go_enter Try.func28, Try.ntmps28
    go_wp2_with fail
    go_ret2
    exact ⟨rfl, rfl⟩
  · have hi1 : (ms.length : Int) ≤ i := by omega
    clear hi
    go_enter Try.func28, Try.ntmps28
    go_wp2_with fail
    go_ret2
    exact ⟨rfl, rfl⟩
theorem row_yes (p : Nat) (F : Nat → Prop) (A : Option Addr) (c most : Nat) (ms : List Ms) (w : World) (h : Net F p A c most ms w) (i : Nat) (m : Ms) (hm : ms[i]? = some m) :
    Calls Try.prog 28 #[.pointer (some ⟨p, 0, none⟩), .int .i64 (i : Int)] w fun e w' => e = .returned (.tuple #[m.v, .bool true]) ∧ w = w' := by
  have h0 := h.cell0
  obtain ⟨g, rfl, hc, _⟩ := h.row_at hm
  have hlt : i < ms.length := (List.getElem?_eq_some_iff.1 hm).1
  have h1 : (i : Int) < (ms.length : Int) := by omega
  have h2 : (0 : Int) ≤ (i : Int) := by omega
  clear h hm
  go_enter Try.func28, Try.ntmps28
  go_wp2_with fail
  go_ret2
  exact ⟨rfl, rfl⟩
/-- What At leaves: the net as it was, a new row. -/
def AtOk (w : World) (v : Option (List UInt8)) (e : Ending) (w' : World) : Prop := ∃ B c, e = .returned (.tuple #[.slice B (v.getD []).length c, .bool v.isSome]) ∧ Mem.Own w' w.heap.size 5 B c ((v.getD []).map u8v) ∧ Below w.heap.size w w'
theorem at_no (p : Nat) (F : Nat → Prop) (A : Option Addr) (c most : Nat) (ms : List Ms) (w : World) (h : Net F p A c most ms w) (i : Int) (hi : i < 0 ∨ (ms.length : Int) ≤ i) :
    Calls Try.prog 16 #[.pointer (some ⟨p, 0, none⟩), .int .i64 i] w (AtOk w none) := by
  have HR := Lib.hid (row_no p F A c most ms w h i hi)
  clear h hi
  go_enter Try.func16, Try.ntmps16
  go_wp2_with fail
  refine HR.out.mono ?_
  rintro e w' ⟨rfl, rfl⟩
  go_wp2_with fail
  refine (PlW.clone_any _ none [] 0 0 rfl (by decide) Bytes.nil).mono ?_
  rintro e w1 ⟨B, c1, rfl, ho, hb⟩
  have H1 := Lib.hid (And.intro ho hb)
  clear ho hb HR
  go_wp2_with fail
  go_ret2
  exact ⟨B, c1, rfl, H1.out⟩
theorem at_yes (p : Nat) (F : Nat → Prop) (A : Option Addr) (c most : Nat) (ms : List Ms) (w : World) (h : Net F p A c most ms w) (i : Nat) (m : Ms) (hm : ms[i]? = some m) :
    Calls Try.prog 16 #[.pointer (some ⟨p, 0, none⟩), .int .i64 (i : Int)] w (AtOk w (some m.l)) := by
  have HR := Lib.hid (row_yes p F A c most ms w h i m hm)
  have HM := Lib.hid (h.msg m (List.mem_of_getElem? hm))
  have HC := Lib.hid (PlW.clone_any w m.A m.l m.l.length m.c rfl (Nat.le_trans HM.out.2.2.1 (by decide)) HM.out.1)
  clear h hm
  go_enter Try.func16, Try.ntmps16
  go_wp2_with fail
  refine HR.out.mono ?_
  rintro e w' ⟨rfl, rfl⟩
  unfold Ms.v
  go_wp2_with fail
  refine HC.out.mono ?_
  rintro e w1 ⟨B, c1, rfl, ho, hb⟩
  have H1 := Lib.hid (And.intro ho hb)
  clear ho hb HR HC
  go_wp2_with fail
  go_ret2
  exact ⟨B, c1, rfl, H1.out⟩
theorem at_any (F : Nat → Prop) (p most : Nat) (L : List (List UInt8)) (w : World) (h : NetA F p most L w) (i : Int) : Calls Try.prog 16 #[.pointer (some ⟨p, 0, none⟩), .int .i64 i] w (AtOk w (atV L i)) := by
  obtain ⟨A, c, ms, rfl, hn⟩ := h
  by_cases hi : i < 0
  · unfold atV; rw [if_pos hi]; exact at_no p F A c most ms w hn i (.inl hi)
  · obtain ⟨k, rfl⟩ : ∃ k : Nat, i = (k : Int) := ⟨i.toNat, by omega⟩
    rw [atV_nat, List.getElem?_map]
    cases hm : ms[k]? with
    | none => exact at_no p F A c most ms w hn k (.inr (by have := List.getElem?_eq_none_iff.1 hm; omega))
    | some m => exact at_yes p F A c most ms w hn k m hm
/-- What Send answers, and leaves. -/
def sendE (most : Nat) (L : List (List UInt8)) (l : List UInt8) : Int := if 131072 < l.length then 3 else if most ≤ L.length ∨ 134217728 < (L.map List.length).sum + l.length then 181 else 0
def sendL (most : Nat) (L : List (List UInt8)) (l : List UInt8) : List (List UInt8) := if sendE most L l = 0 then L ++ [l] else L
set_option maxRecDepth 100000 in
set_option maxHeartbeats 4000000 in
theorem send_long (F : Nat → Prop) (p most : Nat) (L : List (List UInt8)) (w : World) (h : NetA F p most L w) (B : Option Addr) (l : List UInt8) (n cb : Nat) (hn : n = l.length) (hl : 131072 < l.length) :
    Calls Try.prog 7 #[.pointer (some ⟨p, 0, none⟩), .slice B n cb] w (NetOk w F p most L (.int .i64 3)) := by
  have HF := Lib.hid (NetOk.same (v := .int .i64 3) h (Mem.start w))
  have hd : decide ((131072 : Int) < (n : Int)) = true := by rw [hn]; simp; omega
  clear h hl hn
  go_enter Try.func7, Try.ntmps7
  go_wp2_with fail
  go_ret
  exact HF.out
theorem NetOk.same' {w w' : World} {F : Nat → Prop} {p most : Nat} {L : List (List UInt8)} {v : Value} (h : NetA F p most L w) {q : Nat} (hb : w' = w.drewN q) : NetOk w F p most L v (.returned v) w' := by
  subst hb; exact NetOk.same h (nextN (Mem.start w) q)
set_option maxRecDepth 100000 in
set_option maxHeartbeats 4000000 in
theorem send_full (F : Nat → Prop) (p most : Nat) (A : Option Addr) (c : Nat) (ms : List Ms) (w : World) (h : Net F p A c most ms w) (B : Option Addr) (l : List UInt8) (n cb : Nat) (hn : n = l.length) (hl : l.length ≤ 131072) (hf : most ≤ ms.length ∨ 134217728 < tot ms + l.length) :
    Calls Try.prog 7 #[.pointer (some ⟨p, 0, none⟩), .slice B n cb] w (NetOk w F p most (ms.map Ms.l) (.int .i64 181)) := by
  have HF := Lib.hid (show NetA F p most (ms.map Ms.l) w from ⟨A, c, ms, rfl, h⟩)
  have hd : decide ((131072 : Int) < (n : Int)) = false := by rw [hn]; simp; omega
  have h0 := h.cell0
  have h1 := h.cell1
  have h2 := h.cell2
  obtain ⟨S, hS⟩ : ∃ S, tot ms = S := ⟨_, rfl⟩
  obtain ⟨k, hk⟩ : ∃ k, ms.length = k := ⟨_, rfl⟩
  have hS2 : (S : Int) ≤ 256 ^ 4 := by have := h.bound.2.2; omega
  have hn2 : (n : Int) ≤ 256 ^ 3 := by omega
  have hS0 : (0 : Int) ≤ (S : Int) := by omega
  have hn0 : (0 : Int) ≤ (n : Int) := by omega
  rw [hS] at h2 hf
  rw [hk] at h0 hf
  by_cases hm : most ≤ k
  · have hmn : decide (most ≤ k) = true := by simpa using hm
    have hmi : decide ((most : Int) ≤ (k : Int)) = true := by simp; omega
    clear h hl hn hf hS hk hm
    go_enter Try.func7, Try.ntmps7
    go_wp2_with fail
    go_quiet (fail)
    go_wp2_with fail
    go_ret
    exact NetOk.same' HF.out rfl
  · have hmn : decide (most ≤ k) = false := by simpa using hm
    have hmi : decide ((most : Int) ≤ (k : Int)) = false := by simp; omega
    have hd2 : decide ((134217728 : Int) < (S : Int) + (n : Int)) = true := by simp; omega
    have hw : IntKind.i64.wrap ((S : Int) + (n : Int)) = (S : Int) + (n : Int) := IntWalk.i64_in _ (by omega)
    clear h hl hn hf hS hk hm
    go_enter Try.func7, Try.ntmps7
    go_wp2_with fail
    go_quiet (fail)
    go_wp2_with fail
    go_ret
    exact NetOk.same' HF.out rfl
set_option maxRecDepth 100000 in
set_option maxHeartbeats 4000000 in
theorem send_ok (F : Nat → Prop) (p most : Nat) (A : Option Addr) (c : Nat) (ms : List Ms) (w : World) (h : Net F p A c most ms w) (B : Option Addr) (l : List UInt8) (n cb : Nat) (hn : n = l.length) (hl : l.length ≤ 131072) (hB : Bytes w w.heap.size B l) (hf : ¬ (most ≤ ms.length ∨ 134217728 < tot ms + l.length)) :
    Calls Try.prog 7 #[.pointer (some ⟨p, 0, none⟩), .slice B n cb] w (NetOk w F p most (ms.map Ms.l ++ [l]) (.int .i64 0)) := by
  have HN := Lib.hid h
  have HB := Lib.hid hB
  have HF := Lib.hid (And.intro hn (And.intro hl hf))
  have hd : decide ((131072 : Int) < (n : Int)) = false := by rw [hn]; simp; omega
  have h0 := h.cell0
  have h1 := h.cell1
  have h2 := h.cell2
  obtain ⟨S, hS⟩ : ∃ S, tot ms = S := ⟨_, rfl⟩
  obtain ⟨k, hk⟩ : ∃ k, ms.length = k := ⟨_, rfl⟩
  have hS2 : (S : Int) ≤ 256 ^ 4 := by have := h.bound.2.2; omega
  have hn2 : (n : Int) ≤ 256 ^ 3 := by omega
  have hS0 : (0 : Int) ≤ (S : Int) := by omega
  have hn0 : (0 : Int) ≤ (n : Int) := by omega
  have HSK := Lib.hid (show tot ms = S ∧ ms.length = k ∧ k = (ms.map Ms.v).length from ⟨hS, hk, by rw [List.length_map]; exact hk.symm⟩)
  have HKM := Lib.hid (show k ≤ 100000 from by have := h.bound.1; have := h.bound.2.1; omega)
  obtain ⟨i0, hi0, hz0, hz1, hz2⟩ := info_parts msinfo
  rw [hS] at h2 hf
  rw [hk] at h0 hf
  have hmn : decide (most ≤ k) = false := by simp; omega
  have hmi : decide ((most : Int) ≤ (k : Int)) = false := by simp; omega
  have hd2 : decide ((134217728 : Int) < (S : Int) + (n : Int)) = false := by simp; omega
  have hw : IntKind.i64.wrap ((S : Int) + (n : Int)) = (S : Int) + (n : Int) := IntWalk.i64_in _ (by omega)
  clear h hl hn hf hS hk hB
  go_enter Try.func7, Try.ntmps7
  go_wp2_with fail
  go_quiet (fail)
  go_wp2_with fail
  have HD := Lib.hid (And.intro ((HN.out.keep (nextN (Mem.start w) nq)).keep (nextN (Mem.start (w.drewN nq)) 1)) (nextN (Mem.start w) nq))
  have HCL := Lib.hid (PlW.clone_any (w.drewN nq).drew B l n cb HF.out.1 (by have := HF.out.1; have := HF.out.2.1; omega) ((HB.out.below (nextN (Mem.start w) nq)).below (nextN (Mem.start (w.drewN nq)) 1)))
  have HFR := Lib.hid (show Below w.heap.size w (w.drewN nq).drew from next (nextN (Mem.start w) nq) (nextN (Mem.start (w.drewN nq)) 1))
  generalize (w.drewN nq) = W at *
  clear h0 h1 h2
  --HELD send7
  refine wp_region_noPanic ?_
  refine wp_heldG (fun w' => w'.cell? ⟨p, 0, none⟩ = some (.slice A k c) ∧ w'.cell? ⟨p, 2, none⟩ = some (.int .i64 (S : Int)) ∧ Blk w' p 49 #[.slice A k c, .int .i64 (most : Int), .int .i64 (S : Int)]) [21, 24] (by kernel_rfl) ?hs0 ?rg0
  case hs0 =>
    exact ⟨by rw [← HSK.out.2.1]; exact HD.out.1.cell0, by rw [← HSK.out.1]; exact HD.out.1.cell2, by rw [← HSK.out.1, ← HSK.out.2.1]; exact HD.out.1.blk⟩
  case rg0 =>
  intro hHeld
  refine wpAnyG_pure (i := 0) (oi := { dst := some 34, op := Op.move (Operand.tmp 0), type := 23, pos := _, after := #[], guard := none }) (v := ?_) rfl (by kernel_rfl) (by kernel_rfl) (by kernel_rfl) (by kernel_rfl) (fun _ _ _ h => h) (Or.inl ⟨by rfl, ?_⟩) (fun _ => by assumption) ?_
  rotate_left
  · intro w hSw
    try dsimp only at hSw
    go_simp
    try with_reducible rfl
  try simp only [Act.put, List.setIfInBounds_toArray, List.set_cons_zero, List.set_cons_succ]
  refine wpAnyG_pure (i := 1) (oi := { dst := some 35, op := Op.move (Operand.tmp 0), type := 23, pos := _, after := #[{ on := 21, ground := Ground.gcOnly Departure.lateStores }], guard := none }) (v := ?_) rfl (by kernel_rfl) (by kernel_rfl) (by kernel_rfl) (by kernel_rfl) (fun _ _ _ h => h) (Or.inl ⟨by rfl, ?_⟩) (fun _ => by assumption) ?_
  rotate_left
  · intro w hSw
    try dsimp only at hSw
    go_simp
    try with_reducible rfl
  try simp only [Act.put, List.setIfInBounds_toArray, List.set_cons_zero, List.set_cons_succ]
  refine wpAnyG_pure (i := 2) (oi := { dst := some 36, op := Op.move (Operand.tmp 0), type := 23, pos := _, after := #[], guard := none }) (v := ?_) rfl (by kernel_rfl) (by kernel_rfl) (by kernel_rfl) (by kernel_rfl) (fun _ _ _ h => h) (Or.inl ⟨by rfl, ?_⟩) (fun _ => by assumption) ?_
  rotate_left
  · intro w hSw
    try dsimp only at hSw
    go_simp
    try with_reducible rfl
  try simp only [Act.put, List.setIfInBounds_toArray, List.set_cons_zero, List.set_cons_succ]
  refine wpAnyG_pure (i := 3) (oi := { dst := some 37, op := Op.nilCheck (Operand.tmp 36), type := 0, pos := _, after := #[{ on := 2, ground := Ground.data }], guard := none }) (v := ?_) rfl (by kernel_rfl) (by kernel_rfl) (by kernel_rfl) (by kernel_rfl) (fun _ _ _ h => h) (Or.inl ⟨by rfl, ?_⟩) (fun _ => by assumption) ?_
  rotate_left
  · intro w hSw
    try dsimp only at hSw
    go_simp
    try with_reducible rfl
  try simp only [Act.put, List.setIfInBounds_toArray, List.set_cons_zero, List.set_cons_succ]
  refine wpAnyG_pure (i := 4) (oi := { dst := some 38, op := Op.fieldAddr 49 (Operand.tmp 37) 0, type := 0, pos := _, after := #[{ on := 3, ground := Ground.data }], guard := none }) (v := ?_) rfl (by kernel_rfl) (by kernel_rfl) (by kernel_rfl) (by kernel_rfl) (fun _ _ _ h => h) (Or.inl ⟨by rfl, ?_⟩) (fun _ => by assumption) ?_
  rotate_left
  · intro w hSw
    try dsimp only at hSw
    go_simp
    try with_reducible rfl
  try simp only [Act.put, List.setIfInBounds_toArray, List.set_cons_zero, List.set_cons_succ]
  refine wpAnyG_pure (i := 5) (oi := { dst := some 39, op := Op.fieldAddr 47 (Operand.tmp 38) 0, type := 0, pos := _, after := #[{ on := 4, ground := Ground.data }], guard := none }) (v := ?_) rfl (by kernel_rfl) (by kernel_rfl) (by kernel_rfl) (by kernel_rfl) (fun _ _ _ h => h) (Or.inl ⟨by rfl, ?_⟩) (fun _ => by assumption) ?_
  rotate_left
  · intro w hSw
    try dsimp only at hSw
    go_simp
    try with_reducible rfl
  try simp only [Act.put, List.setIfInBounds_toArray, List.set_cons_zero, List.set_cons_succ]
  refine wpAnyG_take (i := 6) (oi := { dst := some 40, op := Op.load 30 (Operand.tmp 39), type := 30, pos := _, after := #[{ on := 5, ground := Ground.data }], guard := none }) (v := ?_) rfl (by kernel_rfl) (by kernel_rfl) (by kernel_rfl) (by kernel_rfl) (fun _ _ _ h => h) (Or.inl ⟨by rfl, ?_⟩) (by assumption) ?_
  rotate_left
  · intro w hSw
    try dsimp only at hSw
    go_simp
    try with_reducible rfl
  try simp only [Act.put, List.setIfInBounds_toArray, List.set_cons_zero, List.set_cons_succ]
  refine wpAnyG_pure (i := 7) (oi := { dst := some 41, op := Op.move (Operand.tmp 1), type := 22, pos := _, after := #[], guard := none }) (v := ?_) rfl (by kernel_rfl) (by kernel_rfl) (by kernel_rfl) (by kernel_rfl) (fun _ _ _ h => h) (Or.inl ⟨by rfl, ?_⟩) (fun _ => by assumption) ?_
  rotate_left
  · intro w hSw
    try dsimp only at hSw
    go_simp
    try with_reducible rfl
  try simp only [Act.put, List.setIfInBounds_toArray, List.set_cons_zero, List.set_cons_succ]
  refine wpAnyG_pure (i := 11) (oi := { dst := some 45, op := Op.move (Operand.tmp 0), type := 23, pos := _, after := #[], guard := none }) (v := ?_) rfl (by kernel_rfl) (by kernel_rfl) (by kernel_rfl) (by kernel_rfl) (fun _ _ _ h => h) (Or.inl ⟨by rfl, ?_⟩) (fun _ => by assumption) ?_
  rotate_left
  · intro w hSw
    try dsimp only at hSw
    go_simp
    try with_reducible rfl
  try simp only [Act.put, List.setIfInBounds_toArray, List.set_cons_zero, List.set_cons_succ]
  refine wpAnyG_pure (i := 12) (oi := { dst := some 46, op := Op.nilCheck (Operand.tmp 45), type := 0, pos := _, after := #[{ on := 11, ground := Ground.data }], guard := none }) (v := ?_) rfl (by kernel_rfl) (by kernel_rfl) (by kernel_rfl) (by kernel_rfl) (fun _ _ _ h => h) (Or.inl ⟨by rfl, ?_⟩) (fun _ => by assumption) ?_
  rotate_left
  · intro w hSw
    try dsimp only at hSw
    go_simp
    try with_reducible rfl
  try simp only [Act.put, List.setIfInBounds_toArray, List.set_cons_zero, List.set_cons_succ]
  refine wpAnyG_pure (i := 13) (oi := { dst := some 47, op := Op.fieldAddr 49 (Operand.tmp 46) 2, type := 0, pos := _, after := #[{ on := 12, ground := Ground.data }], guard := none }) (v := ?_) rfl (by kernel_rfl) (by kernel_rfl) (by kernel_rfl) (by kernel_rfl) (fun _ _ _ h => h) (Or.inl ⟨by rfl, ?_⟩) (fun _ => by assumption) ?_
  rotate_left
  · intro w hSw
    try dsimp only at hSw
    go_simp
    try with_reducible rfl
  try simp only [Act.put, List.setIfInBounds_toArray, List.set_cons_zero, List.set_cons_succ]
  refine wpAnyG_take (i := 14) (oi := { dst := some 48, op := Op.load 3 (Operand.tmp 47), type := 3, pos := _, after := #[{ on := 13, ground := Ground.data }], guard := none }) (v := ?_) rfl (by kernel_rfl) (by kernel_rfl) (by kernel_rfl) (by kernel_rfl) (fun _ _ _ h => h) (Or.inl ⟨by rfl, ?_⟩) (by assumption) ?_
  rotate_left
  · intro w hSw
    try dsimp only at hSw
    go_simp
    try with_reducible rfl
  try simp only [Act.put, List.setIfInBounds_toArray, List.set_cons_zero, List.set_cons_succ]
  refine wpAnyG_pure (i := 15) (oi := { dst := some 49, op := Op.move (Operand.tmp 1), type := 22, pos := _, after := #[], guard := none }) (v := ?_) rfl (by kernel_rfl) (by kernel_rfl) (by kernel_rfl) (by kernel_rfl) (fun _ _ _ h => h) (Or.inl ⟨by rfl, ?_⟩) (fun _ => by assumption) ?_
  rotate_left
  · intro w hSw
    try dsimp only at hSw
    go_simp
    try with_reducible rfl
  try simp only [Act.put, List.setIfInBounds_toArray, List.set_cons_zero, List.set_cons_succ]
  refine wpAnyG_pure (i := 16) (oi := { dst := some 50, op := Op.call { callee := Callee.builtin Builtin.len, args := #[Operand.tmp 49], argTypes := #[22] }, type := 3, pos := _, after := #[{ on := 15, ground := Ground.data }], guard := none }) (v := ?_) rfl (by kernel_rfl) (by kernel_rfl) (by kernel_rfl) (by kernel_rfl) (fun _ _ _ h => h) (Or.inl ⟨by rfl, ?_⟩) (fun _ => by assumption) ?_
  rotate_left
  · intro w hSw
    try dsimp only at hSw
    go_simp
    try with_reducible rfl
  try simp only [Act.put, List.setIfInBounds_toArray, List.set_cons_zero, List.set_cons_succ]
  refine wpAnyG_pure (i := 17) (oi := { dst := some 51, op := Op.binOp BinOp.add 3 (Operand.tmp 48) (Operand.tmp 50) 3, type := 3, pos := _, after := #[{ on := 14, ground := Ground.data }, { on := 16, ground := Ground.data }], guard := none }) (v := ?_) rfl (by kernel_rfl) (by kernel_rfl) (by kernel_rfl) (by kernel_rfl) (fun _ _ _ h => h) (Or.inl ⟨by rfl, ?_⟩) (fun _ => by assumption) ?_
  rotate_left
  · intro w hSw
    try dsimp only at hSw
    go_simp
    try with_reducible rfl
  try simp only [Act.put, List.setIfInBounds_toArray, List.set_cons_zero, List.set_cons_succ]
  refine wpAnyG_one (i := 8) (o := { dst := some 42, op := Op.call { callee := Callee.value (Operand.func 20), args := #[Operand.tmp 41], argTypes := #[22] }, type := 22, pos := _, after := #[{ on := 7, ground := Ground.data }], guard := none }) (by kernel_rfl) rfl (fun K hK => ?_)
  go_simp
  refine HCL.out.mono ?_
  rintro e w1 ⟨A1, c1, rfl, ho1, hb1⟩
  try dsimp only
  refine hK.out _ _ ?_ (fun hHeld => ?_)
  · intro _
    try dsimp only
    exact ⟨cellB hb1 hHeld.1, cellB hb1 hHeld.2.1, hHeld.2.2.keep hb1⟩
  clear hK K
  try simp only [Act.put, List.setIfInBounds_toArray, List.set_cons_zero, List.set_cons_succ]
  have hHeld := hHeld (by kernel_rfl)
  refine wpAnyG_one (i := 9) (o := { dst := some 43, op := Op.buildSlice 30 1 #[(0, Operand.tmp 42)], type := 30, pos := _, after := #[{ on := 8, ground := Ground.data }], guard := none }) (by kernel_rfl) rfl (fun K hK => ?_)
  have HO1 := Lib.hid (And.intro ho1 hb1)
  have hbd := build1 w1 A1 l.length c1
  clear ho1 hb1
  go_simp
  clear hbd
  try dsimp only
  refine hK.out _ _ ?_ (fun hHeld => ?_)
  · intro _
    try dsimp only
    exact ⟨cellA hHeld.1 _, cellA hHeld.2.1 _, hHeld.2.2.alloc _⟩
  clear hK K
  try simp only [Act.put, List.setIfInBounds_toArray, List.set_cons_zero, List.set_cons_succ]
  have hHeld := hHeld (by kernel_rfl)
  refine wpAnyG_one (i := 10) (o := { dst := some 44, op := Op.call { callee := Callee.builtin Builtin.append, args := #[Operand.tmp 40, Operand.tmp 43], argTypes := #[30, 30] }, type := 30, pos := _, after := #[{ on := 6, ground := Ground.data }, { on := 9, ground := Ground.data }, { on := 8, ground := Ground.chain }], guard := none }) (by kernel_rfl) rfl (fun K hK => ?_)
  refine step_app (w1.alloc (.cells #[Value.slice A1 l.length c1] 22)) rfl (.tmp 40) (.tmp 43) 30 (by rfl) 0 22 i0 _ 24 Try.underlying30 hi0 hz0 hz1 hz2 rfl A c k (ms.map Ms.v) (by rfl) HSK.out.2.2 ((HD.out.1.own.keep HO1.out.2).alloc _) (w1.heap.size + 1) (some ⟨w1.heap.size, 0, none⟩) 1 1 [Ms.v ⟨A1, l, c1⟩] (by rfl) rfl (cells_one w1 _ _ _ (by omega)) (by simp [Value.oneCell', Ms.v]) (by have := HSK.out.2.1; have := HKM.out; simp [maxLen]; omega) (by have := HSK.out.2.1; have := HKM.out; simp; omega) (by omega) (k + 1) rfl ?_
  intro A2 c2 w2 ho2 _ hg2 hA2
  rw [World.size_alloc] at hA2
  have HO2 := Lib.hid (And.intro ho2 (And.intro hg2 hA2))
  clear ho2 hg2 hA2
  try dsimp only
  refine hK.out _ _ ?_ (fun hHeld => ?_)
  · intro _
    try dsimp only
    have hf := HD.out.1.grown HO1.out.2 HO2.out.2.1
    exact ⟨cellFr hf hHeld.1 (HD.out.1.notrow p rfl), cellFr hf hHeld.2.1 (HD.out.1.notrow p rfl), hHeld.2.2.fr hf (HD.out.1.notrow p rfl)⟩
  clear hK K
  try simp only [Act.put, List.setIfInBounds_toArray, List.set_cons_zero, List.set_cons_succ]
  have hHeld := hHeld (by kernel_rfl)
  refine wpAnyG_pure (i := 18) (oi := { dst := some 52, op := Op.nilCheck (Operand.tmp 34), type := 0, pos := _, after := #[{ on := 0, ground := Ground.data }, { on := 0, ground := Ground.phase }, { on := 1, ground := Ground.textOnly Departure.lateStores }, { on := 2, ground := Ground.phase }, { on := 3, ground := Ground.phase }, { on := 4, ground := Ground.phase }, { on := 5, ground := Ground.phase }, { on := 6, ground := Ground.phase }, { on := 7, ground := Ground.phase }, { on := 8, ground := Ground.phase }, { on := 9, ground := Ground.phase }, { on := 10, ground := Ground.phase }, { on := 11, ground := Ground.textOnly Departure.lateStores }, { on := 12, ground := Ground.textOnly Departure.lateStoresUnsure }, { on := 13, ground := Ground.textOnly Departure.lateStoresUnsure }, { on := 14, ground := Ground.phase }, { on := 15, ground := Ground.textOnly Departure.lateStores }, { on := 16, ground := Ground.textOnly Departure.lateStoresUnsure }, { on := 17, ground := Ground.textOnly Departure.lateStoresUnsure }], guard := none }) (v := ?_) rfl (by kernel_rfl) (by kernel_rfl) (by kernel_rfl) (by kernel_rfl) (fun _ _ _ h => h) (Or.inl ⟨by rfl, ?_⟩) (fun _ => by assumption) ?_
  rotate_left
  · intro w hSw
    try dsimp only at hSw
    go_simp
    try with_reducible rfl
  try simp only [Act.put, List.setIfInBounds_toArray, List.set_cons_zero, List.set_cons_succ]
  refine wpAnyG_pure (i := 19) (oi := { dst := some 53, op := Op.fieldAddr 49 (Operand.tmp 52) 0, type := 0, pos := _, after := #[{ on := 18, ground := Ground.data }, { on := 0, ground := Ground.phase }, { on := 1, ground := Ground.textOnly Departure.lateStores }, { on := 2, ground := Ground.phase }, { on := 3, ground := Ground.phase }, { on := 4, ground := Ground.phase }, { on := 5, ground := Ground.phase }, { on := 6, ground := Ground.phase }, { on := 7, ground := Ground.phase }, { on := 8, ground := Ground.phase }, { on := 9, ground := Ground.phase }, { on := 10, ground := Ground.phase }, { on := 11, ground := Ground.textOnly Departure.lateStores }, { on := 12, ground := Ground.textOnly Departure.lateStoresUnsure }, { on := 13, ground := Ground.textOnly Departure.lateStoresUnsure }, { on := 14, ground := Ground.phase }, { on := 15, ground := Ground.textOnly Departure.lateStores }, { on := 16, ground := Ground.textOnly Departure.lateStoresUnsure }, { on := 17, ground := Ground.textOnly Departure.lateStoresUnsure }], guard := none }) (v := ?_) rfl (by kernel_rfl) (by kernel_rfl) (by kernel_rfl) (by kernel_rfl) (fun _ _ _ h => h) (Or.inl ⟨by rfl, ?_⟩) (fun _ => by assumption) ?_
  rotate_left
  · intro w hSw
    try dsimp only at hSw
    go_simp
    try with_reducible rfl
  try simp only [Act.put, List.setIfInBounds_toArray, List.set_cons_zero, List.set_cons_succ]
  refine wpAnyG_pure (i := 20) (oi := { dst := some 54, op := Op.fieldAddr 47 (Operand.tmp 53) 0, type := 0, pos := _, after := #[{ on := 19, ground := Ground.data }, { on := 0, ground := Ground.phase }, { on := 1, ground := Ground.textOnly Departure.lateStores }, { on := 2, ground := Ground.phase }, { on := 3, ground := Ground.phase }, { on := 4, ground := Ground.phase }, { on := 5, ground := Ground.phase }, { on := 6, ground := Ground.phase }, { on := 7, ground := Ground.phase }, { on := 8, ground := Ground.phase }, { on := 9, ground := Ground.phase }, { on := 10, ground := Ground.phase }, { on := 11, ground := Ground.textOnly Departure.lateStores }, { on := 12, ground := Ground.textOnly Departure.lateStoresUnsure }, { on := 13, ground := Ground.textOnly Departure.lateStoresUnsure }, { on := 14, ground := Ground.phase }, { on := 15, ground := Ground.textOnly Departure.lateStores }, { on := 16, ground := Ground.textOnly Departure.lateStoresUnsure }, { on := 17, ground := Ground.textOnly Departure.lateStoresUnsure }], guard := none }) (v := ?_) rfl (by kernel_rfl) (by kernel_rfl) (by kernel_rfl) (by kernel_rfl) (fun _ _ _ h => h) (Or.inl ⟨by rfl, ?_⟩) (fun _ => by assumption) ?_
  rotate_left
  · intro w hSw
    try dsimp only at hSw
    go_simp
    try with_reducible rfl
  try simp only [Act.put, List.setIfInBounds_toArray, List.set_cons_zero, List.set_cons_succ]
  refine wpAnyG_one (i := 21) (o := { dst := none, op := Op.store 30 (Operand.tmp 54) (Operand.tmp 44), type := 0, pos := _, after := #[{ on := 20, ground := Ground.data }, { on := 10, ground := Ground.data }, { on := 10, ground := Ground.chain }, { on := 0, ground := Ground.phase }, { on := 1, ground := Ground.textOnly Departure.lateStores }, { on := 2, ground := Ground.phase }, { on := 3, ground := Ground.phase }, { on := 4, ground := Ground.phase }, { on := 5, ground := Ground.phase }, { on := 6, ground := Ground.phase }, { on := 7, ground := Ground.phase }, { on := 8, ground := Ground.phase }, { on := 9, ground := Ground.phase }, { on := 10, ground := Ground.phase }, { on := 11, ground := Ground.textOnly Departure.lateStores }, { on := 12, ground := Ground.textOnly Departure.lateStoresUnsure }, { on := 13, ground := Ground.textOnly Departure.lateStoresUnsure }, { on := 14, ground := Ground.phase }, { on := 15, ground := Ground.textOnly Departure.lateStores }, { on := 16, ground := Ground.textOnly Departure.lateStoresUnsure }, { on := 17, ground := Ground.textOnly Departure.lateStoresUnsure }], guard := none }) (by kernel_rfl) rfl (fun K hK => ?_)
  have HBK := Lib.hid hHeld.2.2
  have z0 := HBK.out.frozen 0
  have cc0 := hHeld.1
  go_simp
  clear z0 cc0
  try dsimp only
  refine hK.out _ _ ?_ (fun hHeld => ?_)
  · exact fun h => (st_no (by kernel_rfl) h).elim
  clear hK K
  try simp only [Act.put, List.setIfInBounds_toArray, List.set_cons_zero, List.set_cons_succ]
  clear hHeld
  refine wpAnyG_pure (i := 22) (oi := { dst := some 55, op := Op.nilCheck (Operand.tmp 35), type := 0, pos := _, after := #[{ on := 1, ground := Ground.data }, { on := 0, ground := Ground.phase }, { on := 1, ground := Ground.phase }, { on := 2, ground := Ground.phase }, { on := 3, ground := Ground.phase }, { on := 4, ground := Ground.phase }, { on := 5, ground := Ground.phase }, { on := 6, ground := Ground.phase }, { on := 7, ground := Ground.phase }, { on := 8, ground := Ground.phase }, { on := 9, ground := Ground.phase }, { on := 10, ground := Ground.phase }, { on := 11, ground := Ground.phase }, { on := 12, ground := Ground.phase }, { on := 13, ground := Ground.phase }, { on := 14, ground := Ground.phase }, { on := 15, ground := Ground.phase }, { on := 16, ground := Ground.phase }, { on := 17, ground := Ground.phase }, { on := 18, ground := Ground.phase }, { on := 19, ground := Ground.phase }, { on := 20, ground := Ground.phase }, { on := 21, ground := Ground.phase }], guard := none }) (v := ?_) rfl (by kernel_rfl) (by kernel_rfl) (by kernel_rfl) (by kernel_rfl) (fun _ _ _ h => h) (Or.inl ⟨by rfl, ?_⟩) (fun h => (st_no (by kernel_rfl) h).elim) ?_
  rotate_left
  · intro w hSw
    try dsimp only at hSw
    go_simp
    try with_reducible rfl
  try simp only [Act.put, List.setIfInBounds_toArray, List.set_cons_zero, List.set_cons_succ]
  refine wpAnyG_pure (i := 23) (oi := { dst := some 56, op := Op.fieldAddr 49 (Operand.tmp 55) 2, type := 0, pos := _, after := #[{ on := 22, ground := Ground.data }, { on := 0, ground := Ground.phase }, { on := 1, ground := Ground.phase }, { on := 2, ground := Ground.phase }, { on := 3, ground := Ground.phase }, { on := 4, ground := Ground.phase }, { on := 5, ground := Ground.phase }, { on := 6, ground := Ground.phase }, { on := 7, ground := Ground.phase }, { on := 8, ground := Ground.phase }, { on := 9, ground := Ground.phase }, { on := 10, ground := Ground.phase }, { on := 11, ground := Ground.phase }, { on := 12, ground := Ground.phase }, { on := 13, ground := Ground.phase }, { on := 14, ground := Ground.phase }, { on := 15, ground := Ground.phase }, { on := 16, ground := Ground.phase }, { on := 17, ground := Ground.phase }, { on := 18, ground := Ground.phase }, { on := 19, ground := Ground.phase }, { on := 20, ground := Ground.phase }, { on := 21, ground := Ground.phase }], guard := none }) (v := ?_) rfl (by kernel_rfl) (by kernel_rfl) (by kernel_rfl) (by kernel_rfl) (fun _ _ _ h => h) (Or.inl ⟨by rfl, ?_⟩) (fun h => (st_no (by kernel_rfl) h).elim) ?_
  rotate_left
  · intro w hSw
    try dsimp only at hSw
    go_simp
    try with_reducible rfl
  try simp only [Act.put, List.setIfInBounds_toArray, List.set_cons_zero, List.set_cons_succ]
  refine wpAnyG_one (i := 24) (o := { dst := none, op := Op.store 3 (Operand.tmp 56) (Operand.tmp 51), type := 0, pos := _, after := #[{ on := 23, ground := Ground.data }, { on := 17, ground := Ground.data }, { on := 21, ground := Ground.chain }, { on := 0, ground := Ground.phase }, { on := 1, ground := Ground.phase }, { on := 2, ground := Ground.phase }, { on := 3, ground := Ground.phase }, { on := 4, ground := Ground.phase }, { on := 5, ground := Ground.phase }, { on := 6, ground := Ground.phase }, { on := 7, ground := Ground.phase }, { on := 8, ground := Ground.phase }, { on := 9, ground := Ground.phase }, { on := 10, ground := Ground.phase }, { on := 11, ground := Ground.phase }, { on := 12, ground := Ground.phase }, { on := 13, ground := Ground.phase }, { on := 14, ground := Ground.phase }, { on := 15, ground := Ground.phase }, { on := 16, ground := Ground.phase }, { on := 17, ground := Ground.phase }, { on := 18, ground := Ground.phase }, { on := 19, ground := Ground.phase }, { on := 20, ground := Ground.phase }, { on := 21, ground := Ground.phase }], guard := none }) (by kernel_rfl) rfl (fun K hK => ?_)
  have hb2 := HBK.out.set_ 0 (.slice A2 (k + 1) c2)
  have cc2 := hb2.cell 2
  have z2 := hb2.frozen 2
  rw [show ((#[Value.slice A k c, Value.int .i64 (most : Int), Value.int .i64 (S : Int)] : Array Value).setIfInBounds 0 (.slice A2 (k + 1) c2))[2]? = some (Value.int .i64 (S : Int)) from rfl] at cc2
  go_simp
  clear z2 cc2 hb2
  try dsimp only
  refine hK.out _ _ ?_ (fun hHeld => ?_)
  · exact fun h => (st_no (by kernel_rfl) h).elim
  clear hK K
  try simp only [Act.put, List.setIfInBounds_toArray, List.set_cons_zero, List.set_cons_succ]
  clear hHeld
  refine wpAnyG_done (by kernel_rfl) ?_ _
  refine NoPanic.normal ?_
  --END send7
  go_wp2_with fail
  go_ret
  obtain ⟨F', h1, h2, h3⟩ := HD.out.1.push HF.out.2.1 (by have := HF.out.2.2; omega) (by have := HF.out.2.2; omega) HO1.out.1 HO1.out.2 _ HO2.out.1 HO2.out.2.1 HO2.out.2.2
  rw [HSK.out.1, HSK.out.2.1, ← HF.out.1] at h1 h3
  exact ⟨rfl, F', ⟨_, _, _, by rw [List.map_append]; rfl, h1⟩, fun k hk => (h2 k hk).imp id (fun h => Nat.le_trans HFR.out.size h), (Fr.quiet HFR.out).trans h3 fun _ _ h => h⟩
theorem send_any (F : Nat → Prop) (p most : Nat) (L : List (List UInt8)) (w : World) (h : NetA F p most L w) (B : Option Addr) (l : List UInt8) (n cb : Nat) (hn : n = l.length) (hB : Bytes w w.heap.size B l) :
    Calls Try.prog 7 #[.pointer (some ⟨p, 0, none⟩), .slice B n cb] w (NetOk w F p most (sendL most L l) (.int .i64 (sendE most L l))) := by
  by_cases h1 : 131072 < l.length
  · have e : sendE most L l = 3 := if_pos h1
    unfold sendL; rw [e, if_neg (by decide)]
    exact send_long F p most L w h B l n cb hn h1
  · obtain ⟨A, c, ms, rfl, hm⟩ := h
    have ht : ((ms.map Ms.l).map List.length).sum = tot ms := by rw [List.map_map]; rfl
    by_cases h2 : most ≤ ms.length ∨ 134217728 < tot ms + l.length
    · have e : sendE most (ms.map Ms.l) l = 181 := by unfold sendE; rw [if_neg h1, List.length_map, ht, if_pos h2]
      unfold sendL; rw [e, if_neg (by decide)]
      exact send_full F p most A c ms w hm B l n cb hn (by omega) h2
    · have e : sendE most (ms.map Ms.l) l = 0 := by unfold sendE; rw [if_neg h1, List.length_map, ht, if_neg h2]
      unfold sendL; rw [e, if_pos rfl]
      exact send_ok F p most A c ms w hm B l n cb hn (by omega) hB h2
end Go.Proofs.Ytdgaicnnaidkkaa.NtW
