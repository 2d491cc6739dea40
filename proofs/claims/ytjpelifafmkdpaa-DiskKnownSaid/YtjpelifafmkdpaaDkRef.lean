/- The document's disk in memory; its calls that go straight on. -/
import Derived.Test.YtjpelifafmkdpaaDkFa
namespace Go.Proofs.Ytjpelifafmkdpaa.DkW
open Go.RowKit Go.Shelf Mem Rng
set_option linter.unusedVariables false

/-- A block, as the document has it: what is settled, and its late writes by their numbers. -/
abbrev RB := List UInt8 × List (Nat × List UInt8)
def ltc (x : Nat × List UInt8) : List Value := [.int .i64 (x.1 : Int), .string (str x.2)]
theorem ltc_len (l : List (Nat × List UInt8)) : (l.flatMap ltc).length = l.length * 2 := by
  induction l with
  | nil => rfl
  | cons x r ih => rw [List.flatMap_cons, List.length_append, ih, List.length_cons]; show 2 + r.length * 2 = _; omega
def LateR (G : Nat → Prop) (q : Nat) (A0 A : Option Addr) (ls : List (Nat × List UInt8)) (w : World) : Prop := ls = [] ∨ ∃ k, A = some ⟨k, 0, none⟩ ∧ G k ∧ k ≠ q ∧ A0 ≠ some ⟨k, 0, none⟩ ∧ Cells w w.heap.size A (ls.flatMap ltc)
structure Rd (G : Nat → Prop) (q : Nat) (A : Option Addr) (n c : Nat) (f : Nat → RB) (done : Nat) (inn : Int) (gone : Bool) (w : World) : Prop where
  blk : Blk w q 56 #[.slice A n c, .int .i64 (done : Int), .int .i64 inn, .bool gone]
  row : n = 0 ∨ ∃ g cur, A = some ⟨g, 0, none⟩ ∧ Blk w g 71 cur ∧ G g ∧ g ≠ q ∧ ∀ i, i < n → ∃ B d, cur[i * 2]? = some (.string (str (f i).1)) ∧ cur[i * 2 + 1]? = some (.slice B (f i).2.length d) ∧ LateR G q A B (f i).2 w
  foot : G q
  lt : ∀ k, G k → k < w.heap.size
  bound : n ≤ 4096 ∧ done ≤ 256 ^ 3 ∧ -1 ≤ inn ∧ inn ≤ 9223372036854775807 ∧ ∀ i, i < n → (f i).2.length ≤ 256 ^ 3
def RdA (G : Nat → Prop) (q n : Nat) (f : Nat → RB) (done : Nat) (inn : Int) (gone : Bool) (w : World) : Prop := ∃ A c, Rd G q A n c f done inn gone w
/-- The late writes to block i, from number k on. -/
def latesAt : Nat → List (Int × List UInt8) → Int → List (Nat × List UInt8)
  | _, [], _ => []
  | k, (j, b) :: r, i => if j = i then (k, b) :: latesAt (k + 1) r i else latesAt (k + 1) r i
def fOf (s : DS) (i : Nat) : RB := (s.S (i : Int), latesAt 0 s.L (i : Int))
/-- What is in a block with all late writes. -/
def lastOf (S : List UInt8) (l : List (Nat × List UInt8)) : List UInt8 := match l.getLast? with
  | none => S
  | some x => x.2
structure Tidy (s : DS) : Prop where
  lates : ∀ x ∈ s.L, 0 ≤ x.1 ∧ x.1 < (s.n : Int) ∧ x.2.length = 256
  settled : ∀ i, (s.S i).length = 256
  now : ∀ i : Nat, s.N (i : Int) = lastOf (s.S (i : Int)) (latesAt 0 s.L (i : Int))
  few : s.L.length ≤ s.steps
def RdS (G : Nat → Prop) (q : Nat) (s : DS) (w : World) : Prop := RdA G q s.n (fOf s) s.steps s.well s.off w ∧ Tidy s
def RdOk (w : World) (G : Nat → Prop) (q : Nat) (s : DS) (v : Value) (e : Ending) (w' : World) : Prop := e = .returned v ∧ ∃ G', RdS G' q s w' ∧ Grow G G' w ∧ Fr G w w'
section
variable {S G G' : Nat → Prop} {q n c done : Nat} {A : Option Addr} {f : Nat → RB} {inn : Int} {gone : Bool} {w w' : World}
theorem LateR.fr {A0 A : Option Addr} {ls : List (Nat × List UInt8)} (h : LateR G q A0 A ls w) (hf : Fr S w w') (hS : ∀ k, G k → ¬ S k) : LateR G q A0 A ls w' := by
  refine h.imp id fun ⟨k, e, hk, h1, h2, h3⟩ => ⟨k, e, hk, h1, h2, fun hl => ?_⟩
  subst e
  obtain ⟨b, off, e, hb, hc⟩ := h3 hl
  injection e with e; injection e with e1 e2; subst e1; subst e2
  exact ⟨_, _, rfl, Nat.lt_of_lt_of_le hb hf.size, fun j v hv => (World.cell?_of_block (hf.block _ hb (hS _ hk))).trans (hc j v hv)⟩
theorem LateR.more {A0 A : Option Addr} {ls : List (Nat × List UInt8)} (h : LateR G q A0 A ls w) (hG : ∀ k, G k → G' k) : LateR G' q A0 A ls w := h.imp id fun ⟨k, e, hk, h1, h2, h3⟩ => ⟨k, e, hG k hk, h1, h2, h3⟩
theorem Rd.fr (h : Rd G q A n c f done inn gone w) (hf : Fr S w w') (hS : ∀ k, G k → ¬ S k) : Rd G q A n c f done inn gone w' :=
  ⟨h.blk.fr hf (hS q h.foot), h.row.imp id fun ⟨g, cur, e, hb, hg, hq, hc⟩ => ⟨g, cur, e, hb.fr hf (hS g hg), hg, hq, fun i hi => by obtain ⟨B, d, h1, h2, h3⟩ := hc i hi; exact ⟨B, d, h1, h2, h3.fr hf hS⟩⟩, h.foot, fun k hk => Nat.lt_of_lt_of_le (h.lt k hk) hf.size, h.bound⟩
theorem Rd.keep (h : Rd G q A n c f done inn gone w) (hb : Below w.heap.size w w') : Rd G q A n c f done inn gone w' := h.fr (Fr.quiet (S := fun _ => False) hb) fun _ _ h => h
theorem Rd.cells (h : Rd G q A n c f done inn gone w) : w.cell? ⟨q, 0, none⟩ = some (.slice A n c) ∧ w.cell? ⟨q, 1, none⟩ = some (.int .i64 (done : Int)) ∧ w.cell? ⟨q, 2, none⟩ = some (.int .i64 inn) ∧ w.cell? ⟨q, 3, none⟩ = some (.bool gone) := ⟨h.blk.cell 0, h.blk.cell 1, h.blk.cell 2, h.blk.cell 3⟩
/-- The block's own cells turned (not the row's place). -/
theorem Rd.turn {done' : Nat} {inn' : Int} {gone' : Bool} (h : Rd G q A n c f done inn gone w) (hf : Fr (fun k => k = q) w w') (hb : Blk w' q 56 #[.slice A n c, .int .i64 (done' : Int), .int .i64 inn', .bool gone']) (hd : done' ≤ 256 ^ 3) (hi : -1 ≤ inn' ∧ inn' ≤ 9223372036854775807) : Rd G q A n c f done' inn' gone' w' :=
  ⟨hb, h.row.imp id fun ⟨g, cur, e, hb, hg, hq, hc⟩ => ⟨g, cur, e, hb.fr hf hq, hg, hq, fun i hi => by
    obtain ⟨B, d, h1, h2, h3⟩ := hc i hi
    refine ⟨B, d, h1, h2, h3.imp id fun ⟨k, e, hk, k1, k2, k3⟩ => ⟨k, e, hk, k1, k2, fun hl => ?_⟩⟩
    subst e
    obtain ⟨b, off, e, hb, hc⟩ := k3 hl
    injection e with e; injection e with e1 e2; subst e1; subst e2
    exact ⟨_, _, rfl, Nat.lt_of_lt_of_le hb hf.size, fun j v hv => (World.cell?_of_block (hf.block _ hb k1)).trans (hc j v hv)⟩⟩, h.foot, fun k hk => Nat.lt_of_lt_of_le (h.lt k hk) hf.size, h.bound.1, hd, hi.1, hi.2, h.bound.2.2.2.2⟩
/-- Where block i lies. -/
theorem Rd.at_ (h : Rd G q A n c f done inn gone w) {i : Nat} (hi : i < n) : ∃ g B d, A = some ⟨g, 0, none⟩ ∧ w.cell? ⟨g, i * 2, none⟩ = some (.string (str (f i).1)) ∧ w.cell? ⟨g, i * 2 + 1, none⟩ = some (.slice B (f i).2.length d) ∧ LateR G q A B (f i).2 w ∧ G g ∧ g ≠ q := by
  rcases h.row with h0 | ⟨g, cur, e, hb, hg, hq, hc⟩
  · omega
  · obtain ⟨B, d, h1, h2, h3⟩ := hc i hi
    exact ⟨g, B, d, e, (hb.cell _).trans h1, (hb.cell _).trans h2, h3, hg, hq⟩
/-- The j-th late write of a block, where it lies. -/
theorem LateR.at_ {A0 A : Option Addr} {ls : List (Nat × List UInt8)} {j : Nat} {x : Nat × List UInt8} (h : LateR G q A0 A ls w) (hx : ls[j]? = some x) : ∃ k, A = some ⟨k, 0, none⟩ ∧ G k ∧ w.cell? ⟨k, j * 2, none⟩ = some (.int .i64 (x.1 : Int)) ∧ w.cell? ⟨k, j * 2 + 1, none⟩ = some (.string (str x.2)) := by
  have hj := (List.getElem?_eq_some_iff.1 hx).1
  rcases h with rfl | ⟨k, rfl, hk, _, _, hc⟩
  · cases hx
  · obtain ⟨b, off, e, hb, hc⟩ := hc (by rw [ltc_len]; omega)
    injection e with e; injection e with e1 e2; subst e1; subst e2
    have hK : ∀ x, (ltc x).length = 2 := fun _ => rfl
    have h0 := hc (j * 2 + 0) _ ((Open.flat_get hK ls j 0 x hx (by decide)).trans rfl)
    have h1 := hc (j * 2 + 1) _ ((Open.flat_get hK ls j 1 x hx (by decide)).trans rfl)
    rw [Nat.zero_add] at h0 h1
    exact ⟨_, rfl, hk, h0, h1⟩
end
theorem latesAt_snoc (x : Int × List UInt8) (i : Int) : ∀ (L : List (Int × List UInt8)) (k : Nat), latesAt k (L ++ [x]) i = if x.1 = i then latesAt k L i ++ [(k + L.length, x.2)] else latesAt k L i
  | [], k => by
    obtain ⟨j, b⟩ := x
    show (if j = i then (k, b) :: [] else []) = _
    rfl
  | (j, b) :: r, k => by
    show (if j = i then (k, b) :: latesAt (k + 1) (r ++ [x]) i else latesAt (k + 1) (r ++ [x]) i) = _
    rw [latesAt_snoc x i r (k + 1), List.length_cons, show k + 1 + r.length = k + (r.length + 1) from by omega]
    show _ = if x.1 = i then (if j = i then (k, b) :: latesAt (k + 1) r i else latesAt (k + 1) r i) ++ _ else (if j = i then (k, b) :: latesAt (k + 1) r i else latesAt (k + 1) r i)
    split <;> split <;> rfl
theorem latesAt_len (i : Int) : ∀ (L : List (Int × List UInt8)) (k : Nat), (latesAt k L i).length ≤ L.length
  | [], _ => Nat.le_refl _
  | (j, b) :: r, k => by
    show (if j = i then (k, b) :: latesAt (k + 1) r i else latesAt (k + 1) r i).length ≤ r.length + 1
    have := latesAt_len i r (k + 1)
    split
    · rw [List.length_cons]; omega
    · omega
theorem latesAt_mem (i : Int) : ∀ (L : List (Int × List UInt8)) (k : Nat) (x : Nat × List UInt8), x ∈ latesAt k L i → k ≤ x.1 ∧ x.1 < k + L.length ∧ (i, x.2) ∈ L
  | [], _, x, h => by cases h
  | (j, b) :: r, k, x, h => by
    have h' : x ∈ (if j = i then (k, b) :: latesAt (k + 1) r i else latesAt (k + 1) r i) := h
    have ih := latesAt_mem i r (k + 1) x
    split at h'
    · rename_i e
      rcases List.mem_cons.1 h' with e2 | h2
      · subst e2; subst e
        refine ⟨Nat.le_refl _, ?_, List.mem_cons_self ..⟩
        rw [List.length_cons]; show k < k + (r.length + 1); omega
      · have := ih h2
        refine ⟨by omega, ?_, List.mem_cons_of_mem _ this.2.2⟩
        rw [List.length_cons]; omega
    · have := ih h'
      refine ⟨by omega, ?_, List.mem_cons_of_mem _ this.2.2⟩
      rw [List.length_cons]; omega
section
variable {G : Nat → Prop} {q : Nat} {s : DS} {w w' : World}
theorem RdS.keep (h : RdS G q s w) (hb : Below w.heap.size w w') : RdS G q s w' := by
  obtain ⟨⟨A, c, h⟩, ht⟩ := h; exact ⟨⟨A, c, h.keep hb⟩, ht⟩
theorem RdS.fr {S : Nat → Prop} (h : RdS G q s w) (hf : Fr S w w') (hS : ∀ k, G k → ¬ S k) : RdS G q s w' := by
  obtain ⟨⟨A, c, h⟩, ht⟩ := h; exact ⟨⟨A, c, h.fr hf hS⟩, ht⟩
theorem RdS.lt (h : RdS G q s w) : ∀ k, G k → k < w.heap.size := by
  obtain ⟨⟨A, c, h⟩, ht⟩ := h; exact h.lt
theorem RdOk.same {v : Value} (h : RdS G q s w) (hb : Below w.heap.size w w') : RdOk w G q s v (.returned v) w' := ⟨rfl, G, h.keep hb, fun _ h => .inl h, Fr.quiet hb⟩
theorem rfail_any (h : RdS G q s w) (n : Int) (hn : n ≤ 9223372036854775807) : Calls Try.prog 39 #[.pointer (some ⟨q, 0, none⟩), .int .i64 n] w (RdOk w G q (s.fail n) (.tuple #[])) := by
  obtain ⟨⟨A, c, hd⟩, ht⟩ := h
  have hz := hd.blk.frozen 2
  have hc := hd.cells.2.2.1
  obtain ⟨v, hv⟩ : ∃ v, max (-1) n = v := ⟨_, rfl⟩
  have H := Lib.hid (show RdOk w G q (s.fail n) (.tuple #[]) (.returned (.tuple #[])) (w.setCell ⟨q, 2, none⟩ (.int .i64 v)) from by
    have hf : Fr (fun k => k = q) w (w.setCell ⟨q, 2, none⟩ (.int .i64 v)) := (Fr.refl (fun k => k = q) w).setCell (p := ⟨q, 2, none⟩) (fun _ => rfl) _
    refine ⟨rfl, G, ⟨⟨A, c, ?_⟩, ht.1, ht.2, ht.3, ht.4⟩, fun _ h => .inl h, hf.mono fun k _ e => by rw [e]; exact hd.foot⟩
    show Rd G q A s.n c (fOf s) s.steps (max (-1) n) s.off _
    rw [hv]
    exact hd.turn hf (hd.blk.set_ 2 (.int .i64 v)) hd.bound.2.1 (by omega))
  clear hd ht
  by_cases h1 : n ≤ -1
  · obtain rfl : v = -1 := by omega
    clear hv
    go_enter Try.func39, Try.ntmps39
    go_wp2_with fail
    go_end0
    exact H.out
  · obtain rfl : v = n := by omega
    have h2 : -1 < v := by omega
    clear hv
    go_enter Try.func39, Try.ntmps39
    go_wp2_with fail
    go_end0
    exact H.out
theorem rcrashA {n done : Nat} {f : Nat → RB} {inn : Int} {gone : Bool} (h : RdA G q n f done inn gone w) : Calls Try.prog 40 #[.pointer (some ⟨q, 0, none⟩)] w fun e w' => e = .returned (.tuple #[]) ∧ RdA G q n f done (-1) true w' ∧ Fr G w w' := by
  obtain ⟨A, c, hd⟩ := h
  have z3 := hd.blk.frozen 3
  have c3 := hd.cells.2.2.2
  have hb := hd.blk.set_ 3 (.bool true)
  have z2 := hb.frozen 2
  have c2 : (w.setCell ⟨q, 3, none⟩ (.bool true)).cell? ⟨q, 2, none⟩ = some (.int .i64 inn) := hb.cell 2
  have H := Lib.hid (show RdA G q n f done (-1) true ((w.setCell ⟨q, 3, none⟩ (.bool true)).setCell ⟨q, 2, none⟩ (.int .i64 (-1))) ∧ Fr G w ((w.setCell ⟨q, 3, none⟩ (.bool true)).setCell ⟨q, 2, none⟩ (.int .i64 (-1))) from by
    have hf : Fr (fun k => k = q) w ((w.setCell ⟨q, 3, none⟩ (.bool true)).setCell ⟨q, 2, none⟩ (.int .i64 (-1))) := ((Fr.refl (fun k => k = q) w).setCell (p := ⟨q, 3, none⟩) (fun _ => rfl) _).setCell (p := ⟨q, 2, none⟩) (fun _ => rfl) _
    exact ⟨⟨A, c, hd.turn hf (hb.set_ 2 (.int .i64 (-1))) hd.bound.2.1 ⟨by decide, by decide⟩⟩, hf.mono fun k _ e => by rw [e]; exact hd.foot⟩)
  clear hd hb
  go_enter Try.func40, Try.ntmps40
  go_wp2_with fail
  go_end0
  exact ⟨rfl, H.out⟩
theorem rcrash_any (h : RdS G q s w) : Calls Try.prog 40 #[.pointer (some ⟨q, 0, none⟩)] w (RdOk w G q s.crash (.tuple #[])) :=
  (rcrashA h.1).mono fun e w' ⟨he, h1, h2⟩ => ⟨he, G, ⟨h1, h.2.1, h.2.2, h.2.3, h.2.4⟩, fun _ h => .inl h, h2⟩
def StepOk (w : World) (G : Nat → Prop) (q n : Nat) (f : Nat → RB) (s : DS) (e : Ending) (w' : World) : Prop := e = .returned (.bool (decide (s.well ≠ 0))) ∧ RdA G q n f (s.step id).1.steps (s.step id).1.well (s.step id).1.off w' ∧ Fr G w w'
set_option maxHeartbeats 1000000 in
theorem rstep_any {n : Nat} {f : Nat → RB} (h : RdA G q n f s.steps s.well s.off w) (hs : s.steps + 1 ≤ 256 ^ 3) : Calls Try.prog 44 #[.pointer (some ⟨q, 0, none⟩)] w (StepOk w G q n f s) := by
  unfold StepOk DS.step
  obtain ⟨A, c, hd⟩ := h
  have hwl : -1 ≤ s.well ∧ s.well ≤ 9223372036854775807 := ⟨hd.bound.2.2.1, hd.bound.2.2.2.1⟩
  have hc1 := hd.cells.2.1
  have hz1 := hd.blk.frozen 1
  have hs2 : (s.steps : Int) ≤ 256 ^ 3 := by omega
  have hs0 : (0 : Int) ≤ (s.steps : Int) := by omega
  have hb := hd.blk.set_ 1 (.int .i64 ((s.steps : Int) + 1))
  have hc2 : (w.setCell ⟨q, 1, none⟩ (.int .i64 ((s.steps : Int) + 1))).cell? ⟨q, 2, none⟩ = some (.int .i64 s.well) := hb.cell 2
  have hz2 := hb.frozen 2
  have hf : Fr (fun k => k = q) w (w.setCell ⟨q, 1, none⟩ (.int .i64 ((s.steps : Int) + 1))) := (Fr.refl (fun k => k = q) w).setCell (p := ⟨q, 1, none⟩) (fun _ => rfl) _
  have H1 := Lib.hid (show RdA G q n f (s.steps + 1) s.well s.off (w.setCell ⟨q, 1, none⟩ (.int .i64 ((s.steps : Int) + 1))) from ⟨A, c, hd.turn hf hb hs hwl⟩)
  have HF := Lib.hid (And.intro (show Fr G w (w.setCell ⟨q, 1, none⟩ (.int .i64 ((s.steps : Int) + 1))) from hf.mono fun k _ e => by rw [e]; exact hd.foot) (And.intro hf (And.intro hb hd)))
  have HS := Lib.hid hs
  clear hb hd hf hs
  by_cases hw0 : s.well = 0
  · rw [if_pos hw0]
    rw [decide_eq_false (by omega)]
    rw [hw0] at hc2
    clear hwl
    go_enter Try.func44, Try.ntmps44
    go_wp2_with fail
    refine (rcrashA H1.out).mono ?_
    rintro e w2 ⟨rfl, h2, f2⟩
    have H2 := Lib.hid (And.intro h2 f2)
    clear h2 f2
    go_wp2_with fail
    go_ret
    exact ⟨rfl, H2.out.1, HF.out.1.trans H2.out.2 fun _ _ h => h⟩
  · rw [if_neg hw0]
    rw [decide_eq_true hw0]
    have hwb : (s.well == 0) = false := by simp [hw0]
    by_cases hwp : 0 < s.well
    · have H2 := Lib.hid (show RdA G q n f (s.steps + 1) (max (-1) (s.well - 1)) s.off ((w.setCell ⟨q, 1, none⟩ (.int .i64 ((s.steps : Int) + 1))).setCell ⟨q, 2, none⟩ (.int .i64 (s.well - 1))) ∧ Fr G w ((w.setCell ⟨q, 1, none⟩ (.int .i64 ((s.steps : Int) + 1))).setCell ⟨q, 2, none⟩ (.int .i64 (s.well - 1))) from by
        obtain ⟨h1, hf, hb, hd⟩ := HF.out
        have hf2 := hf.setCell (p := ⟨q, 2, none⟩) (fun _ => rfl) (.int .i64 (s.well - 1))
        rw [show max (-1) (s.well - 1) = s.well - 1 from by omega]
        exact ⟨⟨A, c, hd.turn (done' := s.steps + 1) hf2 (hb.set_ 2 (.int .i64 (s.well - 1))) HS.out ⟨by omega, by omega⟩⟩, hf2.mono fun k _ e => by rw [e]; exact hd.foot⟩)
      go_enter Try.func44, Try.ntmps44
      go_wp2_with fail
      go_ret
      exact ⟨rfl, H2.out⟩
    · have hwn : s.well ≤ 0 := by omega
      have hm1 : max (-1) (s.well - 1) = s.well := by omega
      have HM := Lib.hid hm1
      clear hm1
      go_enter Try.func44, Try.ntmps44
      go_wp2_with fail
      go_ret
      refine ⟨rfl, ?_, HF.out.1⟩
      show RdA G q n f (s.steps + 1) (max (-1) (s.well - 1)) s.off _
      rw [HM.out]
      exact H1.out
theorem rmay_any (h : RdS G q s w) (i : Int) : Calls Try.prog 43 #[.pointer (some ⟨q, 0, none⟩), .int .i64 i] w fun e w' => e = .returned (.int .i64 (s.may i 0)) ∧ w = w' := by
  obtain ⟨⟨A, c, hd⟩, ht⟩ := h
  have c0 := hd.cells.1
  have c3 := hd.cells.2.2.2
  unfold DS.may
  obtain ⟨n, hn⟩ : ∃ n, s.n = n := ⟨_, rfl⟩
  obtain ⟨b, hb⟩ : ∃ b, s.off = b := ⟨_, rfl⟩
  rw [hn] at c0 ⊢
  rw [hb] at c3 ⊢
  clear hn hb hd ht
  cases b with
  | true =>
    rw [if_pos rfl]
    go_enter Try.func43, Try.ntmps43
    go_wp2_with fail
    go_ret
    exact ⟨rfl, rfl⟩
  | false =>
    rw [if_neg (by decide)]
    by_cases h1 : i < 0
    · rw [if_pos (.inl h1)]
      go_enter Try.func43, Try.ntmps43
      go_wp2_with fail
      go_ret
      exact ⟨rfl, rfl⟩
    · by_cases h2 : (n : Int) ≤ i
      · rw [if_pos (.inr h2)]
        go_enter Try.func43, Try.ntmps43
        go_wp2_with fail
        go_ret
        exact ⟨rfl, rfl⟩
      · rw [if_neg (by omega), if_neg (by decide)]
        go_enter Try.func43, Try.ntmps43
        go_wp2_with fail
        go_ret
        exact ⟨rfl, rfl⟩
theorem reaches_any (w : World) (B : Nat) (k n c : Nat) (A : Option Addr) (fates : List UInt8) (hn : fates.length = n) (hA : Bytes w B A fates) : Calls Try.prog 45 #[.int .i64 (k : Int), .slice A n c] w fun e w' => e = .returned (.int .i64 (reach fates k : Int)) ∧ w = w' := by
  have hk0 : (0 : Int) ≤ (k : Int) := by omega
  unfold reach
  by_cases hk : k < n
  · obtain ⟨b, off, rfl, hb, hc⟩ := hA.at_ (k := k) (by omega)
    rw [List.getElem?_eq_getElem (by omega)]
    dsimp only
    obtain ⟨t, ht⟩ : ∃ t, (fates[k]'(by omega)).toNat = t := ⟨_, rfl⟩
    have ht255 : (t : Int) ≤ 255 := by have := (fates[k]'(by omega)).toNat_lt; omega
    have ht0 : (0 : Int) ≤ (t : Int) := by omega
    rw [ht] at hc ⊢
    have h1 : (k : Int) < (n : Int) := by omega
    clear ht hA hn
    by_cases h5 : t = 255
    · subst h5
      rw [if_pos rfl]
      go_enter Try.func45, Try.ntmps45
      go_wp2_with fail
      go_ret
      exact ⟨rfl, rfl⟩
    · rw [if_neg h5]
      have h6 : ((t : Int) == 255) = false := by simp; omega
      go_enter Try.func45, Try.ntmps45
      go_wp2_with fail
      go_ret
      exact ⟨rfl, rfl⟩
  · rw [List.getElem?_eq_none (by omega)]
    have h1 : (n : Int) ≤ (k : Int) := by omega
    clear hA hn
    go_enter Try.func45, Try.ntmps45
    go_wp2_with fail
    go_ret
    exact ⟨rfl, rfl⟩
end
end Go.Proofs.Ytjpelifafmkdpaa.DkW
