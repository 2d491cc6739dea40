/- Texts of a claim, one behind another. -/
import Derived.Below
import Derived.Laws.OwnMore
import Derived.Deep.Draws
import Derived.Laws.World
import Derived.OwnWalk
import Derived.Maps.AppendAt
import Derived.Laws.BytesArg
import Derived.Lib.ConvBytes
import Derived.RegionTactic
import Derived.Laws.Strings
import Derived.RangeFuncNested
import Derived.RangeFuncWrites
import Derived.RangeFuncBound
import Derived.RangeFuncCalls
import Derived.RangeFuncLeaves
import Derived.Shelf.Abstract
import Derived.Deep.RegionHeld3
import Derived.Deep.Quiet
import Derived.OrdersIn
import Derived.Laws.BitsAllLaws
import Derived.Laws.BitsLemmas
import Derived.WalkKit
import Derived.ProofKit
import Derived.OpenShut
import Derived.ShutString
import Derived.ChangeOld
import Derived.Deep.Slices
import Derived.Deep.Fields
import Derived.Test.YthdapoipfnnaeaaRows
import Derived.WalkSpells
import Derived.WalkLawsBesides
import Derived.Lib.Hide
import Derived.BigQuiet
import Derived.Deep.QuietTactic
import Derived.Deep.RegionLaw
import Derived.Deep.LoopGhost
import Derived.Deep.DeepCutAuto
import Derived.Defers
import Derived.Laws.Pointers
import Derived.Laws.LoneSync
import Derived.Laws.NewBlocks
import Derived.RegionCalls
import Derived.ChangeAlike
import Derived.IntWalk
import Derived.Shelf.RegionOpen
import Derived.OwnWalkIn
import Derived.TacticsInMore
import Derived.LoopNIn
import Derived.LoopIn
/- A slice's cells, said once for nil, empty and other slices; that they stay while nothing below a block's number turns. -/
namespace Go.Proofs.Ythdapoipfnnaeaa.Mem
open Go.RowKit

/-- One call more; one new block more; draws. -/
theorem next {a w w' : World} (h : Below a.heap.size a w) (k : Below w.heap.size w w') : Below a.heap.size a w' := h.trans (k.mono h.size)
theorem nextA {a w : World} (h : Below a.heap.size a w) (o : Obj) : Below a.heap.size a (w.alloc o) := h.alloc h.size o
theorem nextN {a w : World} (h : Below a.heap.size a w) (n : Nat) : Below a.heap.size a (w.drewN n) := h.trans ⟨rfl, rfl, rfl, Nat.le_refl _, fun _ _ => rfl⟩
theorem start (a : World) : Below a.heap.size a a := Below.refl _ _

/-- The slice that begins at A has the values xs, a cell each, in a block below B. -/
def Cells (w : World) (B : Nat) (A : Option Addr) (xs : List Value) : Prop :=
  0 < xs.length → ∃ b off, A = some ⟨b, off, none⟩ ∧ b < B ∧ ∀ (j : Nat) (v : Value), xs[j]? = some v → w.cell? ⟨b, off + j, none⟩ = some v
def u8v (c : UInt8) : Value := .int .u8 (c.toNat : Int)
/-- The slice that begins at A has the bytes l. -/
def Bytes (w : World) (B : Nat) (A : Option Addr) (l : List UInt8) : Prop := Cells w B A (l.map u8v)

theorem Cells.up {w : World} {B B' : Nat} {A : Option Addr} {xs : List Value} (h : Cells w B A xs) (hB : B ≤ B') : Cells w B' A xs := fun hl => by
  obtain ⟨b, off, e, hb, hc⟩ := h hl
  exact ⟨b, off, e, by omega, hc⟩
theorem Cells.keep {w w' : World} {B : Nat} {A : Option Addr} {xs : List Value} (h : Cells w B A xs) (hk : ∀ p : Addr, p.block < B → w'.cell? p = w.cell? p) : Cells w' B A xs := fun hl => by
  obtain ⟨b, off, e, hb, hc⟩ := h hl
  exact ⟨b, off, e, hb, fun j v hv => (hk _ hb).trans (hc j v hv)⟩
theorem Cells.below {w w' : World} {B : Nat} {A : Option Addr} {xs : List Value} (h : Cells w B A xs) (hb : Below B w w') : Cells w' B A xs := h.keep fun _ hp => hb.cell hp
theorem Cells.nil {w : World} {B : Nat} {A : Option Addr} : Cells w B A [] := fun h => absurd h (by simp)
theorem Cells.at_ {w : World} {B : Nat} {A : Option Addr} {xs : List Value} (h : Cells w B A xs) {k : Nat} (hk : k < xs.length) :
    ∃ b off, A = some ⟨b, off, none⟩ ∧ b < B ∧ w.cell? ⟨b, off + k, none⟩ = some xs[k] := by
  obtain ⟨b, off, e, hb, hc⟩ := h (by omega)
  exact ⟨b, off, e, hb, hc k _ (List.getElem?_eq_getElem hk)⟩

theorem Cells.take {w : World} {B : Nat} {A : Option Addr} {xs : List Value} (h : Cells w B A xs) (n : Nat) : Cells w B A (xs.take n) := fun hl => by
  obtain ⟨b, off, e, hb, hc⟩ := h (by simp at hl; omega)
  refine ⟨b, off, e, hb, fun j v hv => hc j v ?_⟩
  rw [List.getElem?_take] at hv
  split at hv
  · exact hv
  · cases hv
theorem Cells.drop {w : World} {B b off : Nat} {xs : List Value} (h : Cells w B (some ⟨b, off, none⟩) xs) (n : Nat) : Cells w B (some ⟨b, off + n, none⟩) (xs.drop n) := fun hl => by
  obtain ⟨b', off', e, hb, hc⟩ := h (by simp at hl; omega)
  injection e with e; injection e with e1 e2; subst e1; subst e2
  refine ⟨b, off + n, rfl, hb, fun j v hv => ?_⟩
  rw [List.getElem?_drop] at hv
  rw [Nat.add_assoc]; exact hc _ v hv
theorem Bytes.take {w : World} {B : Nat} {A : Option Addr} {l : List UInt8} (h : Bytes w B A l) (n : Nat) : Bytes w B A (l.take n) := by
  unfold Bytes; rw [List.map_take]; exact Cells.take h n
theorem Bytes.drop {w : World} {B b off : Nat} {l : List UInt8} (h : Bytes w B (some ⟨b, off, none⟩) l) (n : Nat) : Bytes w B (some ⟨b, off + n, none⟩) (l.drop n) := by
  unfold Bytes; rw [List.map_drop]; exact Cells.drop h n
/-- A slice expression of a row, as the model writes its address. -/
theorem Bytes.cut {w : World} {B g : Nat} {A : Option Addr} {l : List UInt8} (h : Bytes w B A l) (hA : ∀ a, A = some a → a = ⟨g, 0, none⟩) (k n : Nat) : Bytes w B (if k + n = k then A else A.map (·.add k)) ((l.drop k).take n) := by
  by_cases hn : n = 0
  · subst hn; rw [List.take_zero]; exact Cells.nil
  · rw [if_neg (by omega)]
    cases A with
    | none =>
      have : l = [] := by
        rcases l with _ | ⟨x, r⟩
        · rfl
        · obtain ⟨b, off, h, _⟩ := h (by simp)
          cases h
      subst this; simp; exact Cells.nil
    | some a =>
      obtain rfl := hA a rfl
      have h2 := (h.drop k).take n
      rw [Nat.zero_add] at h2
      have e : Option.map (fun x : Addr => x.add k) (some (⟨g, 0, none⟩ : Addr)) = some ⟨g, k, none⟩ := by
        simp only [Option.map_some, Addr.add]
        split
        · rename_i h0; subst h0; rfl
        · rw [Nat.zero_add]
      rw [e]; exact h2
theorem Bytes.up {w : World} {B B' : Nat} {A : Option Addr} {l : List UInt8} (h : Bytes w B A l) (hB : B ≤ B') : Bytes w B' A l := Cells.up h hB
theorem Bytes.below {w w' : World} {B : Nat} {A : Option Addr} {l : List UInt8} (h : Bytes w B A l) (hb : Below B w w') : Bytes w' B A l := Cells.below h hb
theorem Bytes.nil {w : World} {B : Nat} {A : Option Addr} : Bytes w B A [] := Cells.nil
theorem Bytes.at_ {w : World} {B : Nat} {A : Option Addr} {l : List UInt8} (h : Bytes w B A l) {k : Nat} (hk : k < l.length) :
    ∃ b off, A = some ⟨b, off, none⟩ ∧ b < B ∧ w.cell? ⟨b, off + k, none⟩ = some (.int .u8 (l[k].toNat : Int)) := by
  obtain ⟨b, off, e, hb, hc⟩ := Cells.at_ h (k := k) (by simpa using hk)
  exact ⟨b, off, e, hb, by simpa [u8v] using hc⟩
theorem new_heap (w : World) (o : Obj) : (w.alloc o).heap[w.heap.size]? = some o := by
  show (w.heap.push o)[w.heap.size]? = _
  simp
theorem new_cell (w : World) (cs : Array Value) (T : TypeId) (fz : Nat × Nat) (j : Nat) : (w.alloc (.cells cs T fz)).cell? ⟨w.heap.size, j, none⟩ = cs[j]? := by
  unfold World.cell?
  rw [new_heap]; rfl
/-- The bytes of a new block. -/
theorem Bytes.new (w : World) (l : List UInt8) (T : TypeId) (fz : Nat × Nat) (cs : Array Value) (h : cs.toList = l.map u8v) (B : Nat) (hB : w.heap.size < B) : Bytes (w.alloc (.cells cs T fz)) B (some ⟨w.heap.size, 0, none⟩) l := fun _ =>
  ⟨w.heap.size, 0, rfl, hB, fun j v hv => by rw [new_cell, ← hv, ← h, Nat.zero_add, Array.getElem?_toList]⟩
theorem cells_one (w : World) (v : Value) (T : TypeId) (B : Nat) (hB : w.heap.size < B) : Cells (w.alloc (.cells #[v] T)) B (some ⟨w.heap.size, 0, none⟩) [v] := fun _ =>
  ⟨w.heap.size, 0, rfl, hB, fun j u hu => by
    rw [new_cell, ← hu, Nat.zero_add, ← Array.getElem?_toList]⟩
/-- A store into the newest block, behind draws. -/
theorem setCell_new (w : World) (cs : Array Value) (T : TypeId) (n k : Nat) (v : Value) :
    ((w.alloc (.cells cs T)).drewN n).setCell ⟨w.heap.size, k, none⟩ v = (w.alloc (.cells (cs.setIfInBounds k v) T)).drewN n := by
  have hh : (w.heap.push (Obj.cells cs T)).modify w.heap.size (fun
      | .cells c elem frozen => .cells (if (none : Option Nat).isSome then c else c.setIfInBounds k v) elem frozen
      | o => o) = w.heap.push (Obj.cells (cs.setIfInBounds k v) T) := by
    apply Array.ext_getElem?
    intro i
    rw [Array.getElem?_modify, Array.getElem?_push, Array.getElem?_push]
    by_cases h : w.heap.size = i
    · subst h; simp
    · have h' : ¬ i = w.heap.size := fun e => h e.symm
      rw [if_neg h, if_neg h', if_neg h']
  show ({ w with heap := (w.heap.push (Obj.cells cs T)).modify w.heap.size _, drawn := w.drawn + n } : World) = { w with heap := w.heap.push (Obj.cells (cs.setIfInBounds k v) T), drawn := w.drawn + n }
  exact congrArg (fun h => ({ w with heap := h, drawn := w.drawn + n } : World)) hh
end Go.Proofs.Ythdapoipfnnaeaa.Mem
/- Rows of the call's own: append to them from any slice, read them, write to them; texts and bytes turned into one another. Laws for the walk. -/
namespace Go.Proofs.Ythdapoipfnnaeaa.Mem
open Go.RowKit Go.Lib

/-- The slice that begins at A has the values xs, in a row of the call's own (a block from base on), with room for c. -/
def Own (w : World) (base : Nat) (T : TypeId) (A : Option Addr) (c : Nat) (xs : List Value) : Prop := w.ownsRow base T 1 (.slice A xs.length c) xs.length xs

section
variable {w w' : World} {base : Nat} {T : TypeId} {A : Option Addr} {c : Nat} {xs : List Value}
theorem Own.nil : Own w base T none 0 [] := World.ownsRow_nil w base T 1
theorem Own.form (h : Own w base T A c xs) : (A = none ∧ c = 0 ∧ xs = []) ∨ ∃ g, A = some ⟨g, 0, none⟩ ∧ base ≤ g ∧ g < w.heap.size ∧ xs.length ≤ c ∧ c ≤ maxLen := by
  rcases h.2 with ⟨hv, hn⟩ | ⟨g, cap, cur, hv, hb, hg, hn, hm, _⟩
  · injection hv with h1 _ h3
    exact .inl ⟨h1, h3, List.eq_nil_of_length_eq_zero hn⟩
  · injection hv with h1 _ h3
    subst h3
    exact .inr ⟨g, h1, hb, (Array.getElem?_eq_some_iff.1 hg).1, hn, hm⟩
theorem Own.cells (h : Own w base T A c xs) : Cells w w.heap.size A xs := fun hl => by
  rcases h.form with ⟨_, _, rfl⟩ | ⟨g, rfl, _, hg, _⟩
  · simp at hl
  · refine ⟨g, 0, rfl, hg, fun j v hv => ?_⟩
    have := World.ownsRow.cells (g := g) h rfl j v hv
    rwa [Addr.add_lit] at this
theorem Own.le (h : Own w base T A c xs) : xs.length ≤ c := by
  rcases h.form with ⟨_, rfl, rfl⟩ | ⟨g, _, _, _, h, _⟩
  · exact Nat.le_refl _
  · exact h
theorem Own.max (h : Own w base T A c xs) : c ≤ maxLen := by
  rcases h.form with ⟨_, rfl, _⟩ | ⟨g, _, _, _, _, h⟩
  · exact Nat.zero_le _
  · exact h
theorem Own.keep (h : Own w base T A c xs) (hb : Below w.heap.size w w') : Own w' base T A c xs :=
  World.ownsRow.kept (row := none) h ⟨hb.os, hb.tape, hb.output, hb.size, fun k hk _ => hb.block k hk⟩ (by cases hv : Value.ownBlock (.slice A xs.length c) <;> simp)
theorem Own.grown (h : Own w base T A c xs) {row : Option Nat} (hg : w.grownBy w' row) (hne : ∀ g, A = some ⟨g, 0, none⟩ → some g ≠ row) : Own w' base T A c xs := by
  refine World.ownsRow.kept h hg ?_
  rcases h.form with ⟨rfl, _⟩ | ⟨g, rfl, _⟩
  · exact .inl rfl
  · exact .inr (hne g rfl)
theorem Own.alloc (h : Own w base T A c xs) (o : Obj) : Own (w.alloc o) base T A c xs := World.ownsRow.alloc h o
theorem Own.drewN (h : Own w base T A c xs) (n : Nat) : Own (w.drewN n) base T A c xs := h
theorem Own.take (h : Own w base T A c xs) (k : Nat) : Own w base T A c (xs.take k) := by
  rcases h.2 with ⟨hv, hn⟩ | ⟨g, cap, cur, hv, hg, hh, hle, hm, hs, ht⟩
  · injection hv with h1 _ h3
    have hx : xs = [] := List.eq_nil_of_length_eq_zero hn
    subst hx; subst h1; subst h3
    rw [List.take_nil]; exact World.ownsRow_nil w base T 1
  · injection hv with h1 _ h3
    refine ⟨by simp, .inr ⟨g, cap, cur, by rw [h1, h3], hg, hh, ?_, hm, hs, ?_⟩⟩
    · rw [List.length_take]; omega
    · rw [Nat.mul_one] at ht ⊢
      rw [List.length_take]
      conv => rhs; rw [← ht]
      rw [List.take_take]
theorem Own.set_far (h : Own w base T A c xs) {p : Addr} {u : Value} (hp : ∀ g, A = some ⟨g, 0, none⟩ → p.block ≠ g) : Own (w.setCell p u) base T A c xs := by
  refine ⟨h.1, ?_⟩
  rcases h.2 with h2 | ⟨g, cap, cur, hv, hg, hh, r⟩
  · exact .inl h2
  · refine .inr ⟨g, cap, cur, hv, hg, ?_, r⟩
    injection hv with h1 _ _
    exact (Below.heap_setCell w p u g (fun e => hp g h1 e.symm)).trans hh
theorem Own.down {base' : Nat} (h : Own w base T A c xs) (hb : base' ≤ base) : Own w base' T A c xs := by
  refine ⟨h.1, ?_⟩
  rcases h.2 with h2 | ⟨g, cap, cur, hv, hg, r⟩
  · exact .inl h2
  · exact .inr ⟨g, cap, cur, hv, by omega, r⟩
/-- What a store asks of a cell of the row. -/
theorem Own.at_ (h : Own w base T A c xs) {k : Nat} (hk : k < xs.length) :
    ∃ g, A = some ⟨g, 0, none⟩ ∧ base ≤ g ∧ g < w.heap.size ∧ w.cell? ⟨g, k, none⟩ = some xs[k] ∧ w.frozen? ⟨g, k, none⟩ = false ∧ ∀ u : Value, Own (w.setCell ⟨g, k, none⟩ u) base T A c (xs.set k u) := by
  rcases h.2 with ⟨_, hn⟩ | ⟨g, cap, cur, hv, hb, hg, hn, hm, hcs, ht⟩
  · omega
  · injection hv with h1 _ h3
    subst h3
    have hlt := (Array.getElem?_eq_some_iff.1 hg).1
    have hcell : w.cell? ⟨g, k, none⟩ = some xs[k] := by
      have := World.ownsRow.cells (g := g) h (by rw [h1]; rfl) k xs[k] (List.getElem?_eq_getElem hk)
      rwa [Addr.add_lit, Nat.zero_add] at this
    refine ⟨g, h1, hb, hlt, hcell, by simp [World.frozen?, hg], fun u => ⟨by simp, .inr ⟨g, c, cur.setIfInBounds k u, by rw [h1], hb, ?_, by simpa using hn, hm, by simpa using hcs, ?_⟩⟩⟩
    · simp [World.setCell, Array.getElem?_modify, hg]
    · rw [List.length_set, Array.toList_setIfInBounds]
      have hl : xs.length * 1 = xs.length := Nat.mul_one _
      rw [hl] at ht ⊢
      rw [List.take_set, ht]
end
theorem Own.bytes {w : World} {base : Nat} {T : TypeId} {A : Option Addr} {c : Nat} {l : List UInt8} (h : Own w base T A c (l.map u8v)) : Bytes w w.heap.size A l := Own.cells h
theorem own_set {w : World} {base g c k : Nat} {T : TypeId} {l : List UInt8} (h : Own w base T (some ⟨g, 0, none⟩) c (l.map u8v)) (hk : k < l.length) (v : Int) (x : UInt8) (hv : v = (x.toNat : Int)) :
    Own (w.setCell ⟨g, k, none⟩ (.int .u8 v)) base T (some ⟨g, 0, none⟩) c ((l.set k x).map u8v) := by
  subst hv
  obtain ⟨g', hq, _, _, _, _, hu⟩ := h.at_ (k := k) (by simpa using hk)
  injection hq with hq; injection hq with hq; subst hq
  rw [List.map_set]; exact hu (u8v x)
theorem own_far {w : World} {base g c : Nat} {T : TypeId} {xs : List Value} (h : Own w base T (some ⟨g, 0, none⟩) c xs) {p : Addr} (hp : p.block ≠ g) (u : Value) : Own (w.setCell p u) base T (some ⟨g, 0, none⟩) c xs :=
  h.set_far fun g' hq => by injection hq with hq; injection hq with hq; subst hq; exact hp
theorem own_made (w : World) (cs : Array Value) (T : TypeId) (hm : cs.size ≤ maxLen) {base : Nat} (hb : base ≤ w.heap.size) : Own (w.alloc (.cells cs T)) base T (some ⟨w.heap.size, 0, none⟩) cs.size cs.toList :=
  ⟨by simp, .inr ⟨w.heap.size, cs.size, cs, by simp, hb, new_heap w _, by simp, hm, by simp, by simp [List.take_of_length_le]⟩⟩
theorem u8v_one {l : List UInt8} : ∀ u ∈ l.map u8v, u.oneCell' = true := by
  intro u hu
  obtain ⟨_, _, rfl⟩ := List.mem_map.1 hu
  rfl

section
variable {P : Program} (w : World)
/-- append, whatever the source: nil, empty or not. -/
theorem run_app (base : Nat) (t ty e : TypeId) (i : TypeInfo) (z : Value) (bytes : Nat) (ht : P.underlying t = some (.slice e)) (hi : P.info? e = some i) (hz : i.zero = some z)
    (hsize : i.size = 1) (hby : i.bytes = bytes) (hzs : z.cells.size = 1)
    (A : Option Addr) (c : Nat) (xs : List Value) (hown : Own w base e A c xs) (B : Nat) (S : Option Addr) (d : Nat) (news : List Value) (hn : Cells w B S news) (h1 : ∀ u ∈ news, u.oneCell' = true)
    (h63 : xs.length + news.length ≤ maxLen) (hbytes : (xs.length + news.length) * bytes ≤ 140737488355328) (hbase : base ≤ w.heap.size) :
    ∃ A' c' w', (Builtin.append_ #[t, t] ty #[.slice A xs.length c, .slice S news.length d]).run P w = .ok (.slice A' (xs.length + news.length) c') w' ∧ Own w' base e A' c' (xs ++ news) ∧ w.grownBy w' (Value.ownBlock (.slice A xs.length c)) ∧
      (A' = A ∨ A' = some ⟨w.heap.size, 0, none⟩) := by
  by_cases hl : 0 < news.length
  · obtain ⟨b, off, rfl, _, hc⟩ := hn hl
    obtain ⟨v', w', hrun, h2, h3, _, h5⟩ := run_append_own_at (P := P) w base t ty e i z 1 bytes ht hi hz hsize hby hzs (by omega) _ xs.length xs hown ⟨b, off, none⟩ news.length d news (by simp) (fun j u hu => by rw [Addr.add_lit]; exact hc j u hu) h1 h63 hbytes hbase
    rcases h2.2 with ⟨rfl, hz⟩ | ⟨g, cap, cur, rfl, r⟩
    · omega
    · refine ⟨_, _, w', hrun, by unfold Own; rw [List.length_append]; exact h2, h3, ?_⟩
      rcases h5 with h5 | h5
      · rcases hown.form with ⟨rfl, _, _⟩ | ⟨g', rfl, _⟩
        · simp [Value.ownBlock] at h5
        · left; simp [Value.ownBlock] at h5; rw [h5]
      · right; simp [Value.ownBlock] at h5; rw [h5]
  · have hz : news = [] := List.eq_nil_of_length_eq_zero (by omega)
    subst hz
    refine ⟨A, c, w, ?_, by simpa using hown, World.grownBy.refl w _, .inl rfl⟩
    rcases hown.form with ⟨rfl, rfl, rfl⟩ | ⟨g, rfl, _, _, hle, _⟩
    · cases S <;> simp [Builtin.append_, run_underlying ht, sizeOf, typeInfo, hi, Builtin.lenOf, Builtin.firstCells, loadCells, loadCellsFrom]
    · cases S <;> simp [Builtin.append_, run_underlying ht, sizeOf, typeInfo, hi, Builtin.lenOf, Builtin.firstCells, loadCells, loadCellsFrom, hle, storeCells]
theorem ownBlock_eq (A : Option Addr) (n c : Nat) : Value.ownBlock (.slice A n c) = A.map (·.block) := by cases A <;> rfl
theorem below_of_app {w w' : World} {base : Nat} {e : TypeId} {A : Option Addr} {c : Nat} {xs : List Value} (h : Own w base e A c xs) (hg : w.grownBy w' (A.map (·.block))) (hb : base ≤ w.heap.size) : Below base w w' :=
  (Below.refl base w).grown hg hb fun k hk => by
    rcases h.form with ⟨rfl, _⟩ | ⟨g, rfl, hbg, _⟩
    · cases hk
    · simp at hk; omega
theorem wp_app {o : Oper} {a : Act} {K : Act → World → Prop} {Q : Exit → Act → World → Prop} (s x : Operand) (t : TypeId)
    (ho : o.op = .call { callee := .builtin .append, args := #[s, x], argTypes := #[t, t] })
    (base : Nat) (e : TypeId) (i : TypeInfo) (z : Value) (bytes : Nat) (ht : P.underlying t = some (.slice e)) (hi : P.info? e = some i) (hz : i.zero = some z)
    (hsize : i.size = 1) (hby : i.bytes = bytes) (hzs : z.cells.size = 1)
    (A : Option Addr) (c n : Nat) (xs : List Value) (hs : a.eval s = .slice A n c) (hnl : n = xs.length) (hown : Own w base e A c xs) (B : Nat) (S : Option Addr) (d m : Nat) (news : List Value) (hx : a.eval x = .slice S m d) (hm : m = news.length) (hn : Cells w B S news) (h1 : ∀ u ∈ news, u.oneCell' = true)
    (h63 : xs.length + news.length ≤ maxLen) (hbytes : (xs.length + news.length) * bytes ≤ 140737488355328) (hbase : base ≤ w.heap.size)
    (h : ∀ A' c' w', Own w' base e A' c' (xs ++ news) → Below base w w' → w.grownBy w' (A.map (·.block)) → (A' = A ∨ A' = some ⟨w.heap.size, 0, none⟩) → K (a.put o.dst (.slice A' (n + m) c')) w') : o.wp P a w K Q := by
  subst hnl; subst hm
  obtain ⟨A', c', w', hrun, h2, h3, h4⟩ := run_app (P := P) w base t o.type e i z bytes ht hi hz hsize hby hzs A c xs hown B S d news hn h1 h63 hbytes hbase
  rw [ownBlock_eq] at h3
  unfold Oper.wp execOp
  simp only [ho, resolve, invoke, builtin, Sem.run_bind, Sem.run_pure, Result.andThen_ok, List.map_toArray, List.map_cons, List.map_nil, hs, hx, hrun]
  exact h A' c' w' h2 (below_of_app hown h3 hbase) h3 h4
/-- The walk's law for append; N: the new length, spelled as it shall stand. -/
theorem wpList_app {ops : Array Oper} {rest : List Oper} {o : Oper} {a : Act} {Q : Exit → Act → World → Prop} (hgd : o.guard = none) (s x : Operand) (t : TypeId)
    (ho : o.op = .call { callee := .builtin .append, args := #[s, x], argTypes := #[t, t] })
    (base : Nat) (e : TypeId) (i : TypeInfo) (z : Value) (bytes : Nat) (ht : P.underlying t = some (.slice e)) (hi : P.info? e = some i) (hz : i.zero = some z)
    (hsize : i.size = 1) (hby : i.bytes = bytes) (hzs : z.cells.size = 1)
    (A : Option Addr) (c n : Nat) (xs : List Value) (hs : a.eval s = .slice A n c) (hnl : n = xs.length) (hown : Own w base e A c xs) (B : Nat) (S : Option Addr) (d m : Nat) (news : List Value) (hx : a.eval x = .slice S m d) (hm : m = news.length) (hn : Cells w B S news) (h1 : ∀ u ∈ news, u.oneCell' = true)
    (h63 : xs.length + news.length ≤ maxLen) (hbytes : (xs.length + news.length) * bytes ≤ 140737488355328) (hbase : base ≤ w.heap.size) (N : Nat) (hN : N = n + m)
    (h : ∀ A' c' w', Own w' base e A' c' (xs ++ news) → Below base w w' → w.grownBy w' (A.map (·.block)) → (A' = A ∨ A' = some ⟨w.heap.size, 0, none⟩) → wpList P ops Q rest (a.put o.dst (.slice A' N c')) w') : wpList P ops Q (o :: rest) a w := by
  subst hN
  exact wpList_plain hgd fun _ hK => wp_app w s x t ho base e i z bytes ht hi hz hsize hby hzs A c n xs hs hnl hown B S d m news hx hm hn h1 h63 hbytes hbase fun A' c' w' h2 h3 h4 h5 => hK _ _ (h A' c' w' h2 h3 h4 h5)

/-- Bytes as a text. -/
def str (l : List UInt8) : ByteArray := ⟨l.toArray⟩
theorem str_list (l : List UInt8) : (str l).data.toList = l := rfl
theorem str_size (l : List UInt8) : (str l).size = l.length := rfl
theorem str_toList (l : List UInt8) : (str l).toList = l := ByteArray.toList_eq _
theorem str_inj {l r : List UInt8} : str l = str r ↔ l = r := ⟨fun h => by have := congrArg (fun s : ByteArray => s.data.toList) h; exact this, congrArg _⟩
theorem str_eq (s : ByteArray) : str s.data.toList = s := rfl
theorem run_str (src e : TypeId) (hs : P.underlying src = some (.slice e)) (he : P.underlying e = some (.int .u8)) {B : Nat} {A : Option Addr} {l : List UInt8} (h : Bytes w B A l) (c : Nat) (dst : TypeId) (hd : P.underlying dst = some .string) :
    (convert src dst (.slice A l.length c)).run P w = .ok (.string (str l)) w := by
  by_cases hl : 0 < l.length
  · obtain ⟨b, off, rfl, _, hc⟩ := h (by simpa using hl)
    rw [run_convert_bytes_arg w src e hs he b off l.length c (l.map fun c => (c.toNat : Int)) (by simp) (fun i hi => by
      rw [hc i (u8v l[i]) (by simp [hi])]; simp [u8v, hi]) dst hd]
    have : strOfNums (l.map fun c => (c.toNat : Int)) = str l := by
      have h2 : (strOfNums (l.map fun c => (c.toNat : Int))).data.toList = (str l).data.toList := by
        rw [strOfNums_data, str_list, List.map_map]
        conv => rhs; rw [← List.map_id l]
        apply List.map_congr_left
        intro c _; simp
      rw [← str_eq (strOfNums _), h2]; rfl
    rw [this]
  · have hz : l = [] := List.eq_nil_of_length_eq_zero (by omega)
    subst hz
    cases A with
    | none => exact run_convert_bytes_nil w src e hs he 0 c dst hd
    | some a =>
      rw [run_convert_bytes_string w src dst e _ _ c hs he hd]
      simp [Conv.bytesToString, loadCells, loadCellsFrom]
      rfl
end

/-- The slice that begins at A has the values xs, in a block from base on that may be written there. -/
def Row (w : World) (base : Nat) (A : Option Addr) (xs : List Value) : Prop :=
  0 < xs.length → ∃ g cur T fz, A = some ⟨g, 0, none⟩ ∧ base ≤ g ∧ w.heap[g]? = some (.cells cur T fz) ∧ (fz = (0, 0) ∨ cur.size ≤ fz.1) ∧ cur.toList.take xs.length = xs
section
variable {w w' : World} {base : Nat} {T : TypeId} {A : Option Addr} {c : Nat} {xs : List Value}
theorem Own.row (h : Own w base T A c xs) : Row w base A xs := fun hl => by
  rcases h.2 with ⟨_, hn⟩ | ⟨g, cap, cur, hv, hb, hg, hn, hm, hcs, ht⟩
  · omega
  · injection hv with h1 _ h3
    exact ⟨g, cur, T, (0, 0), h1, hb, hg, .inl rfl, by rwa [Nat.mul_one] at ht⟩
theorem Row.down {base' : Nat} (h : Row w base A xs) (hb : base' ≤ base) : Row w base' A xs := fun hl => by
  obtain ⟨g, cur, T, fz, e, hg, r⟩ := h hl
  exact ⟨g, cur, T, fz, e, by omega, r⟩
theorem Row.keep (h : Row w base A xs) (hb : Below w.heap.size w w') : Row w' base A xs := fun hl => by
  obtain ⟨g, cur, T, fz, e, hg, hh, r⟩ := h hl
  exact ⟨g, cur, T, fz, e, hg, (hb.block g (Array.getElem?_eq_some_iff.1 hh).1).trans hh, r⟩
theorem Row.cells (h : Row w base A xs) : Cells w w.heap.size A xs := fun hl => by
  obtain ⟨g, cur, T, fz, e, hg, hh, _, ht⟩ := h hl
  refine ⟨g, 0, e, (Array.getElem?_eq_some_iff.1 hh).1, fun j v hv => ?_⟩
  have hj : j < xs.length := (List.getElem?_eq_some_iff.1 hv).1
  rw [Nat.zero_add]
  unfold World.cell?
  rw [hh]
  show (if (none : Option Nat).isSome then none else cur[j]?) = some v
  rw [if_neg (by simp), ← Array.getElem?_toList, ← hv]
  conv => rhs; rw [← ht]
  rw [List.getElem?_take, if_pos hj]
theorem Row.at_ (h : Row w base A xs) {k : Nat} (hk : k < xs.length) :
    ∃ g, A = some ⟨g, 0, none⟩ ∧ base ≤ g ∧ g < w.heap.size ∧ w.cell? ⟨g, k, none⟩ = some xs[k] ∧ w.frozen? ⟨g, k, none⟩ = false ∧ ∀ u : Value, Row (w.setCell ⟨g, k, none⟩ u) base A (xs.set k u) := by
  have hc := h.cells
  obtain ⟨g, cur, T, fz, e, hg, hh, hf, ht⟩ := h (by omega)
  have hcur : k < cur.size := by
    have := congrArg List.length ht
    simp at this
    omega
  obtain ⟨b, off, e2, _, hcell⟩ := hc (by omega)
  have : some (⟨g, 0, none⟩ : Addr) = some ⟨b, off, none⟩ := e.symm.trans e2
  injection this with this
  injection this with hb ho
  subst hb; subst ho
  refine ⟨g, e, hg, (Array.getElem?_eq_some_iff.1 hh).1, by simpa using hcell k xs[k] (List.getElem?_eq_getElem hk), ?_, fun u hl => ?_⟩
  · unfold World.frozen?
    rw [hh]
    obtain ⟨lo, hi⟩ := fz
    rcases hf with hf | hf
    · injection hf with h1 h2; subst h1; subst h2; simp
    · simp at hf ⊢; omega
  · refine ⟨g, cur.setIfInBounds k u, T, fz, e, hg, ?_, ?_, ?_⟩
    · simp [World.setCell, Array.getElem?_modify, hh]
    · simpa using hf
    · rw [List.length_set, Array.toList_setIfInBounds, List.take_set, ht]
theorem Row.set_far (h : Row w base A xs) {p : Addr} {u : Value} (hp : ∀ g, A = some ⟨g, 0, none⟩ → p.block ≠ g) : Row (w.setCell p u) base A xs := fun hl => by
  obtain ⟨g, cur, T, fz, e, hg, hh, r⟩ := h hl
  exact ⟨g, cur, T, fz, e, hg, (Below.heap_setCell w p u g (fun e2 => hp g e e2.symm)).trans hh, r⟩
end

section
variable {P : Program} (w : World)
theorem bytesWorld_below (e : TypeId) (s : ByteArray) : Below w.heap.size w (bytesWorld w e s) := by
  refine ⟨?_, ?_, ?_, by rw [bytesWorld_size]; omega, fun k hk => bytesWorld_at_old w e s k hk⟩ <;>
    (unfold bytesWorld World.freeze; rw [if_neg (by decide)]; rfl)
theorem bytesWorld_row (e : TypeId) (l : List UInt8) : Row (bytesWorld w e (str l)) w.heap.size (some ⟨w.heap.size, 0, none⟩) (l.map u8v) := fun hl =>
  ⟨w.heap.size, _, e, _, rfl, Nat.le_refl _, bytesWorld_at_new w e (str l), .inr (Nat.le_refl _), by
    rw [bytesCells, Array.toList_append, List.take_append_of_le_length (by simp [str])]
    simp [str, u8v, List.take_of_length_le]⟩
theorem wp_bytesOf {o : Oper} {a : Act} {K : Act → World → Prop} {Q : Exit → Act → World → Prop} (src dst : TypeId) (x : Operand) (ho : o.op = .convert src dst x) (e : TypeId) {u : TypeDesc}
    (hs : P.underlying src = some u) (hd : P.underlying dst = some (.slice e)) (he : P.underlying e = some (.int .u8)) (l : List UInt8) (hx : a.eval x = .string (str l))
    (h : ∀ c' w', l.length ≤ c' → Row w' w.heap.size (some ⟨w.heap.size, 0, none⟩) (l.map u8v) → Below w.heap.size w w' → w'.heap.size = w.heap.size + 1 → K (a.put o.dst (.slice (some ⟨w.heap.size, 0, none⟩) l.length c')) w') : o.wp P a w K Q := by
  have hrun := run_convert_string_bytes (P := P) w src dst e (str l) hs hd he
  unfold Oper.wp execOp
  simp only [ho, Sem.run_bind, Sem.run_pure, Result.andThen_ok, hx, hrun]
  exact h _ _ (grownCap_ge w l.length 0 e) (bytesWorld_row w e l) (bytesWorld_below w e (str l)) (bytesWorld_size w e (str l))
/-- The walk's law for a text turned into bytes. -/
theorem wpList_bytesOf {ops : Array Oper} {rest : List Oper} {o : Oper} {a : Act} {Q : Exit → Act → World → Prop} (hgd : Region.wanted o (yielded ops a.tmps) = true) (src dst : TypeId) (x : Operand) (ho : o.op = .convert src dst x) (e : TypeId) {u : TypeDesc}
    (hs : P.underlying src = some u) (hd : P.underlying dst = some (.slice e)) (he : P.underlying e = some (.int .u8)) (l : List UInt8) (hx : a.eval x = .string (str l))
    (h : ∀ c' w', l.length ≤ c' → Row w' w.heap.size (some ⟨w.heap.size, 0, none⟩) (l.map u8v) → Below w.heap.size w w' → w'.heap.size = w.heap.size + 1 → wpList P ops Q rest (a.put o.dst (.slice (some ⟨w.heap.size, 0, none⟩) l.length c')) w') : wpList P ops Q (o :: rest) a w := by
  refine wpList_step fun K hK => ?_
  rw [if_pos hgd]
  exact wp_bytesOf w src dst x ho e hs hd he l hx fun c' w' h1 h2 h3 h4 => hK _ _ (h c' w' h1 h2 h3 h4)
end
end Go.Proofs.Ythdapoipfnnaeaa.Mem
/- What a call may turn: the blocks of a set, and new ones; nothing else. -/
namespace Go.Proofs.Ythdapoipfnnaeaa.Mem
open Go.RowKit

/-- Of the blocks that were there only those of S may have turned. -/
structure Fr (S : Nat → Prop) (w w' : World) : Prop where
  os : w'.os = w.os
  tape : w'.tape = w.tape
  output : w'.output = w.output
  size : w.heap.size ≤ w'.heap.size
  block : ∀ k, k < w.heap.size → ¬ S k → w'.heap[k]? = w.heap[k]?

section
variable {S S' : Nat → Prop} {w w' w'' : World}
theorem Fr.refl (S : Nat → Prop) (w : World) : Fr S w w := ⟨rfl, rfl, rfl, Nat.le_refl _, fun _ _ _ => rfl⟩
theorem Fr.mono (h : Fr S w w') (hS : ∀ k, k < w.heap.size → S k → S' k) : Fr S' w w' := ⟨h.os, h.tape, h.output, h.size, fun k hk hn => h.block k hk fun hs => hn (hS k hk hs)⟩
/-- Two steps; the second may turn what is new besides. -/
theorem Fr.trans (h : Fr S w w') (k : Fr S' w' w'') (hS : ∀ i, i < w.heap.size → S' i → S i) : Fr S w w'' :=
  ⟨k.os.trans h.os, k.tape.trans h.tape, k.output.trans h.output, Nat.le_trans h.size k.size, fun i hi hn => (k.block i (Nat.lt_of_lt_of_le hi h.size) fun hs => hn (hS i hi hs)).trans (h.block i hi hn)⟩
theorem Fr.of_below {B : Nat} (h : Below B w w') : Fr (fun k => B ≤ k) w w' := ⟨h.os, h.tape, h.output, h.size, fun k _ hn => h.block k (Nat.lt_of_not_le hn)⟩
theorem Fr.quiet (h : Below w.heap.size w w') : Fr S w w' := ⟨h.os, h.tape, h.output, h.size, fun k hk _ => h.block k hk⟩
theorem Fr.below {B : Nat} (h : Fr S w w') (hB : B ≤ w.heap.size) (hS : ∀ k, S k → B ≤ k) : Below B w w' := ⟨h.os, h.tape, h.output, h.size, fun k hk => h.block k (Nat.lt_of_lt_of_le hk hB) fun hs => absurd (hS k hs) (by omega)⟩
theorem Fr.alloc (h : Fr S w w') (o : Obj) : Fr S w (w'.alloc o) := h.trans (Fr.quiet (nextA (start w') o) : Fr S w' _) fun _ _ hs => hs
theorem Fr.drewN (h : Fr S w w') (n : Nat) : Fr S w (w'.drewN n) := ⟨h.os, h.tape, h.output, h.size, h.block⟩
theorem Fr.drew (h : Fr S w w') : Fr S w w'.drew := ⟨h.os, h.tape, h.output, h.size, h.block⟩
theorem Fr.setCell (h : Fr S w w') {p : Addr} (hp : p.block < w.heap.size → S p.block) (u : Value) : Fr S w (w'.setCell p u) :=
  ⟨h.os, h.tape, h.output, by simpa [World.setCell] using h.size, fun k hk hn => (Below.heap_setCell w' p u k (fun e => by subst e; exact hn (hp hk))).trans (h.block k hk hn)⟩
theorem Fr.grown {row : Option Nat} (hg : w.grownBy w' row) (hS : ∀ k, row = some k → S k) : Fr S w w' := ⟨hg.os, hg.tape, hg.output, hg.size, fun k hk hn => hg.block k hk fun e => hn (hS k e.symm)⟩
end

section
variable {S : Nat → Prop} {w w' : World} {base : Nat} {T : TypeId} {A : Option Addr} {c : Nat} {xs : List Value}
theorem Own.fr (h : Own w base T A c xs) (hf : Fr S w w') (hA : ∀ g, A = some ⟨g, 0, none⟩ → ¬ S g) : Own w' base T A c xs := by
  refine ⟨h.1, ?_⟩
  rcases h.2 with h2 | ⟨g, cap, cur, hv, hg, hh, r⟩
  · exact .inl h2
  · refine .inr ⟨g, cap, cur, hv, hg, ?_, r⟩
    injection hv with h1 _ _
    exact (hf.block g (Array.getElem?_eq_some_iff.1 hh).1 (hA g h1)).trans hh
theorem Row.fr (h : Row w base A xs) (hf : Fr S w w') (hA : ∀ g, A = some ⟨g, 0, none⟩ → ¬ S g) : Row w' base A xs := fun hl => by
  obtain ⟨g, cur, T, fz, e, hg, hh, r⟩ := h hl
  exact ⟨g, cur, T, fz, e, hg, (hf.block g (Array.getElem?_eq_some_iff.1 hh).1 (hA g e)).trans hh, r⟩
theorem Cells.fr {B : Nat} (h : Cells w B A xs) (hB : B ≤ w.heap.size) (hf : Fr S w w') (hS : ∀ k, k < B → ¬ S k) : Cells w' B A xs := fun hl => by
  obtain ⟨b, off, e, hb, hc⟩ := h hl
  exact ⟨b, off, e, hb, fun j v hv => (World.cell?_of_block (hf.block b (by omega) (hS b hb))).trans (hc j v hv)⟩
theorem Bytes.fr {B : Nat} {l : List UInt8} (h : Bytes w B A l) (hB : B ≤ w.heap.size) (hf : Fr S w w') (hS : ∀ k, k < B → ¬ S k) : Bytes w' B A l := Cells.fr h hB hf hS

/-- A block that is known whole. -/
def Blk (w : World) (g : Nat) (T : TypeId) (cs : Array Value) : Prop := w.heap[g]? = some (.cells cs T (0, 0))
variable {g : Nat} {cs : Array Value}
theorem Blk.lt (h : Blk w g T cs) : g < w.heap.size := (Array.getElem?_eq_some_iff.1 h).1
theorem Blk.cell (h : Blk w g T cs) (i : Nat) : w.cell? ⟨g, i, none⟩ = cs[i]? := by
  have h' : w.heap[g]? = some (.cells cs T (0, 0)) := h
  unfold World.cell?
  rw [h']; rfl
theorem Blk.frozen (h : Blk w g T cs) (i : Nat) : w.frozen? ⟨g, i, none⟩ = false := by
  have h' : w.heap[g]? = some (.cells cs T (0, 0)) := h
  unfold World.frozen?
  rw [h']; simp
theorem Blk.new (w : World) (T : TypeId) (cs : Array Value) : Blk (w.alloc (.cells cs T)) w.heap.size T cs := new_heap w _
theorem Blk.fr (h : Blk w g T cs) (hf : Fr S w w') (hg : ¬ S g) : Blk w' g T cs := (hf.block g h.lt hg).trans h
theorem Blk.keep (h : Blk w g T cs) (hb : Below w.heap.size w w') : Blk w' g T cs := (hb.block g h.lt).trans h
theorem Blk.alloc (h : Blk w g T cs) (o : Obj) : Blk (w.alloc o) g T cs := h.keep (nextA (start w) o)
theorem Blk.far (h : Blk w g T cs) {p : Addr} (hp : p.block ≠ g) (u : Value) : Blk (w.setCell p u) g T cs := (Below.heap_setCell w p u g (fun e => hp e.symm)).trans h
theorem Blk.set_ (h : Blk w g T cs) (i : Nat) (u : Value) : Blk (w.setCell ⟨g, i, none⟩ u) g T (cs.setIfInBounds i u) := by
  have h' : w.heap[g]? = some (.cells cs T (0, 0)) := h
  show (w.setCell ⟨g, i, none⟩ u).heap[g]? = _
  simp [World.setCell, Array.getElem?_modify, h']
theorem Blk.ne_own (h : Blk w g T cs) {base' : Nat} {T' : TypeId} {A' : Option Addr} {c' : Nat} {ys : List Value} (ho : Own w base' T' A' c' ys) (hT : T ≠ T') : ∀ g', A' = some ⟨g', 0, none⟩ → g' ≠ g := by
  intro g' e1 e2
  subst e2
  have h' : w.heap[g']? = some (.cells cs T (0, 0)) := h
  rcases ho.2 with ⟨hv, _⟩ | ⟨g2, cap, cur, hv, _, hh, _⟩
  · injection hv with hv; rw [e1] at hv; cases hv
  · injection hv with hv _ _
    rw [e1] at hv
    injection hv with hv; injection hv with hv
    subst hv
    rw [h'] at hh
    injection hh with hh; injection hh with _ hh
    exact hT hh
/-- What an append to another row leaves. -/
theorem Blk.app (h : Blk w g T cs) {base' : Nat} {T' : TypeId} {A' : Option Addr} {c' : Nat} {ys : List Value} (ho : Own w base' T' A' c' ys) (hT : T ≠ T') (hg : w.grownBy w' (A'.map (·.block))) : Blk w' g T cs := by
  refine (hg.block g h.lt ?_).trans h
  intro e
  rcases ho.form with ⟨rfl, _⟩ | ⟨g', rfl, _⟩
  · cases e
  · exact h.ne_own ho hT g' rfl (by injection e with e; exact e.symm)
end
end Go.Proofs.Ythdapoipfnnaeaa.Mem
/- A range over a function value, at no fence: what a round may turn; what abides the loop's own book-keeping. -/
namespace Go.Proofs.Ythdapoipfnnaeaa.Rng
open Go.RowKit Go.Shelf Mem

/-- What a round may turn: the blocks of T, and those from N1 on. -/
def Kp (T : Nat → Prop) (N1 : Nat) (W W' : World) : Prop := Fr (fun k => T k ∨ N1 ≤ k) W W'
/-- Nothing turned but blocks from B on that hold no cells. -/
def Still (B : Nat) (W W' : World) : Prop := Fr (fun k => B ≤ k ∧ ∃ o, W.heap[k]? = some o ∧ o.isCells = false) W W'
section
variable {B : Nat} {W W' : World}
theorem Still.of_grown {row : Option Nat} (hg : W.grownBy W' row) (hr : ∀ r, row = some r → B ≤ r ∧ ∃ o : Obj, W.heap[r]? = some o ∧ o.isCells = false) : Still B W W' := Fr.grown hg hr
theorem Still.block (h : Still B W W') {k : Nat} {cs : Array Value} {T : TypeId} {fz : Nat × Nat} (hk : W.heap[k]? = some (.cells cs T fz)) : W'.heap[k]? = some (.cells cs T fz) :=
  (Fr.block h k (Array.getElem?_eq_some_iff.1 hk).1 (fun ⟨_, o, ho, hc⟩ => by rw [hk] at ho; injection ho with ho; subst ho; simp [Obj.isCells] at hc)).trans hk
theorem Still.cell (h : Still B W W') {a : Addr} {v : Value} (hc : W.cell? a = some v) : W'.cell? a = some v := by
  obtain ⟨o, ho, hcs⟩ := cells_of_cell hc
  refine (World.cell?_of_block (Fr.block h a.block (Array.getElem?_eq_some_iff.1 ho).1 fun ⟨_, o', ho', hc'⟩ => ?_)).trans hc
  rw [ho] at ho'; injection ho' with ho'; subst ho'; rw [hcs] at hc'; cases hc'
theorem Still.frozen (h : Still B W W') {a : Addr} {v : Value} (hc : W.cell? a = some v) : W'.frozen? a = W.frozen? a := by
  obtain ⟨o, ho, hcs⟩ := cells_of_cell hc
  refine World.frozen?_of_block (Fr.block h a.block (Array.getElem?_eq_some_iff.1 ho).1 fun ⟨_, o', ho', hc'⟩ => ?_)
  rw [ho] at ho'; injection ho' with ho'; subst ho'; rw [hcs] at hc'; cases hc'
theorem Still.blk (h : Still B W W') {g : Nat} {T : TypeId} {cs : Array Value} (hb : Blk W g T cs) : Blk W' g T cs := h.block hb
theorem Still.cells (h : Still B W W') {n : Nat} {A : Option Addr} {xs : List Value} (hc : Cells W n A xs) : Cells W' n A xs := fun hl => by
  obtain ⟨b, off, e, hb, hcs⟩ := hc hl
  exact ⟨b, off, e, hb, fun j v hv => h.cell (hcs j v hv)⟩
theorem Still.own (h : Still B W W') {base : Nat} {T : TypeId} {A : Option Addr} {c : Nat} {xs : List Value} (ho : Mem.Own W base T A c xs) : Mem.Own W' base T A c xs := by
  refine ⟨ho.1, ?_⟩
  rcases ho.2 with h2 | ⟨g, cap, cur, hv, hg, hh, r⟩
  · exact .inl h2
  · exact .inr ⟨g, cap, cur, hv, hg, h.block hh, r⟩
theorem Still.fr {S : Nat → Prop} {w : World} (h : Still B W W') (hf : Fr S w W) (hB : w.heap.size ≤ B) : Fr S w W' := hf.trans h fun i hi hs => absurd hs.1 (by omega)
theorem Still.size (h : Still B W W') : W.heap.size ≤ W'.heap.size := Fr.size h
end
theorem one {w : World} {g : Nat} {T : TypeId} {v : Value} (h : Blk w g T #[v]) : w.cell? ⟨g, 0, none⟩ = some v := by rw [h.cell]; rfl
theorem own_past {w : World} {base : Nat} {T : TypeId} {A : Option Addr} {c : Nat} {xs : List Value} (h : Mem.Own w base T A c xs) {p : Addr} (hp : p.block < base) (u : Value) : Mem.Own (w.setCell p u) base T A c xs :=
  h.set_far fun g hg e => by
    rcases h.form with ⟨h2, _⟩ | ⟨g2, h2, h3, _⟩
    · rw [hg] at h2; cases h2
    · rw [hg] at h2; injection h2 with h2; injection h2 with h2; omega
/-- I abides the loop's own book-keeping. -/
def Abd {β : Type} (B : Nat) (I : β → World → Prop) : Prop := ∀ s W W', Still B W W' → I s W → I s W'
theorem Abd.ownFrom {β : Type} {B : Nat} {I : β → World → Prop} (h : Abd B I) : OwnFrom B I := fun s W W' _ hs hg hr => h s W W' (Still.of_grown hg hr) hs
theorem abd_false {β : Type} {B : Nat} : Abd B (fun (_ : β) _ => False) := fun _ _ _ _ h => h.elim
theorem keepsFrom_of_fr {S : Nat → Prop} {B : Nat} {W W' : World} (h : Fr S W W') (hS : ∀ k, S k → k < W.heap.size → k < B) : KeepsFrom B W W' :=
  ⟨h.size, fun k o hB hk _ => (h.block k (Array.getElem?_eq_some_iff.1 hk).1 fun hs => absurd (hS k hs (Array.getElem?_eq_some_iff.1 hk).1) (by omega)).trans hk⟩

theorem wide_fn (f : FuncId) : Fence.wide.fn f = True := rfl
/-- A contract at no fence, at the wide fence, in a round; and back. -/
theorem of_wide {P : Program} {f : FuncId} {args : Array Value} {w : World} {R : Ending → World → Prop} (h : CallsIn Fence.wide 5 P f args w R) : Calls P f args w R := (callsIn_wide (n := 5)).1 h
theorem wide {n : Nat} {P : Program} {f : FuncId} {args : Array Value} {w : World} {R : Ending → World → Prop} (h : Calls P f args w R) : CallsIn Fence.wide n P f args w R := (callsIn_wide (n := n)).2 h
theorem wideR {n l : Nat} {P : Program} {f : FuncId} {args : Array Value} {w : World} {R : Ending → World → Prop} (h : Calls P f args w R) : CallsIn (Fence.wide.inRound l) n P f args w R := CallsIn.inRound l (wide h)

/-- A loop over an iterator that has its contract. -/
theorem wpIn_range {P : Program} {α : Type} {g : Operand} {ps : Array Tmp} {assign body : Code} {Q : Exit → Act → World → Prop} {a : Act} {w : World}
    {gf : Nat} {lb : Array Value} (hg : a.eval g = .func (.func gf) #[] lb) (eg : ∀ args w, (callFunc gf args).run P w = .ok (.enter gf args) w)
    {encs : α → Array Value} {T : Nat → Prop} {N1 : Nat} {S Sp : List α → Prop} {N : Nat} {w0 : World} (hseq : SeqStopsK Fence.wide 4 P gf lb encs (Kp T N1) S Sp N w0)
    (hN : N1 ≤ w.heap.size) (hb0 : Below w0.heap.size w0 w) (hps : ∀ x, (encs x).size = ps.size)
    (I : List α → World → Prop) (Ix : Code → List α → World → Prop) (hI : Abd w.heap.size I) (hIx : ∀ c, Abd w.heap.size (Ix c)) (h0 : I [] w) (a₁ : α → Act)
    (hassign : ∀ (l : Nat) (x : α) (W : World) (K : Act → World → Prop), K (a₁ x) W →
      assign.wpIn (Fence.wide.inRound l) 3 P (Exit.then K (fun _ _ _ => False)) { tmps := (ps.zip (encs x)).foldl (fun t (p, v) => t.setIfInBounds p v) a.tmps, defers := [] } W)
    (hbody : ∀ (l : Nat) (pre : List α) (x : α) (W : World), I pre W → pre.length < N → body.wpIn (Fence.wide.inRound l) 3 P (ownPostG w.heap.size (Kp T N1) I Ix (pre ++ [x]) W) (a₁ x) W)
    (hdone : ∀ (D : Nat) (xs : List α) (W : World), w.heap.size ≤ D → S xs → I xs W → W.heap[D]? = some (.deferred (some [])) → Q .normal { a with defers := { target := .collected D, args := #[] } :: a.defers } W)
    (hstop : ∀ (D : Nat) (c : Code) (pre : List α) (W : World), w.heap.size ≤ D → Sp pre → Ix c pre W → W.heap[D]? = some (.deferred (some [])) → c.wpIn Fence.wide 5 P Q { a with defers := { target := .collected D, args := #[] } :: a.defers } W) :
    (Code.rangeFunc g ps assign body).wpIn Fence.wide 5 P Q a w :=
  wpIn_rangeFunc_ownG (n := 5) rfl (by omega) hg trivial eg hseq (fun h k => Fr.trans h k fun _ _ h => h)
    (fun W l o o' hl ho _ _ => Fr.grown (grownBy_putObj' W l o') fun k hk => by injection hk with hk; subst hk; exact .inr (by omega))
    hb0 hps I Ix hI.ownFrom (fun c => (hIx c).ownFrom) h0 a₁ hassign hbody hdone hstop

/-- The block for the rounds' deferred calls is shut at the end: it was a new one. -/
theorem shut_fr {S : Nat → Prop} {w W : World} {D : Nat} (hf : Fr S w W) (hD : w.heap.size ≤ D) (o : Obj) : Fr S w (W.putObj D o) :=
  hf.trans (Fr.grown (S := fun k => k = D) (grownBy_putObj' W D o) fun k hk => by injection hk with hk; exact hk.symm) fun i hi h => by omega
theorem shut_still {W : World} {D : Nat} {o : Obj} {B : Nat} (o' : Obj) (hD : W.heap[D]? = some o) (ho : o.isCells = false) (hB : B ≤ D) : Still B W (W.putObj D o') :=
  Fr.grown (grownBy_putObj' W D o') fun k hk => by injection hk with hk; subst hk; exact ⟨hB, o, hD, ho⟩
end Go.Proofs.Ythdapoipfnnaeaa.Rng
/- A region that draws its order, in a round of a loop over an iterator: by the moves that serve at no fence. -/
namespace Go.Proofs.Ythdapoipfnnaeaa.Rng
open Go.RowKit Go.Shelf Mem

def noDefer (ops : Array Oper) : Bool := ops.all fun o => match o.op with
  | .defer _ => false
  | _ => true
theorem noDefer_spec {ops : Array Oper} (h : noDefer ops = true) {i : Nat} {o : Oper} (hi : ops[i]? = some o) : ∀ c, o.op ≠ .defer c := fun c hc => by
  have := Array.all_eq_true.1 h i (Array.getElem?_eq_some_iff.1 hi).1
  rw [(Array.getElem?_eq_some_iff.1 hi).2, hc] at this
  cases this
section
variable {P : Program} {ops : Array Oper} {Q : Exit → Act → World → Prop} {md : Region.Mode} {n l : Nat}
theorem wpOpIn_of_plain (hd : noDefer ops = true) (hQ : ¬ LetsOut Q) {i : Nat} {K : Act → World → Prop} {a : Act} {w : World} (h : wpOp P ops Q i K a w) : wpOpIn (Fence.wide.inRound l) n P ops Q i K a w := by
  unfold wpOp at h
  unfold wpOpIn
  cases ho : ops[i]? with
  | none => simpa [ho] using h
  | some o =>
    simp only [ho] at h ⊢
    split
    · rename_i hw
      simp only [hw, if_true] at h
      rcases h with h | ⟨_, h⟩
      case inr => exact absurd h hQ
      refine ⟨fun _ _ => trivial, ?_⟩
      rw [Oper.semAt_eq _ _ _ (noDefer_spec hd ho)]
      unfold Oper.wp at h
      generalize (execOp a.eval o).run P w = r at *
      cases r with
      | ok x w' =>
        cases x <;> simp only [Oper.upon] at h <;> simp only [Oper.uponIn]
        case value v => exact h
        case skip => exact h
        case defer d => exact h
        case enter f args => exact ⟨fun h0 => by simp [Fence.wide, Fence.inRound] at h0, wideR h⟩
        case row row args => exact ⟨fun h0 => by simp [Fence.wide, Fence.inRound] at h0, fun c cs _ => let ⟨v, w'', hr, hs⟩ := h c cs; ⟨v, w'', hr, stepsIn_wide.2 hs⟩⟩
      | halt x w' => cases x <;> simp only [Oper.upon] at h <;> simp only [Oper.uponIn]; exact h
    · rename_i hw
      simp only [hw] at h
      exact ⟨fun _ _ => trivial, h⟩
theorem wpAnyIn_of_plain (hd : noDefer ops = true) (hQ : ¬ LetsOut Q) : ∀ (fuel : Nat) (listed : Array Bool) (a : Act) (w : World), wpAny P md ops Q fuel listed a w → wpAnyIn (Fence.wide.inRound l) n P md ops Q fuel listed a w
  | 0, _, _, _, h => h
  | fuel + 1, _, _, _, h => ⟨h.1, fun i hi => wpOpIn_mono (fun a' w' h' => wpAnyIn_of_plain hd hQ fuel _ a' w' h') (wpOpIn_of_plain hd hQ (h.2 i hi))⟩
/-- The beginning, in a round. -/
theorem wpIn_held {id : Nat} {a : Act} {w : World} (S : World → Prop) (hm : P.follows .mixedOrders = true) (hd : noDefer ops = true) (hQ : ¬ LetsOut Q) (hS : S w.drew)
    (h : S w.drew → wpAnyH P .any ops Q S ops.size (Array.replicate ops.size false) a w.drew) : (Code.region id ops true).wpIn (Fence.wide.inRound l) n P Q a w :=
  wpIn_region_any hm (wpAnyIn_of_plain hd hQ _ _ _ _ (wpAny_of_held _ _ _ _ (h hS)))
end
theorem lets_ownPostG {α : Type} {B : Nat} {Kp : World → World → Prop} {I : List α → World → Prop} {Ix : Code → List α → World → Prop} {xs : List α} {W : World} : ¬ LetsOut (ownPostG B Kp I Ix xs W) := fun ⟨_, _, h⟩ => h
theorem lets_then {K : Act → World → Prop} {Q : Exit → Act → World → Prop} (h : ¬ LetsOut Q) : ¬ LetsOut (Exit.then K Q) := fun ⟨a, w, h'⟩ => h ⟨a, w, h'⟩
theorem lets_inBlock {id : Nat} {Q : Exit → Act → World → Prop} (h : ¬ LetsOut Q) : ¬ LetsOut (Exit.inBlock id Q) := fun ⟨a, w, h'⟩ => h ⟨a, w, h'⟩
/-- A cell of a block that has not turned. -/
theorem cellFr {S : Nat → Prop} {w w' : World} (hf : Fr S w w') {k o : Nat} {v : Value} (h : w.cell? ⟨k, o, none⟩ = some v) (hk : ¬ S k) : w'.cell? ⟨k, o, none⟩ = some v :=
  (World.cell?_of_block (hf.block k (World.block_lt_of_cell? _ _ h) hk)).trans h
theorem frozenFr {S : Nat → Prop} {w w' : World} (hf : Fr S w w') {k o : Nat} {v : Value} (h : w.cell? ⟨k, o, none⟩ = some v) (hk : ¬ S k) : w'.frozen? ⟨k, o, none⟩ = w.frozen? ⟨k, o, none⟩ :=
  World.frozen?_of_block (hf.block k (World.block_lt_of_cell? _ _ h) hk)
end Go.Proofs.Ythdapoipfnnaeaa.Rng
/- A region that draws its order: a load may be taken first where what it needs abides only till the region's own stores (st), which wait for it. -/
namespace Go.Proofs.Ythdapoipfnnaeaa.Rng
open Go.RowKit Go.Shelf Mem
set_option linter.unusedVariables false

section
variable {P : Program} {ops : Array Oper} {Q : Exit → Act → World → Prop} {md : Region.Mode} {T : World → Prop} {st : List Nat}
/-- None of the stores has come up. -/
def stOk (st : List Nat) (l : Array Bool) : Bool := st.all fun s => l.getD s true == false
/-- Each of the stores waits for number i. -/
def stWaits (md : Region.Mode) (ops : Array Oper) (st : List Nat) (i : Nat) : Bool := st.all fun s => decide (s ≠ i) && match ops[s]? with
  | some o => o.after.any fun e => Region.binds md e && decide (e.on = i)
  | none => false
theorem st_no {l : Array Bool} (hl : stOk st l = false) (h : stOk st l = true) : False := by rw [hl] at h; cases h
/-- Whatever order is picked; T holds behind every operation till a store has come up. -/
def wpAnyG (P : Program) (md : Region.Mode) (ops : Array Oper) (Q : Exit → Act → World → Prop) (T : World → Prop) (st : List Nat) : Nat → Array Bool → Act → World → Prop
  | 0, listed, a, w => Region.ready md ops listed = [] ∧ Q .normal a w
  | fuel + 1, listed, a, w =>
    (Region.ready md ops listed = [] → Q .normal a w) ∧
    ∀ i ∈ Region.ready md ops listed, wpOp P ops Q i (fun a' w' => (stOk st (listed.setIfInBounds i true) = true → T w') ∧ wpAnyG P md ops Q T st fuel (listed.setIfInBounds i true) a' w') a w
theorem wpAny_of_G : ∀ (fuel : Nat) (listed : Array Bool) (a : Act) (w : World), wpAnyG P md ops Q T st fuel listed a w → wpAny P md ops Q fuel listed a w
  | 0, _, _, _, h => h
  | fuel + 1, _, _, _, h => ⟨h.1, fun i hi => wpOp_mono (fun a' w' h' => wpAny_of_G fuel _ a' w' h'.2) (h.2 i hi)⟩
/-- What is known of a load i that may be taken first: its value hangs on nothing, or on T, and the stores wait for it. -/
def Fit (md : Region.Mode) (ops : Array Oper) (T U : World → Prop) (st : List Nat) (i : Nat) (l : Array Bool) : Prop := (∀ w, U w) ∨ ((∀ w, T w → U w) ∧ stWaits md ops st i = true ∧ stOk st l = true)
theorem st_getD {l : Array Bool} (h : stOk st l = true) {s : Nat} (hs : s ∈ st) : l.getD s true = false := by
  have := List.all_eq_true.1 h s hs
  simpa using this
theorem stOk_set {l : Array Bool} (h : stOk st l = true) {j : Nat} (hj : j ∉ st) : stOk st (l.setIfInBounds j true) = true := by
  unfold stOk
  rw [List.all_eq_true]
  intro s hs
  have h1 := st_getD h hs
  have hne : j ≠ s := fun e => hj (by rw [e]; exact hs)
  rw [getD_set_ne true hne, h1]; rfl
theorem wpAnyG_first {U : World → Prop} {i : Nat} {oi : Oper} {v : Value} (hist : i ∉ st) (hi : ops[i]? = some oi) (hsel : ∀ (j : Nat) (o : Oper) cs b, ops[j]? = some o → o.op ≠ .select cs b)
    (hQ : ∀ c a w, Q (.panic c) (a.put oi.dst v) w → Q (.panic c) a w) :
    ∀ (fuel : Nat) (listed : Array Bool) (a : Act) (w : World),
      (∀ j oj, ops[j]? = some oj → j ≠ i → listed.getD j true = false → (∀ e ∈ oj.after, Region.binds md e = true → e.on ≠ i) → oi.apart ops oj = true) →
      i ∈ Region.ready md ops listed → YieldsIf P ops U oi v a → Fit md ops T U st i listed → U w → (stOk st (listed.setIfInBounds i true) = true → T w) →
      wpAnyG P md ops Q T st fuel (listed.setIfInBounds i true) (a.put oi.dst v) w → wpAnyG P md ops Q T st (fuel + 1) listed a w := by
  intro fuel
  induction fuel with
  | zero =>
    intro listed a w _ hr hy hF hS hT H
    refine ⟨fun h => (by rw [h] at hr; cases hr), fun j hj => ?_⟩
    by_cases hji : j = i
    · subst hji; exact hy.wpOp hi hS ⟨hT, H⟩
    · have := ready_mono hj hji
      rw [H.1] at this
      cases this
  | succ fuel ih =>
    intro listed a w hfree hr hy hF hS hT H
    refine ⟨fun h => (by rw [h] at hr; cases hr), fun j hj => ?_⟩
    by_cases hji : j = i
    · subst hji; exact hy.wpOp hi hS ⟨hT, H⟩
    · have h1 := H.2 j (ready_mono hj hji)
      obtain ⟨hjun, oj, hoj, hall⟩ := mem_ready.1 hj
      have hnot : ∀ e ∈ oj.after, Region.binds md e = true → e.on ≠ i := fun e he hb heq => by
        have h1 := hall e he hb
        have h0 := (mem_ready.1 hr).1
        rw [heq] at h1
        rcases Nat.lt_or_ge i listed.size with h' | h'
        · simp [h'] at h0 h1; rw [h0] at h1; cases h1
        · simp [Array.getElem?_eq_none h'] at h1
      have h2 := wpOp_putIf hoj (hfree j oj hoj hji hjun hnot) (fun cs b => hsel i oi cs b hi) (fun cs b => hsel j oj cs b hoj) hQ hy h1
      have hfree' : ∀ k ok, ops[k]? = some ok → k ≠ i → (listed.setIfInBounds j true).getD k true = false →
          (∀ e ∈ ok.after, Region.binds md e = true → e.on ≠ i) → oi.apart ops ok = true := fun k ok hk hki hun hno => by
        refine hfree k ok hk hki ?_ hno
        by_cases hjk : j = k
        · subst hjk; exact hjun
        · rw [getD_set_ne true hjk] at hun; exact hun
      -- j is no store where T is asked
      have hjs : stWaits md ops st i = true → j ∉ st := fun hw hjst => by
        have := List.all_eq_true.1 hw j hjst
        rw [hoj] at this
        simp only [Bool.and_eq_true, List.any_eq_true, Array.any_eq_true', decide_eq_true_eq] at this
        obtain ⟨_, e, he, hb, ho⟩ := this
        exact hnot e he hb ho
      have hF' : Fit md ops T U st i (listed.setIfInBounds j true) := hF.imp id fun ⟨h1, h2, h3⟩ => ⟨h1, h2, stOk_set h3 (hjs h2)⟩
      refine wpOp_mono (fun a' w' h3 => ?_) h2
      have hcomm := Array.setIfInBounds_comm (xs := listed) true true hji
      have hU' : U w' := by
        rcases hF with hF | ⟨h4, h5, h6⟩
        · exact hF w'
        · refine h4 w' (h3.2.1 ?_)
          exact stOk_set (stOk_set h6 hist) (hjs h5)
      have hT' : stOk st ((listed.setIfInBounds j true).setIfInBounds i true) = true → T w' := fun hk => h3.2.1 (by rw [← hcomm]; exact hk)
      have hT2 : stOk st (listed.setIfInBounds j true) = true → T w' := fun hk => hT' (stOk_set hk hist)
      refine ⟨hT2, ih (listed.setIfInBounds j true) a' w' hfree' (ready_mono hr (Ne.symm hji)) h3.1 hF' hU' hT' ?_⟩
      rw [hcomm]
      exact h3.2.2
/-- Take number i first: it needs T, and the stores wait for it. -/
theorem wpAnyG_take {i : Nat} {oi : Oper} {v : Value} {fuel : Nat} {listed : Array Bool} {a : Act} {w : World} (hi : ops[i]? = some oi)
    (hs : Region.noSelect ops = true) (hf : Region.free md ops listed i = true) (hr : (Region.ready md ops listed).contains i = true) (hw : (decide (i ∉ st) && (stWaits md ops st i && stOk st listed)) = true)
    (hQ : ∀ c a w, Q (.panic c) (a.put oi.dst v) w → Q (.panic c) a w) (hy : YieldsIf P ops T oi v a) (hT : T w)
    (h : wpAnyG P md ops Q T st fuel (listed.setIfInBounds i true) (a.put oi.dst v) w) : wpAnyG P md ops Q T st (fuel + 1) listed a w := by
  simp only [Bool.and_eq_true, decide_eq_true_eq] at hw
  exact wpAnyG_first (U := T) hw.1 hi (Region.noSelect_spec hs) hQ fuel listed a w (Region.free_spec hi hf) (by simpa using hr) hy (.inr ⟨fun _ h => h, hw.2.1, hw.2.2⟩) hT (fun _ => hT) h
/-- Take number i first: it needs nothing. -/
theorem wpAnyG_pure {i : Nat} {oi : Oper} {v : Value} {fuel : Nat} {listed : Array Bool} {a : Act} {w : World} (hi : ops[i]? = some oi)
    (hs : Region.noSelect ops = true) (hf : Region.free md ops listed i = true) (hr : (Region.ready md ops listed).contains i = true) (hw : decide (i ∉ st) = true)
    (hQ : ∀ c a w, Q (.panic c) (a.put oi.dst v) w → Q (.panic c) a w) (hy : YieldsIf P ops (fun _ => True) oi v a) (hT : stOk st listed = true → T w)
    (h : wpAnyG P md ops Q T st fuel (listed.setIfInBounds i true) (a.put oi.dst v) w) : wpAnyG P md ops Q T st (fuel + 1) listed a w := by
  rw [decide_eq_true_iff] at hw
  refine wpAnyG_first (U := fun _ => True) hw hi (Region.noSelect_spec hs) hQ fuel listed a w (Region.free_spec hi hf) (by simpa using hr) hy (.inl fun _ => trivial) trivial (fun hk => hT ?_) h
  unfold stOk at hk ⊢
  rw [List.all_eq_true] at hk ⊢
  intro s hs
  have h1 := hk s hs
  have hne : i ≠ s := fun e => hw (by rw [e]; exact hs)
  rwa [getD_set_ne true hne] at h1
theorem wpAnyG_done {listed : Array Bool} {a : Act} {w : World} (hr : Region.ready md ops listed = []) (h : Q .normal a w) :
    ∀ fuel, wpAnyG P md ops Q T st fuel listed a w
  | 0 => ⟨hr, h⟩
  | _ + 1 => ⟨fun _ => h, by rw [hr]; simp⟩
/-- Number i is the only one that may come up: it is carried out. -/
theorem wpAnyG_one {i : Nat} {o : Oper} {fuel : Nat} {listed : Array Bool} {a : Act} {w : World} (hr : Region.ready md ops listed = [i]) (ho : ops[i]? = some o)
    (h : ∀ K' : Act → World → Prop, Shut (∀ a w, (stOk st (listed.setIfInBounds i true) = true → T w) → ((stOk st (listed.setIfInBounds i true) = true → T w) → wpAnyG P md ops Q T st fuel (listed.setIfInBounds i true) a w) → K' a w) → if Region.wanted o (yielded ops a.tmps) = true then Oper.wp P o a w K' Q else K' (a.put o.dst undef) w) :
    wpAnyG P md ops Q T st (fuel + 1) listed a w :=
  by
  refine ⟨(fun h0 => by rw [hr] at h0; cases h0), fun j hj => ?_⟩
  rw [hr] at hj
  obtain rfl := List.mem_singleton.1 hj
  exact wpOp_step ho (fun K' hK => h K' (fun a w hS hW => hK a w ⟨hS, hW hS⟩))
/-- The beginning, at no fence; in a round. -/
theorem wp_heldG (T : World → Prop) (st : List Nat) {id : Nat} {a : Act} {w : World} (hm : P.follows .mixedOrders = true) (hT : T w.drew)
    (h : T w.drew → wpAnyG P .any ops Q T st ops.size (Array.replicate ops.size false) a w.drew) : (Code.region id ops true).wp P Q a w :=
  wp_region_any hm (wpAny_of_G _ _ _ _ (h hT))
theorem wpIn_heldG {n l : Nat} (T : World → Prop) (st : List Nat) {id : Nat} {a : Act} {w : World} (hm : P.follows .mixedOrders = true) (hd : noDefer ops = true) (hQ : ¬ LetsOut Q) (hT : T w.drew)
    (h : T w.drew → wpAnyG P .any ops Q T st ops.size (Array.replicate ops.size false) a w.drew) : (Code.region id ops true).wpIn (Fence.wide.inRound l) n P Q a w :=
  wpIn_region_any hm (wpAnyIn_of_plain hd hQ _ _ _ _ (wpAny_of_G _ _ _ _ (h hT)))
end
end Go.Proofs.Ythdapoipfnnaeaa.Rng
/- Drawn regions in which several may come up: new variables in any order, then stores into them. -/
namespace Go.Proofs.Ythdapoipfnnaeaa.Rng
open Go.RowKit Go.Shelf Mem
set_option linter.unusedVariables false

section
variable {P : Program} {ops : Array Oper} {Q : Exit → Act → World → Prop} {md : Region.Mode} {T : World → Prop} {st : List Nat}
/-- Whichever comes up. -/
theorem wpAnyG_each {fuel : Nat} {listed : Array Bool} {a : Act} {w : World} (hne : Region.ready md ops listed ≠ [])
    (h : ∀ i ∈ Region.ready md ops listed, ∃ o, ops[i]? = some o ∧ ∀ K' : Act → World → Prop, Shut (∀ a w, (stOk st (listed.setIfInBounds i true) = true → T w) → ((stOk st (listed.setIfInBounds i true) = true → T w) → wpAnyG P md ops Q T st fuel (listed.setIfInBounds i true) a w) → K' a w) → if Region.wanted o (yielded ops a.tmps) = true then Oper.wp P o a w K' Q else K' (a.put o.dst undef) w) :
    wpAnyG P md ops Q T st (fuel + 1) listed a w := by
  refine ⟨fun h0 => absurd h0 hne, fun k hk => ?_⟩
  obtain ⟨o, ho, h⟩ := h k hk
  exact wpOp_step ho (fun K' hK => h K' (fun a w hS hW => hK a w ⟨hS, hW hS⟩))
theorem setIf_comm (l : Array Bool) {i j : Nat} (h : i ≠ j) : (l.setIfInBounds i true).setIfInBounds j true = (l.setIfInBounds j true).setIfInBounds i true := Array.setIfInBounds_comm _ _ h
theorem put_comm (a : Act) {i j : Nat} (h : i ≠ j) (x y : Value) : (a.put (some i) x).put (some j) y = (a.put (some j) y).put (some i) x := by
  unfold Act.put
  dsimp only
  rw [Array.setIfInBounds_comm _ _ h]
/-- A new variable of type ty. -/
structure NewOp (P : Program) (ty : TypeId) (zc : Array Value) (o : Oper) (d : Nat) : Prop where
  guard : o.guard = none
  op : o.op = .alloc ty
  dst : o.dst = some d
def NewRun (P : Program) (ty : TypeId) (zc : Array Value) : Prop := ∀ w : World, (Instr.alloc ty true (.tuple #[])).run P w = .ok (.pointer (some ⟨w.heap.size, 0, none⟩)) (w.alloc (.cells zc ty))
variable {ty : TypeId} {zc : Array Value}
theorem step_new {o : Oper} {d : Nat} {a : Act} {R : Act → World → Prop} {E : Prop} (w : World) (ho : NewOp P ty zc o d) (hr : NewRun P ty zc)
    (h : R (a.put (some d) (.pointer (some ⟨w.heap.size, 0, none⟩))) (w.alloc (.cells zc ty))) : if Region.wanted o (yielded ops a.tmps) = true then Oper.wp P o a w R Q else E := by
  rw [if_pos (by simp [Region.wanted, ho.guard])]
  unfold Oper.wp execOp
  simp only [ho.op, Sem.run_bind, hr w, Result.andThen_ok, Sem.run_pure]
  show R (a.put o.dst _) _
  rw [ho.dst]
  exact h
theorem wpAnyG_new {i d : Nat} {o : Oper} {fuel : Nat} {listed : Array Bool} {a : Act} {w : World} (hr : NewRun P ty zc) (ho : ops[i]? = some o) (hn : NewOp P ty zc o d) (hT : ∀ w', Below w.heap.size w w' → T w')
    (r : Region.ready md ops listed = [i])
    (h : ∀ g w', w.heap.size = g → Blk w' g ty zc → Below w.heap.size w w' → wpAnyG P md ops Q T st fuel (listed.setIfInBounds i true) (a.put (some d) (.pointer (some ⟨g, 0, none⟩))) w') :
    wpAnyG P md ops Q T st (fuel + 1) listed a w := by
  refine wpAnyG_one r ho (fun K hK => step_new w hn hr ?_)
  have hb := nextA (Mem.start w) (.cells zc ty)
  exact hK.out _ _ (fun _ => hT _ hb) fun _ => h _ _ rfl (Blk.new w _ _) hb
/-- Two new variables, in either order. -/
theorem wpAnyG_new2 {i j d e : Nat} {o u : Oper} {fuel : Nat} {listed : Array Bool} {a : Act} {w : World} (hr : NewRun P ty zc) (ho : ops[i]? = some o) (hu : ops[j]? = some u) (hn : NewOp P ty zc o d) (hm : NewOp P ty zc u e) (hij : i ≠ j) (hde : d ≠ e) (hT : ∀ w', Below w.heap.size w w' → T w')
    (r : Region.ready md ops listed = [i, j]) (ri : Region.ready md ops (listed.setIfInBounds i true) = [j]) (rj : Region.ready md ops (listed.setIfInBounds j true) = [i])
    (h : ∀ g k w', w.heap.size ≤ g → w.heap.size ≤ k → g ≠ k → Blk w' g ty zc → Blk w' k ty zc → Below w.heap.size w w' → wpAnyG P md ops Q T st fuel ((listed.setIfInBounds i true).setIfInBounds j true) ((a.put (some d) (.pointer (some ⟨g, 0, none⟩))).put (some e) (.pointer (some ⟨k, 0, none⟩))) w') :
    wpAnyG P md ops Q T st (fuel + 2) listed a w := by
  have hb := nextA (Mem.start w) (.cells zc ty)
  have hs : (w.alloc (.cells zc ty)).heap.size = w.heap.size + 1 := World.size_alloc _ _
  refine wpAnyG_each (by rw [r]; simp) fun q hq => ?_
  rw [r] at hq
  rcases List.mem_cons.1 hq with rfl | hq
  · refine ⟨o, ho, fun K hK => step_new w hn hr (hK.out _ _ (fun _ => hT _ hb) fun _ => ?_)⟩
    refine wpAnyG_new hr hu hm (fun w' hb' => hT w' (next hb hb')) ri fun k w' hk B hb' => ?_
    exact h _ _ w' (Nat.le_refl _) (by omega) (by omega) ((Blk.new w _ _).keep hb') B (next hb hb')
  · obtain rfl := List.mem_singleton.1 hq
    refine ⟨u, hu, fun K hK => step_new w hm hr (hK.out _ _ (fun _ => hT _ hb) fun _ => ?_)⟩
    refine wpAnyG_new hr ho hn (fun w' hb' => hT w' (next hb hb')) rj fun k w' hk B hb' => ?_
    rw [← setIf_comm _ hij, ← put_comm _ hde]
    exact h _ _ w' (by omega) (Nat.le_refl _) (by omega) B ((Blk.new w _ _).keep hb') (next hb hb')
/-- Three new variables, in any order. -/
theorem wpAnyG_new3 {i j k d e f : Nat} {o u v : Oper} {fuel : Nat} {listed : Array Bool} {a : Act} {w : World} (hr : NewRun P ty zc) (ho : ops[i]? = some o) (hu : ops[j]? = some u) (hv : ops[k]? = some v) (hn : NewOp P ty zc o d) (hm : NewOp P ty zc u e) (hl : NewOp P ty zc v f)
    (hij : i ≠ j) (hik : i ≠ k) (hjk : j ≠ k) (hde : d ≠ e) (hdf : d ≠ f) (hef : e ≠ f) (hT : ∀ w', Below w.heap.size w w' → T w')
    (r : Region.ready md ops listed = [i, j, k])
    (r1 : Region.ready md ops (listed.setIfInBounds i true) = [j, k]) (r12 : Region.ready md ops ((listed.setIfInBounds i true).setIfInBounds j true) = [k]) (r13 : Region.ready md ops ((listed.setIfInBounds i true).setIfInBounds k true) = [j])
    (r2 : Region.ready md ops (listed.setIfInBounds j true) = [i, k]) (r23 : Region.ready md ops ((listed.setIfInBounds j true).setIfInBounds k true) = [i])
    (r3 : Region.ready md ops (listed.setIfInBounds k true) = [i, j])
    (h : ∀ g p q w', w.heap.size ≤ g → w.heap.size ≤ p → w.heap.size ≤ q → g ≠ p → g ≠ q → p ≠ q → Blk w' g ty zc → Blk w' p ty zc → Blk w' q ty zc → Below w.heap.size w w' → wpAnyG P md ops Q T st fuel (((listed.setIfInBounds i true).setIfInBounds j true).setIfInBounds k true) (((a.put (some d) (.pointer (some ⟨g, 0, none⟩))).put (some e) (.pointer (some ⟨p, 0, none⟩))).put (some f) (.pointer (some ⟨q, 0, none⟩))) w') :
    wpAnyG P md ops Q T st (fuel + 3) listed a w := by
  have hb := nextA (Mem.start w) (.cells zc ty)
  have hs : (w.alloc (.cells zc ty)).heap.size = w.heap.size + 1 := World.size_alloc _ _
  refine wpAnyG_each (by rw [r]; simp) fun x hx => ?_
  rw [r] at hx
  rcases List.mem_cons.1 hx with rfl | hx
  · refine ⟨o, ho, fun K hK => step_new w hn hr (hK.out _ _ (fun _ => hT _ hb) fun _ => ?_)⟩
    refine wpAnyG_new2 hr hu hv hm hl hjk hef (fun w' hb' => hT w' (next hb hb')) r1 r12 r13 fun p q w' h1 h2 h3 B C hb' => ?_
    exact h _ _ _ w' (Nat.le_refl _) (by omega) (by omega) (by omega) (by omega) h3 ((Blk.new w _ _).keep hb') B C (next hb hb')
  · rcases List.mem_cons.1 hx with rfl | hx
    · refine ⟨u, hu, fun K hK => step_new w hm hr (hK.out _ _ (fun _ => hT _ hb) fun _ => ?_)⟩
      refine wpAnyG_new2 hr ho hv hn hl hik hdf (fun w' hb' => hT w' (next hb hb')) r2 (by rw [← setIf_comm _ hij]; exact r12) r23 fun p q w' h1 h2 h3 B C hb' => ?_
      rw [← setIf_comm _ hij, ← put_comm _ hde]
      exact h _ _ _ w' (by omega) (Nat.le_refl _) (by omega) (by omega) h3 (by omega) B ((Blk.new w _ _).keep hb') C (next hb hb')
    · obtain rfl := List.mem_singleton.1 hx
      refine ⟨v, hv, fun K hK => step_new w hl hr (hK.out _ _ (fun _ => hT _ hb) fun _ => ?_)⟩
      refine wpAnyG_new2 hr ho hu hn hm hij hde (fun w' hb' => hT w' (next hb hb')) r3 (by rw [← setIf_comm _ hik]; exact r13) (by rw [← setIf_comm _ hjk]; exact r23) fun p q w' h1 h2 h3 B C hb' => ?_
      rw [← setIf_comm _ hik, setIf_comm (listed.setIfInBounds i true) (Ne.symm hjk), ← put_comm _ hdf, put_comm (a.put _ _) (Ne.symm hef)]
      exact h _ _ _ w' (by omega) (by omega) (Nat.le_refl _) h3 (by omega) (by omega) B C ((Blk.new w _ _).keep hb') (next hb hb')
end
end Go.Proofs.Ythdapoipfnnaeaa.Rng
/- Drawn regions in which one of two may come up. -/
namespace Go.Proofs.Ythdapoipfnnaeaa.Rng
open Go.RowKit Go.Shelf Mem
set_option linter.unusedVariables false

section
variable {P : Program} {ops : Array Oper} {Q : Exit → Act → World → Prop} {md : Region.Mode} {T : World → Prop} {st : List Nat}
/-- One of two may come up. -/
theorem wpAnyG_two {i j : Nat} {o u : Oper} {fuel : Nat} {listed : Array Bool} {a : Act} {w : World} (hr : Region.ready md ops listed = [i, j]) (ho : ops[i]? = some o) (hu : ops[j]? = some u)
    (h : ∀ K' : Act → World → Prop, Shut (∀ a w, (stOk st (listed.setIfInBounds i true) = true → T w) → ((stOk st (listed.setIfInBounds i true) = true → T w) → wpAnyG P md ops Q T st fuel (listed.setIfInBounds i true) a w) → K' a w) → if Region.wanted o (yielded ops a.tmps) = true then Oper.wp P o a w K' Q else K' (a.put o.dst undef) w)
    (h2 : ∀ K' : Act → World → Prop, Shut (∀ a w, (stOk st (listed.setIfInBounds j true) = true → T w) → ((stOk st (listed.setIfInBounds j true) = true → T w) → wpAnyG P md ops Q T st fuel (listed.setIfInBounds j true) a w) → K' a w) → if Region.wanted u (yielded ops a.tmps) = true then Oper.wp P u a w K' Q else K' (a.put u.dst undef) w) :
    wpAnyG P md ops Q T st (fuel + 1) listed a w := by
  refine ⟨(fun h0 => by rw [hr] at h0; cases h0), fun k hk => ?_⟩
  rw [hr] at hk
  rcases List.mem_cons.1 hk with rfl | hk
  · exact wpOp_step ho (fun K' hK => h K' (fun a w hS hW => hK a w ⟨hS, hW hS⟩))
  · obtain rfl := List.mem_singleton.1 hk
    exact wpOp_step hu (fun K' hK => h2 K' (fun a w hS hW => hK a w ⟨hS, hW hS⟩))
end
end Go.Proofs.Ythdapoipfnnaeaa.Rng
/- Words of one, four and eight bytes: what the model's arithmetic on their numbers is, said of Lean's own bit vectors. Plain facts, no program in sight. -/
namespace Go.Proofs.Ythdapoipfnnaeaa.Bv

/-- The number of a bit vector, as an integer. -/
theorem ofInt_toNat {n : Nat} (x : BitVec n) : BitVec.ofInt n (x.toNat : Int) = x := by
  rw [BitVec.ofInt_natCast]; exact BitVec.ofNat_toNat n x |>.trans (BitVec.setWidth_eq x)

/-- A word's number, behind a name that the walk does not open. -/
def i32 (x : BitVec 32) : Int := (x.toNat : Int)
theorem i32_ge (x : BitVec 32) : 0 ≤ i32 x := by unfold i32; omega
theorem i32_lt (x : BitVec 32) : i32 x ≤ 4294967295 := by unfold i32; have := x.isLt; omega
theorem ofInt_i32 (x : BitVec 32) : BitVec.ofInt 32 (i32 x) = x := ofInt_toNat x
theorem i32_ofInt (n : Int) (h0 : 0 ≤ n) (h1 : n ≤ 4294967295) : i32 (BitVec.ofInt 32 n) = n := by
  obtain ⟨k, rfl⟩ := Int.eq_ofNat_of_zero_le h0
  unfold i32; rw [BitVec.ofInt_natCast, BitVec.toNat_ofNat, Nat.mod_eq_of_lt (by omega)]
theorem i32_inj {x y : BitVec 32} (h : i32 x = i32 y) : x = y := by
  have := congrArg (BitVec.ofInt 32) h; rwa [ofInt_i32, ofInt_i32] at this
theorem i32_eq (x y : BitVec 32) : (i32 x == i32 y) = (x == y) := by
  rw [Bool.eq_iff_iff, beq_iff_eq, beq_iff_eq]; exact ⟨i32_inj, congrArg _⟩
theorem and32 (x y : Int) : bits .and .u32 x y = i32 (BitVec.ofInt 32 x &&& BitVec.ofInt 32 y) := by
  have h := (BitVec.ofInt 32 x &&& BitVec.ofInt 32 y).isLt
  show IntKind.u32.wrap ((BitVec.ofInt 32 x &&& BitVec.ofInt 32 y).toNat : Int) = ((BitVec.ofInt 32 x &&& BitVec.ofInt 32 y).toNat : Int)
  rw [IntKind.wrap_u32']; omega
theorem or32 (x y : Int) : bits .or .u32 x y = i32 (BitVec.ofInt 32 x ||| BitVec.ofInt 32 y) := by
  have h := (BitVec.ofInt 32 x ||| BitVec.ofInt 32 y).isLt
  show IntKind.u32.wrap ((BitVec.ofInt 32 x ||| BitVec.ofInt 32 y).toNat : Int) = ((BitVec.ofInt 32 x ||| BitVec.ofInt 32 y).toNat : Int)
  rw [IntKind.wrap_u32']; omega
theorem xor32 (x y : Int) : bits .xor .u32 x y = i32 (BitVec.ofInt 32 x ^^^ BitVec.ofInt 32 y) := by
  have h := (BitVec.ofInt 32 x ^^^ BitVec.ofInt 32 y).isLt
  show IntKind.u32.wrap ((BitVec.ofInt 32 x ^^^ BitVec.ofInt 32 y).toNat : Int) = ((BitVec.ofInt 32 x ^^^ BitVec.ofInt 32 y).toNat : Int)
  rw [IntKind.wrap_u32']; omega
/-- A shift to the right is a quotient. -/
theorem shr32 (x : BitVec 32) (k : Nat) (d : Int) (hd : d = ((2 ^ k : Nat) : Int)) : i32 x / d = i32 (x >>> k) := by
  subst hd; unfold i32
  rw [BitVec.toNat_ushiftRight, Nat.shiftRight_eq_div_pow]; rfl
/-- A shift to the left is a product, wrapped. -/
theorem shl32 (x : BitVec 32) (k : Nat) (d : Int) (hd : d = ((2 ^ k : Nat) : Int)) : i32 x * d % (4294967296 : Int) = i32 (x <<< k) := by
  subst hd; unfold i32
  rw [BitVec.toNat_shiftLeft, Nat.shiftLeft_eq]; rfl
theorem shr32_1 (x : BitVec 32) : i32 x / (2 : Int) = i32 (x >>> 1) := shr32 x 1 2 rfl
theorem shr32_2 (x : BitVec 32) : i32 x / (4 : Int) = i32 (x >>> 2) := shr32 x 2 4 rfl
theorem shr32_4 (x : BitVec 32) : i32 x / (16 : Int) = i32 (x >>> 4) := shr32 x 4 16 rfl
theorem shr32_8 (x : BitVec 32) : i32 x / (256 : Int) = i32 (x >>> 8) := shr32 x 8 256 rfl
theorem shr32_16 (x : BitVec 32) : i32 x / (65536 : Int) = i32 (x >>> 16) := shr32 x 16 65536 rfl
theorem shr32_28 (x : BitVec 32) : i32 x / (268435456 : Int) = i32 (x >>> 28) := shr32 x 28 268435456 rfl
theorem shl32_1 (x : BitVec 32) : i32 x * (2 : Int) % (4294967296 : Int) = i32 (x <<< 1) := shl32 x 1 2 rfl
theorem shl32_2 (x : BitVec 32) : i32 x * (4 : Int) % (4294967296 : Int) = i32 (x <<< 2) := shl32 x 2 4 rfl
theorem shl32_4 (x : BitVec 32) : i32 x * (16 : Int) % (4294967296 : Int) = i32 (x <<< 4) := shl32 x 4 16 rfl
theorem shl32_8 (x : BitVec 32) : i32 x * (256 : Int) % (4294967296 : Int) = i32 (x <<< 8) := shl32 x 8 256 rfl
theorem shl32_16 (x : BitVec 32) : i32 x * (65536 : Int) % (4294967296 : Int) = i32 (x <<< 16) := shl32 x 16 65536 rfl
theorem shl32_24 (x : BitVec 32) : i32 x * (16777216 : Int) % (4294967296 : Int) = i32 (x <<< 24) := shl32 x 24 16777216 rfl

/-- Is a bit 1? -/
theorem bit_eq {n : Nat} (x : BitVec n) (k : Nat) : x.getLsbD k = (x.toNat / 2 ^ k % 2 == 1) := by
  rw [BitVec.getLsbD, Nat.testBit_eq_decide_div_mod_eq]; simp [Bool.beq_eq_decide_eq]
theorem bit32 (x : BitVec 32) (k : Nat) (d : Int) (hd : d = ((2 ^ k : Nat) : Int)) : (bits .and .u32 (i32 x / d) (1 : Int) == (1 : Int)) = x.getLsbD k := by
  rw [shr32 x k d hd, and32, ofInt_i32, bit_eq]
  unfold i32
  rw [Bool.eq_iff_iff, beq_iff_eq, beq_iff_eq]
  have e : (x >>> k &&& BitVec.ofInt 32 (1 : Int)).toNat = x.toNat / 2 ^ k % 2 := by
    rw [BitVec.toNat_and, BitVec.toNat_ushiftRight, Nat.shiftRight_eq_div_pow]
    exact Nat.and_two_pow_sub_one_eq_mod _ 1
  omega
theorem bit32z (x : BitVec 32) (k : Nat) (d : Int) (hd : d = ((2 ^ k : Nat) : Int)) : (bits .and .u32 (i32 x / d) (1 : Int) == (0 : Int)) = !x.getLsbD k := by
  have h := bit32 x k d hd
  rw [← h]
  have h2 : bits .and .u32 (i32 x / d) (1 : Int) = 0 ∨ bits .and .u32 (i32 x / d) (1 : Int) = 1 := by
    rw [shr32 x k d hd, and32, ofInt_i32]
    have e : (x >>> k &&& BitVec.ofInt 32 (1 : Int)).toNat = x.toNat / 2 ^ k % 2 := by
      rw [BitVec.toNat_and, BitVec.toNat_ushiftRight, Nat.shiftRight_eq_div_pow]
      exact Nat.and_two_pow_sub_one_eq_mod _ 1
    unfold i32; omega
  rcases h2 with h2 | h2 <;> rw [h2] <;> rfl
theorem bit32_0 (x : BitVec 32) : (bits .and .u32 (i32 x) (1 : Int) == (1 : Int)) = x.getLsbD 0 := by
  rw [← bit32 x 0 1 rfl, Int.ediv_one]

theorem add_pow (k : Nat) (hk : k < 32) (x : BitVec 32) : (i32 x + 2 ^ k % (4294967296 : Int)) % (4294967296 : Int) = i32 (x + (1#32 <<< k)) := by
  have hp : (2 : Nat) ^ k < 2 ^ 32 := Nat.pow_lt_pow_right (by decide) hk
  have e : (1#32 <<< k).toNat = 2 ^ k := by
    rw [BitVec.toNat_shiftLeft, Nat.shiftLeft_eq]
    show 1 * 2 ^ k % 2 ^ 32 = 2 ^ k
    rw [Nat.one_mul, Nat.mod_eq_of_lt hp]
  unfold i32
  rw [BitVec.toNat_add, e]
  have e2 : (2 : Int) ^ k = ((2 ^ k : Nat) : Int) := by simp
  rw [e2]
  generalize 2 ^ k = q at *
  omega
theorem bit8 (c : UInt8) (k : Nat) (d : Int) (hd : d = ((2 ^ k : Nat) : Int)) : (bits .and .u8 ((c.toNat : Int) / d) (1 : Int) == (1 : Int)) = c.toBitVec.getLsbD k := by
  subst hd
  have hlt : c.toNat / 2 ^ k < 256 := Nat.lt_of_le_of_lt (Nat.div_le_self _ _) c.toNat_lt
  have e : ((c.toNat : Int) / ((2 ^ k : Nat) : Int)) = ((c.toNat / 2 ^ k : Nat) : Int) := rfl
  rw [e, show (1 : Int) = ((1 : Nat) : Int) from rfl, u8_and_nat _ _ hlt (by decide), bit_eq, Nat.and_one_is_mod]
  show ((((c.toNat / 2 ^ k % 2 : Nat) : Int)) == ((1 : Nat) : Int)) = (c.toNat / 2 ^ k % 2 == 1)
  rw [Bool.eq_iff_iff, beq_iff_eq, beq_iff_eq]; omega
theorem bitI (n : Nat) (hn : n < 9223372036854775808) (k : Nat) : (bits .and .i64 ((n : Int) / 2 ^ k) (1 : Int) == (1 : Int)) = n.testBit k := by
  have hlt : n / 2 ^ k < 9223372036854775808 := Nat.lt_of_le_of_lt (Nat.div_le_self _ _) hn
  have e : ((n : Int) / 2 ^ k) = ((n / 2 ^ k : Nat) : Int) := by simp
  rw [e, Nat.testBit_eq_decide_div_mod_eq]
  have hb : bits .and .i64 ((n / 2 ^ k : Nat) : Int) (1 : Int) = ((n / 2 ^ k % 2 : Nat) : Int) := by
    have ha : (BitVec.ofInt 64 ((n / 2 ^ k : Nat) : Int)).toNat = n / 2 ^ k := by
      rw [BitVec.ofInt_natCast, BitVec.toNat_ofNat]; exact Nat.mod_eq_of_lt (by omega)
    show IntKind.i64.wrap ((BitVec.ofInt 64 ((n / 2 ^ k : Nat) : Int) &&& BitVec.ofInt 64 (1 : Int)).toNat : Int) = _
    rw [BitVec.toNat_and, ha, show (BitVec.ofInt 64 (1 : Int)).toNat = 1 from rfl, Nat.and_one_is_mod, IntKind.wrap_i64]
    omega
  rw [hb, Bool.eq_iff_iff, beq_iff_eq, decide_eq_true_iff]; omega

/-- The bits of a bit vector that a vector of one bit only has: the vector as a sum. -/
def low {n : Nat} (x : BitVec n) : Nat → BitVec n
  | 0 => 0#n
  | k + 1 => low x k ^^^ (if x.getLsbD k then BitVec.twoPow n k else 0#n)
theorem low_bit {n : Nat} (x : BitVec n) (k : Nat) (i : Nat) (hi : i < n) : (low x k).getLsbD i = (decide (i < k) && x.getLsbD i) := by
  induction k with
  | zero => simp [low]
  | succ k ih =>
    simp only [low, BitVec.getLsbD_xor, ih]
    by_cases hk : x.getLsbD k
    · rw [if_pos hk]
      by_cases hik : i = k
      · subst hik; simp [hk, hi]
      · rw [BitVec.getLsbD_twoPow]
        have : decide (k = i) = false := by simp; omega
        have h2 : decide (i < k + 1) = decide (i < k) := by simp; omega
        simp [this, h2]
    · rw [if_neg hk]
      by_cases hik : i = k
      · subst hik; simp [hk]
      · have h2 : decide (i < k + 1) = decide (i < k) := by simp; omega
        simp [h2]
theorem low_all {n : Nat} (x : BitVec n) : low x n = x := by
  apply BitVec.eq_of_getLsbD_eq
  intro i hi
  rw [low_bit x n i hi]; simp [hi]
/-- Two functions of a bit vector that turn sums into sums are the same if they are the same at each vector of one bit. -/
theorem lin_ext {n m : Nat} (f g : BitVec n → BitVec m) (hf : ∀ x y, f (x ^^^ y) = f x ^^^ f y) (hg : ∀ x y, g (x ^^^ y) = g x ^^^ g y)
    (h : ∀ i, i < n → f (BitVec.twoPow n i) = g (BitVec.twoPow n i)) (x : BitVec n) : f x = g x := by
  have zf : f 0#n = 0#m := by have := hf 0#n 0#n; simpa using this
  have zg : g 0#n = 0#m := by have := hg 0#n 0#n; simpa using this
  have key : ∀ k, k ≤ n → f (low x k) = g (low x k) := by
    intro k
    induction k with
    | zero => intro _; simp [low, zf, zg]
    | succ k ih =>
      intro hk
      simp only [low, hf, hg, ih (by omega)]
      by_cases hb : x.getLsbD k
      · rw [if_pos hb, h k (by omega)]
      · rw [if_neg hb, zf, zg]
  have := key n (Nat.le_refl n)
  rwa [low_all] at this
theorem forall_lt_of_all {n : Nat} {p : Nat → Prop} [DecidablePred p] (h : (List.range n).all (fun i => decide (p i)) = true) (i : Nat) (hi : i < n) : p i := by
  have := List.all_eq_true.1 h i (by simpa using hi)
  simpa using this
end Go.Proofs.Ythdapoipfnnaeaa.Bv
/- The arguments of a law, opened: a slice of bytes. -/
namespace Go.Proofs.Ythdapoipfnnaeaa.Open
open Go.ChangeShapes Go.WideShapes Go.ChangeAt Go.RowKit Mem

theorem open_bytes {H : Type} {enc : TypeId × Value → H} {P : Program} {W : World} {T E : TypeId} {r : Reach} {b0 base : Nat} {sp : Nat → Bool} {held : Bool} {v : Value} {d : DataW H} {p : List MemPlace}
    (hT : P.underlying T = some (.slice E)) (hE : P.underlying E = some (.int .u8)) (hC : P.cellsOf E = 1) (hv : Value.okWide P W r b0 T v) (h : DataW.Trod enc P W base sp held T v d p) :
    ∃ (A : Option Addr) (l : List UInt8) (c : Nat), v = .slice A l.length c ∧ l.length ≤ c ∧ c ≤ maxLen ∧ Bytes W W.heap.size A l := by
  obtain ⟨a, len, cap, rfl⟩ := okWide_slice hT hv
  obtain ⟨fuel, hf⟩ := h
  rcases open_ints hT hE hC hf with ⟨hcs, _⟩ | ⟨x, l, c, zs, hcs, _, hl, hm, hz, _, hcell, hwz⟩
  · simp [Value.cells] at hcs
    obtain ⟨rfl, rfl, rfl⟩ := hcs
    exact ⟨none, [], 0, rfl, Nat.le_refl _, Nat.zero_le _, Bytes.nil⟩
  · simp [Value.cells] at hcs
    obtain ⟨rfl, rfl, rfl⟩ := hcs
    refine ⟨some x, (List.range len).map fun i => UInt8.ofNat (zs.getD i 0).toNat, cap, by simp, by simpa using hl, hm, fun hlen => ?_⟩
    simp at hlen
    have hzl : len ≤ zs.length := by rw [hz]; split <;> omega
    have hbd : ∀ i, i < len → 0 ≤ zs.getD i 0 ∧ zs.getD i 0 ≤ 255 := by
      intro i hi
      have hz' : i < zs.length := by omega
      have : zs.getD i 0 ∈ zs := by
        simp [List.getD, hz']
      exact bounds_u8 (hwz _ this)
    obtain ⟨b, off, spot⟩ := x
    have hspot : spot = none := by
      have hc0 := hcell 0 (by omega)
      exact by simpa [Addr.add] using World.cell?_spot hc0
    subst hspot
    refine ⟨b, off, rfl, ?_, fun j v hv => ?_⟩
    · have hc0 := hcell 0 (by omega)
      rw [Addr.add_lit] at hc0
      exact World.block_lt_of_cell? _ _ hc0
    · simp only [List.getElem?_map] at hv
      by_cases hj : j < len
      · have hc0 := hcell j (by omega)
        rw [Addr.add_lit] at hc0
        rw [hc0]
        simp [hj] at hv
        rw [← hv]
        simp only [u8v]
        have hb := hbd j hj
        have e : ((UInt8.ofNat (zs.getD j 0).toNat).toNat : Int) = zs.getD j 0 := by
          rw [UInt8.toNat_ofNat', Nat.mod_eq_of_lt (by show (zs.getD j 0).toNat < 256; omega)]
          omega
        simp only [List.getD] at e
        rw [e]; rfl
      · simp [hj] at hv
theorem u32_of_wf {n : Int} (h : (Lit.int .u32 n).wf = true) : ∃ v : BitVec 32, n = Bv.i32 v := by
  have hb : 0 ≤ n ∧ n ≤ 4294967295 := bounds_u32 h
  exact ⟨BitVec.ofInt 32 n, (Bv.i32_ofInt n hb.1 hb.2).symm⟩
theorem u8_of_wf {n : Int} (h : (Lit.int .u8 n).wf = true) : ∃ c : UInt8, n = (c.toNat : Int) := by
  have hb : 0 ≤ n ∧ n ≤ 255 := bounds_u8 h
  exact ⟨UInt8.ofNat n.toNat, by rw [UInt8.toNat_ofNat', Nat.mod_eq_of_lt (by show n.toNat < 256; omega)]; omega⟩
theorem i64_of_wf {n : Int} (h : (Lit.int .i64 n).wf = true) : -9223372036854775808 ≤ n ∧ n ≤ 9223372036854775807 := bounds_i64 h
theorem u64_of_wf {n : Int} (h : (Lit.int .u64 n).wf = true) : 0 ≤ n ∧ n ≤ 18446744073709551615 := bounds_u64 h
theorem u16_of_wf {n : Int} (h : (Lit.int .u16 n).wf = true) : 0 ≤ n ∧ n ≤ 65535 := bounds_u16 h
theorem i16_of_wf {n : Int} (h : (Lit.int .i16 n).wf = true) : -32768 ≤ n ∧ n ≤ 32767 := bounds_i16 h
end Go.Proofs.Ythdapoipfnnaeaa.Open
/- The arguments of a law, opened: a slice of structs. -/
namespace Go.Proofs.Ythdapoipfnnaeaa.Open
open Go.ChangeShapes Go.WideShapes Go.ChangeAt Go.RowKit Go.Deep Mem

theorem flat_len {α : Type} {cs : α → List Value} {K : Nat} (hK : ∀ x, (cs x).length = K) : ∀ l : List α, (l.flatMap cs).length = l.length * K
  | [] => by simp
  | a :: r => by rw [List.flatMap_cons, List.length_append, hK, flat_len hK r, List.length_cons, Nat.succ_mul, Nat.add_comm]
theorem flat_get {α : Type} {cs : α → List Value} {K : Nat} (hK : ∀ x, (cs x).length = K) : ∀ (l : List α) (j k : Nat) (x : α), l[j]? = some x → k < K → (l.flatMap cs)[j * K + k]? = (cs x)[k]?
  | [], j, k, x, h, _ => by cases h
  | a :: r, 0, k, x, h, hk => by
    injection h with h; subst h
    rw [Nat.zero_mul, Nat.zero_add, List.flatMap_cons, List.getElem?_append_left (by rw [hK]; exact hk)]
  | a :: r, j + 1, k, x, h, hk => by
    rw [List.flatMap_cons, List.getElem?_append_right (by rw [hK, Nat.succ_mul]; omega), hK, show (j + 1) * K + k - K = j * K + k from by rw [Nat.succ_mul]; omega]
    exact flat_get hK r j k x h hk
theorem open_structs {H : Type} {enc : TypeId × Value → H} {P : Program} {W : World} {T E : TypeId} {r : Reach} {b0 base : Nat} {sp : Nat → Bool} {held : Bool} {v : Value} {d : DataW H} {p : List MemPlace}
    {α : Type} (dflt : α) (cs : α → List Value) (K : Nat) (hK0 : 0 < K) (hK : ∀ x, (cs x).length = K) (good : α → Prop) (hT : P.underlying T = some (.slice E)) (hC : P.cellsOf E = K)
    (hfd : ∀ (fuel : Nat) (c : List Value) (x : DataW H × List MemPlace), DataW.trod enc P W base sp held fuel E c = some x → ∃ y, c = cs y ∧ good y)
    (hv : Value.okWide P W r b0 T v) (h : DataW.Trod enc P W base sp held T v d p) :
    ∃ (A : Option Addr) (l : List α) (c : Nat), v = .slice A l.length c ∧ l.length ≤ c ∧ c ≤ maxLen ∧ Cells W W.heap.size A (l.flatMap cs) ∧ ∀ x ∈ l, good x := by
  obtain ⟨a, len, cap, rfl⟩ := okWide_slice hT hv
  obtain ⟨fuel, hf⟩ := h
  rcases open_slice hT hf with ⟨hcs, _⟩ | ⟨x, l, c, m, n, D, Pl, hcs, _, hl, hm, hmm, hx, hel⟩
  · simp [Value.cells] at hcs
    obtain ⟨rfl, rfl, rfl⟩ := hcs
    exact ⟨none, [], 0, rfl, Nat.le_refl _, Nat.zero_le _, Cells.nil, by simp⟩
  · simp [Value.cells] at hcs
    obtain ⟨rfl, rfl, rfl⟩ := hcs
    have hml : len ≤ m := by rw [hmm]; split <;> omega
    have hY : ∀ i, ∃ y : α, i < len → (∀ j v, (cs y)[j]? = some v → W.cell? ((x.add (i * K)).add j) = some v) ∧ good y := by
      intro i
      by_cases hi : i < len
      · obtain ⟨cs', hc, ht⟩ := hel i (by omega)
        rw [hC] at hc
        obtain ⟨_, hcl, hat⟩ := World.cells?_some hc
        obtain ⟨y, rfl, hg⟩ := hfd _ _ _ ht
        refine ⟨y, fun _ => ⟨fun j v hj => ?_, hg⟩⟩
        have hjK : j < K := by
          have := (List.getElem?_eq_some_iff.1 hj).1
          rwa [hK] at this
        rw [hat j hjK, hj]
      · exact ⟨dflt, fun h => absurd h hi⟩
    obtain ⟨Y, hY⟩ := Classical.axiomOfChoice hY
    refine ⟨some x, (List.range len).map Y, cap, by simp, by simpa using hl, hm, fun hlen => ?_, fun y hy => ?_⟩
    · have hlp : 0 < len := by
        rcases Nat.eq_zero_or_pos len with rfl | h
        · simp at hlen
        · exact h
      obtain ⟨b, off, spot⟩ := x
      obtain ⟨v0, hv0⟩ : ∃ v0, (cs (Y 0))[0]? = some v0 := ⟨(cs (Y 0))[0]'(by rw [hK]; exact hK0), List.getElem?_eq_getElem _⟩
      have hc0 := (hY 0 hlp).1 0 _ hv0
      have hspot : spot = none := by
        exact by simpa [Addr.add] using World.cell?_spot hc0
      subst hspot
      rw [Addr.add_lit, Addr.add_lit] at hc0
      refine ⟨b, off, rfl, World.block_lt_of_cell? _ _ hc0, fun j v hj => ?_⟩
      have hjl : j < len * K := by
        have := (List.getElem?_eq_some_iff.1 hj).1
        rwa [flat_len hK, List.length_map, List.length_range] at this
      have hjd : j / K < len := Nat.div_lt_of_lt_mul (by rw [Nat.mul_comm]; exact hjl)
      have hjm : j % K < K := Nat.mod_lt _ hK0
      have e : j = j / K * K + j % K := by rw [Nat.mul_comm]; exact (Nat.div_add_mod j K).symm
      rw [e, flat_get hK ((List.range len).map Y) (j / K) (j % K) (Y (j / K)) (by rw [List.getElem?_map, List.getElem?_range hjd]; rfl) hjm] at hj
      have := (hY (j / K) hjd).1 (j % K) v hj
      rw [Addr.add_lit, Addr.add_lit, Nat.add_assoc, ← e] at this
      exact this
    · obtain ⟨i, hi, rfl⟩ := List.mem_map.1 hy
      exact (hY i (List.mem_range.1 hi)).2
theorem bytes_in {H : Type} {enc : TypeId × Value → H} {P : Program} {W : World} {T E : TypeId} {base fuel : Nat} {sp : Nat → Bool} {held : Bool} {cs : List Value} {x : DataW H × List MemPlace}
    (hT : P.underlying T = some (.slice E)) (hE : P.underlying E = some (.int .u8)) (hC : P.cellsOf E = 1) (hf : DataW.trod enc P W base sp held fuel T cs = some x) :
    ∃ (A : Option Addr) (l : List UInt8) (c : Nat), cs = [.slice A l.length c] ∧ l.length ≤ c ∧ c ≤ maxLen ∧ Bytes W W.heap.size A l := by
  rcases open_ints hT hE hC hf with ⟨hcs, _⟩ | ⟨x, l, c, zs, hcs, _, hl, hm, hz, hx, hcell, hwz⟩
  · exact ⟨none, [], 0, hcs, Nat.le_refl _, Nat.zero_le _, Bytes.nil⟩
  · have hzl : l ≤ zs.length := by rw [hz]; split <;> omega
    refine ⟨some x, (List.range l).map fun i => UInt8.ofNat (zs.getD i 0).toNat, c, by simpa using hcs, by simpa using hl, hm, fun hlen => ?_⟩
    simp at hlen
    have hbd : ∀ i, i < l → 0 ≤ zs.getD i 0 ∧ zs.getD i 0 ≤ 255 := by
      intro i hi
      have hz' : i < zs.length := by omega
      have : zs.getD i 0 ∈ zs := by
        simp [List.getD, hz']
      exact bounds_u8 (hwz _ this)
    obtain ⟨b, off, spot⟩ := x
    have hspot : spot = none := by
      have hc0 := hcell 0 (by omega)
      exact by simpa [Addr.add] using World.cell?_spot hc0
    subst hspot
    refine ⟨b, off, rfl, ?_, fun j v hv => ?_⟩
    · have hc0 := hcell 0 (by omega)
      rw [Addr.add_lit] at hc0
      exact World.block_lt_of_cell? _ _ hc0
    · simp only [List.getElem?_map] at hv
      by_cases hj : j < l
      · have hc0 := hcell j (by omega)
        rw [Addr.add_lit] at hc0
        rw [hc0]
        simp [hj] at hv
        rw [← hv]
        simp only [u8v]
        have hb := hbd j hj
        have e : ((UInt8.ofNat (zs.getD j 0).toNat).toNat : Int) = zs.getD j 0 := by
          rw [UInt8.toNat_ofNat', Nat.mod_eq_of_lt (by show (zs.getD j 0).toNat < 256; omega)]
          omega
        simp only [List.getD] at e
        rw [e]; rfl
      · simp [hj] at hv
end Go.Proofs.Ythdapoipfnnaeaa.Open
/- A matrix, opened. -/
namespace Go.Proofs.Ythdapoipfnnaeaa.Open
open Go.ChangeShapes Go.WideShapes Go.ChangeAt Go.RowKit Go.Deep Mem

/-- What is known of a matrix that comes in. -/
structure MtOk (W : World) (R C : Int) (A : Option Addr) (l : List UInt8) (c : Nat) : Prop where
  row : Bytes W W.heap.size A l
  le : l.length ≤ c
  max : c ≤ maxLen
  rows : -9223372036854775808 ≤ R ∧ R ≤ 9223372036854775807
  cols : -9223372036854775808 ≤ C ∧ C ≤ 9223372036854775807
theorem matrix_trod {H : Type} {enc : TypeId × Value → H} {P : Program} {W : World} {E U : TypeId} {f0 f1 f2 : Field} {base : Nat} {sp : Nat → Bool} {held : Bool}
    (hE : P.underlying E = some (.struct #[f0, f1, f2])) (h1 : oneCellFields P #[f0, f1, f2] = true) (hC : P.cellsOf E = 3) (t0 : P.underlying f0.type = some (.int .i64)) (t1 : P.underlying f1.type = some (.int .i64)) (t2 : P.underlying f2.type = some (.slice U)) (tU : P.underlying U = some (.int .u8)) (cU : P.cellsOf U = 1)
    (fuel : Nat) (cs : List Value) (x : DataW H × List MemPlace) (hf : DataW.trod enc P W base sp held fuel E cs = some x) :
    ∃ R C A l c, cs = [.int .i64 R, .int .i64 C, .slice A (List.length l) c] ∧ MtOk W R C A l c := by
  obtain ⟨ys, n, _, hx, hlen, hyl, hg⟩ := DataW.trod_struct hE hf
  rw [hC] at hlen
  obtain ⟨o0, k0⟩ := hone_of h1 0 f0 rfl
  obtain ⟨o1, k1⟩ := hone_of h1 1 f1 rfl
  obtain ⟨o2, k2⟩ := hone_of h1 2 f2 rfl
  match cs, hlen, ys, hyl with
  | [c0, c1, c2], _, [y0, y1, y2], _ =>
    have g0 := hg 0 f0 rfl
    have g1 := hg 1 f1 rfl
    have g2 := hg 2 f2 rfl
    simp [o0, k0] at g0
    simp [o1, k1] at g1
    simp [o2, k2] at g2
    obtain ⟨n0, e0, _, w0⟩ := DataW.trod_int t0 g0
    obtain ⟨n1, e1, _, w1⟩ := DataW.trod_int t1 g1
    obtain ⟨A, l, c, e2, hle, hm, hb⟩ := bytes_in t2 tU cU g2
    injection e0 with e0 _; injection e1 with e1 _; injection e2 with e2 _
    subst e0; subst e1; subst e2
    have b0 := i64_of_wf w0
    have b1 := i64_of_wf w1
    exact ⟨n0, n1, A, l, c, rfl, hb, hle, hm, ⟨by omega, by omega⟩, ⟨by omega, by omega⟩⟩
theorem open_matrix {H : Type} {enc : TypeId × Value → H} {P : Program} {W : World} {E U : TypeId} {f0 f1 f2 : Field} {r : Reach} {b0 base : Nat} {sp : Nat → Bool} {held : Bool} {v : Value} {d : DataW H} {p : List MemPlace}
    (hE : P.underlying E = some (.struct #[f0, f1, f2])) (h1 : oneCellFields P #[f0, f1, f2] = true) (hC : P.cellsOf E = 3) (t0 : P.underlying f0.type = some (.int .i64)) (t1 : P.underlying f1.type = some (.int .i64)) (t2 : P.underlying f2.type = some (.slice U)) (tU : P.underlying U = some (.int .u8)) (cU : P.cellsOf U = 1)
    (hv : Value.okWide P W r b0 E v) (h : DataW.Trod enc P W base sp held E v d p) :
    ∃ R C A l c, v = .agg #[.int .i64 R, .int .i64 C, .slice A (List.length l) c] ∧ MtOk W R C A l c := by
  obtain ⟨cs, rfl, hs⟩ := okWide_struct hE hv
  obtain ⟨fuel, hf⟩ := h
  obtain ⟨R, C, A, l, c, hy, hg⟩ := matrix_trod hE h1 hC t0 t1 t2 tU cU fuel _ _ hf
  refine ⟨R, C, A, l, c, ?_, hg⟩
  rw [show cs = #[.int .i64 R, .int .i64 C, .slice A (List.length l) c] from Array.ext' (by simpa [Value.cells] using hy)]
end Go.Proofs.Ythdapoipfnnaeaa.Open
/- Numbers of one byte: sums, products, powers of the generator, logarithms. Plain facts, no program in sight. -/
namespace Go.Proofs.Ythdapoipfnnaeaa.Gf
open Bv

/-- The product of two polynomials, by the first k bits of the second one. -/
def cl (a b : Nat) : Nat → Nat
  | 0 => 0
  | k + 1 => if b.testBit k then cl a b k ^^^ (a <<< k) else cl a b k
/-- Its rest, k bits of it being done. -/
def rd (n : Nat) : Nat → Nat
  | 0 => n
  | k + 1 => if (rd n k).testBit (14 - k) then rd n k ^^^ (285 <<< (6 - k)) else rd n k
def mulN (a b : Nat) : Nat := rd (cl a b 8) 7

theorem cl_lt (a b : Nat) (ha : a < 256) : ∀ k, cl a b k < 2 ^ (8 + k)
  | 0 => by simp [cl]
  | k + 1 => by
    have h := cl_lt a b ha k
    have h2 : (2 : Nat) ^ (8 + k) ≤ 2 ^ (8 + (k + 1)) := Nat.pow_le_pow_right (by decide) (by omega)
    have h3 : a <<< k < 2 ^ (8 + (k + 1)) := by
      rw [Nat.shiftLeft_eq]
      have : a * 2 ^ k < 256 * 2 ^ k := Nat.mul_lt_mul_of_pos_right ha (Nat.two_pow_pos k)
      rw [show (256 : Nat) = 2 ^ 8 from rfl, ← Nat.pow_add] at this
      omega
    unfold cl
    split
    · exact Nat.xor_lt_two_pow (Nat.lt_of_lt_of_le h h2) h3
    · exact Nat.lt_of_lt_of_le h h2
theorem cl8_lt (a b k : Nat) (ha : a < 256) (hk : k ≤ 8) : cl a b k < 65536 :=
  Nat.lt_of_lt_of_le (cl_lt a b ha k) (show 2 ^ (8 + k) ≤ 2 ^ 16 from Nat.pow_le_pow_right (by decide) (by omega))
theorem xor_top (x c n : Nat) (hx : x < 2 ^ (n + 1)) (hc : c < 2 ^ (n + 1)) (h1 : x.testBit n = true) (h2 : c.testBit n = true) : x ^^^ c < 2 ^ n := by
  apply Nat.lt_pow_two_of_testBit
  intro i hi
  rw [Nat.testBit_xor]
  by_cases h : i = n
  · subst h; rw [h1, h2]; rfl
  · have hi2 : 2 ^ (n + 1) ≤ 2 ^ i := Nat.pow_le_pow_right (by decide) (by omega)
    rw [Nat.testBit_lt_two_pow (Nat.lt_of_lt_of_le hx hi2), Nat.testBit_lt_two_pow (Nat.lt_of_lt_of_le hc hi2)]; rfl
theorem lt_half (x n : Nat) (hx : x < 2 ^ (n + 1)) (h1 : x.testBit n = false) : x < 2 ^ n := by
  apply Nat.lt_pow_two_of_testBit
  intro i hi
  by_cases h : i = n
  · subst h; exact h1
  · exact Nat.testBit_lt_two_pow (Nat.lt_of_lt_of_le hx (Nat.pow_le_pow_right (by decide) (by omega)))
theorem rd_lt (n : Nat) (hn : n < 2 ^ 15) : ∀ k, k ≤ 7 → rd n k < 2 ^ (15 - k)
  | 0, _ => by simpa [rd] using hn
  | k + 1, hk => by
    have h := rd_lt n hn k (by omega)
    have e : 15 - k = (15 - (k + 1)) + 1 := by omega
    have e2 : 14 - k = 15 - (k + 1) := by omega
    rw [e] at h
    unfold rd
    rw [e2]
    split
    · rename_i ht
      refine xor_top _ _ _ h ?_ ht ?_
      · rcases (by omega : k = 0 ∨ k = 1 ∨ k = 2 ∨ k = 3 ∨ k = 4 ∨ k = 5 ∨ k = 6) with rfl | rfl | rfl | rfl | rfl | rfl | rfl <;> decide
      · rcases (by omega : k = 0 ∨ k = 1 ∨ k = 2 ∨ k = 3 ∨ k = 4 ∨ k = 5 ∨ k = 6) with rfl | rfl | rfl | rfl | rfl | rfl | rfl <;> decide
    · rename_i ht
      exact lt_half _ _ h (by simpa using ht)
theorem cl_lt' (a b : Nat) (ha : a < 256) : cl a b 8 < 2 ^ 15 := by
  have key : ∀ k, k ≤ 8 → 0 < k → cl a b k < 2 ^ (7 + k) := by
    intro k
    induction k with
    | zero => intro _ h; omega
    | succ k ih =>
      intro hk _
      have h3 : a <<< k < 2 ^ (7 + (k + 1)) := by
        rw [Nat.shiftLeft_eq]
        have : a * 2 ^ k < 256 * 2 ^ k := Nat.mul_lt_mul_of_pos_right ha (Nat.two_pow_pos k)
        rw [show (256 : Nat) = 2 ^ 8 from rfl, ← Nat.pow_add] at this
        rwa [show 7 + (k + 1) = 8 + k by omega]
      have h2 : cl a b k < 2 ^ (7 + (k + 1)) := by
        by_cases hz : k = 0
        · subst hz; simp [cl]
        · exact Nat.lt_of_lt_of_le (ih (by omega) (by omega)) (Nat.pow_le_pow_right (by decide) (by omega))
      unfold cl
      split
      · exact Nat.xor_lt_two_pow h2 h3
      · exact h2
  exact key 8 (Nat.le_refl _) (by decide)
theorem mulN_lt (a b : Nat) (ha : a < 256) : mulN a b < 256 := rd_lt _ (cl_lt' a b ha) 7 (by decide)

theorem xor4 (a b c d : Nat) : (a ^^^ b) ^^^ (c ^^^ d) = (a ^^^ c) ^^^ (b ^^^ d) := by
  rw [Nat.xor_assoc, Nat.xor_assoc, ← Nat.xor_assoc b, ← Nat.xor_assoc c, Nat.xor_comm b c]
theorem cl_left (a a' b : Nat) : ∀ k, cl (a ^^^ a') b k = cl a b k ^^^ cl a' b k
  | 0 => by simp [cl]
  | k + 1 => by
    unfold cl
    split
    · rw [cl_left a a' b k, Nat.shiftLeft_xor_distrib, xor4]
    · exact cl_left a a' b k
theorem cl_right (a b b' : Nat) : ∀ k, cl a (b ^^^ b') k = cl a b k ^^^ cl a b' k
  | 0 => by simp [cl]
  | k + 1 => by
    unfold cl
    rw [Nat.testBit_xor, cl_right a b b' k]
    cases h1 : b.testBit k <;> cases h2 : b'.testBit k
    · rfl
    · simp [Nat.xor_assoc]
    · simp only [Bool.true_bne, Bool.not_false, if_true, Bool.false_eq_true, if_false]
      rw [Nat.xor_assoc, Nat.xor_assoc, Nat.xor_comm (cl a b' k)]
    · simp only [bne_self_eq_false, Bool.false_eq_true, if_false, if_true]
      rw [xor4, Nat.xor_self, Nat.xor_zero]
theorem rd_xor (m n : Nat) : ∀ k, rd (m ^^^ n) k = rd m k ^^^ rd n k
  | 0 => rfl
  | k + 1 => by
    unfold rd
    rw [rd_xor m n k, Nat.testBit_xor]
    cases h1 : (rd m k).testBit (14 - k) <;> cases h2 : (rd n k).testBit (14 - k)
    · rfl
    · simp [Nat.xor_assoc]
    · simp only [Bool.true_bne, Bool.not_false, if_true, Bool.false_eq_true, if_false]
      rw [Nat.xor_assoc, Nat.xor_assoc, Nat.xor_comm (rd n k)]
    · simp only [bne_self_eq_false, Bool.false_eq_true, if_false, if_true]
      rw [xor4, Nat.xor_self, Nat.xor_zero]
theorem mulN_left (a a' b : Nat) : mulN (a ^^^ a') b = mulN a b ^^^ mulN a' b := by unfold mulN; rw [cl_left, rd_xor]
theorem mulN_right (a b b' : Nat) : mulN a (b ^^^ b') = mulN a b ^^^ mulN a b' := by unfold mulN; rw [cl_right, rd_xor]

/-- The product of two bytes. -/
def mulB (x y : BitVec 8) : BitVec 8 := BitVec.ofNat 8 (mulN x.toNat y.toNat)
theorem mulB_toNat (x y : BitVec 8) : (mulB x y).toNat = mulN x.toNat y.toNat := by
  rw [mulB, BitVec.toNat_ofNat]; exact Nat.mod_eq_of_lt (mulN_lt _ _ x.isLt)
theorem mulB_left (x x' y : BitVec 8) : mulB (x ^^^ x') y = mulB x y ^^^ mulB x' y := by
  apply BitVec.eq_of_toNat_eq; rw [BitVec.toNat_xor, mulB_toNat, mulB_toNat, mulB_toNat, BitVec.toNat_xor, mulN_left]
theorem mulB_right (x y y' : BitVec 8) : mulB x (y ^^^ y') = mulB x y ^^^ mulB x y' := by
  apply BitVec.eq_of_toNat_eq; rw [BitVec.toNat_xor, mulB_toNat, mulB_toNat, mulB_toNat, BitVec.toNat_xor, mulN_right]
theorem mulB_comm (x y : BitVec 8) : mulB x y = mulB y x := by
  refine lin_ext (fun x => mulB x y) (fun x => mulB y x) (fun _ _ => mulB_left _ _ _) (fun _ _ => mulB_right _ _ _) (fun i hi => ?_) x
  refine lin_ext (fun y => mulB (BitVec.twoPow 8 i) y) (fun y => mulB y (BitVec.twoPow 8 i)) (fun _ _ => mulB_right _ _ _) (fun _ _ => mulB_left _ _ _) (fun j hj => ?_) y
  exact forall_lt_of_all (p := fun j => mulB (BitVec.twoPow 8 i) (BitVec.twoPow 8 j) = mulB (BitVec.twoPow 8 j) (BitVec.twoPow 8 i)) (n := 8) (forall_lt_of_all (n := 8) (p := fun i => (List.range 8).all (fun j => decide (mulB (BitVec.twoPow 8 i) (BitVec.twoPow 8 j) = mulB (BitVec.twoPow 8 j) (BitVec.twoPow 8 i))) = true) (by decide +kernel) i hi) j hj
theorem mulB_assoc (x y z : BitVec 8) : mulB (mulB x y) z = mulB x (mulB y z) := by
  refine lin_ext (fun x => mulB (mulB x y) z) (fun x => mulB x (mulB y z)) (fun _ _ => by simp only [mulB_left]) (fun _ _ => by simp only [mulB_left]) (fun i hi => ?_) x
  refine lin_ext (fun y => mulB (mulB (BitVec.twoPow 8 i) y) z) (fun y => mulB (BitVec.twoPow 8 i) (mulB y z)) (fun _ _ => by simp only [mulB_left, mulB_right]) (fun _ _ => by simp only [mulB_left, mulB_right]) (fun j hj => ?_) y
  refine lin_ext (fun z => mulB (mulB (BitVec.twoPow 8 i) (BitVec.twoPow 8 j)) z) (fun z => mulB (BitVec.twoPow 8 i) (mulB (BitVec.twoPow 8 j) z)) (fun _ _ => by simp only [mulB_right]) (fun _ _ => by simp only [mulB_right]) (fun k hk => ?_) z
  have h := forall_lt_of_all (n := 8) (p := fun i => (List.range 8).all (fun j => (List.range 8).all (fun k => decide (mulB (mulB (BitVec.twoPow 8 i) (BitVec.twoPow 8 j)) (BitVec.twoPow 8 k) = mulB (BitVec.twoPow 8 i) (mulB (BitVec.twoPow 8 j) (BitVec.twoPow 8 k))))) = true) (by decide +kernel) i hi
  have h2 := List.all_eq_true.1 (List.all_eq_true.1 h j (by simpa using hj)) k (by simpa using hk)
  simpa using h2
theorem mulB_one (x : BitVec 8) : mulB x 1#8 = x := by
  refine lin_ext (fun x => mulB x 1#8) (fun x => x) (fun _ _ => mulB_left _ _ _) (fun _ _ => rfl) (fun i hi => ?_) x
  exact forall_lt_of_all (n := 8) (p := fun i => mulB (BitVec.twoPow 8 i) 1#8 = BitVec.twoPow 8 i) (by decide +kernel) i hi
theorem mulB_zero (x : BitVec 8) : mulB x 0#8 = 0#8 := by
  have := mulB_right x 0#8 0#8; simpa using this

def mul (a b : UInt8) : UInt8 := ⟨mulB a.toBitVec b.toBitVec⟩
theorem mul_toNat (a b : UInt8) : (mul a b).toNat = mulN a.toNat b.toNat := mulB_toNat _ _
theorem ext {a b : UInt8} (h : a.toBitVec = b.toBitVec) : a = b := UInt8.toBitVec_inj.1 h
theorem mul_comm (a b : UInt8) : mul a b = mul b a := ext (mulB_comm _ _)
theorem mul_assoc (a b c : UInt8) : mul (mul a b) c = mul a (mul b c) := ext (mulB_assoc _ _ _)
theorem mul_xor (a b c : UInt8) : mul a (b ^^^ c) = mul a b ^^^ mul a c := ext (mulB_right _ _ _)
theorem xor_mul (a b c : UInt8) : mul (a ^^^ b) c = mul a c ^^^ mul b c := ext (mulB_left _ _ _)
theorem mul_one (a : UInt8) : mul a 1 = a := ext (mulB_one _)
theorem one_mul (a : UInt8) : mul 1 a = a := by rw [mul_comm, mul_one]
theorem mul_zero (a : UInt8) : mul a 0 = 0 := ext (mulB_zero _)
theorem zero_mul (a : UInt8) : mul 0 a = 0 := by rw [mul_comm, mul_zero]
theorem mul_left_comm (a b c : UInt8) : mul a (mul b c) = mul b (mul a c) := by rw [← mul_assoc, mul_comm a b, mul_assoc]

/-- The powers of the generator, and the logarithms. -/
def pwl : List Nat :=
  [1, 2, 4, 8, 16, 32, 64, 128, 29, 58, 116, 232, 205, 135, 19, 38, 76, 152, 45, 90, 180, 117, 234, 201, 143, 3, 6, 12, 24, 48, 96, 192, 157, 39, 78,
   156, 37, 74, 148, 53, 106, 212, 181, 119, 238, 193, 159, 35, 70, 140, 5, 10, 20, 40, 80, 160, 93, 186, 105, 210, 185, 111, 222, 161, 95, 190, 97,
   194, 153, 47, 94, 188, 101, 202, 137, 15, 30, 60, 120, 240, 253, 231, 211, 187, 107, 214, 177, 127, 254, 225, 223, 163, 91, 182, 113, 226, 217,
   175, 67, 134, 17, 34, 68, 136, 13, 26, 52, 104, 208, 189, 103, 206, 129, 31, 62, 124, 248, 237, 199, 147, 59, 118, 236, 197, 151, 51, 102, 204,
   133, 23, 46, 92, 184, 109, 218, 169, 79, 158, 33, 66, 132, 21, 42, 84, 168, 77, 154, 41, 82, 164, 85, 170, 73, 146, 57, 114, 228, 213, 183, 115,
   230, 209, 191, 99, 198, 145, 63, 126, 252, 229, 215, 179, 123, 246, 241, 255, 227, 219, 171, 75, 150, 49, 98, 196, 149, 55, 110, 220, 165, 87,
   174, 65, 130, 25, 50, 100, 200, 141, 7, 14, 28, 56, 112, 224, 221, 167, 83, 166, 81, 162, 89, 178, 121, 242, 249, 239, 195, 155, 43, 86, 172, 69,
   138, 9, 18, 36, 72, 144, 61, 122, 244, 245, 247, 243, 251, 235, 203, 139, 11, 22, 44, 88, 176, 125, 250, 233, 207, 131, 27, 54, 108, 216, 173, 71,
   142]
def lgl : List Nat :=
  [0, 0, 1, 25, 2, 50, 26, 198, 3, 223, 51, 238, 27, 104, 199, 75, 4, 100, 224, 14, 52, 141, 239, 129, 28, 193, 105, 248, 200, 8, 76, 113, 5, 138,
   101, 47, 225, 36, 15, 33, 53, 147, 142, 218, 240, 18, 130, 69, 29, 181, 194, 125, 106, 39, 249, 185, 201, 154, 9, 120, 77, 228, 114, 166, 6, 191,
   139, 98, 102, 221, 48, 253, 226, 152, 37, 179, 16, 145, 34, 136, 54, 208, 148, 206, 143, 150, 219, 189, 241, 210, 19, 92, 131, 56, 70, 64, 30, 66,
   182, 163, 195, 72, 126, 110, 107, 58, 40, 84, 250, 133, 186, 61, 202, 94, 155, 159, 10, 21, 121, 43, 78, 212, 229, 172, 115, 243, 167, 87, 7, 112,
   192, 247, 140, 128, 99, 13, 103, 74, 222, 237, 49, 197, 254, 24, 227, 165, 153, 119, 38, 184, 180, 124, 17, 68, 146, 217, 35, 32, 137, 46, 55, 63,
   209, 91, 149, 188, 207, 205, 144, 135, 151, 178, 220, 252, 190, 97, 242, 86, 211, 171, 20, 42, 93, 158, 132, 60, 57, 83, 71, 109, 65, 162, 31, 45,
   67, 216, 183, 123, 164, 118, 196, 23, 73, 236, 127, 12, 111, 246, 108, 161, 59, 82, 41, 157, 85, 170, 251, 96, 134, 177, 187, 204, 62, 90, 203,
   89, 95, 176, 156, 169, 160, 81, 11, 245, 22, 235, 122, 117, 44, 215, 79, 174, 213, 233, 230, 231, 173, 232, 116, 214, 244, 234, 168, 80, 88, 175]
def pw : Nat → UInt8
  | 0 => 1
  | n + 1 => mul (pw n) 2
def lg (a : UInt8) : Nat := lgl.getD a.toNat 0
theorem pwl_step : (List.range 254).all (fun i => decide (mulN (pwl.getD i 0) 2 = pwl.getD (i + 1) 0)) = true := by decide +kernel
theorem pw_list (i : Nat) (hi : i < 255) : (pw i).toNat = pwl.getD i 0 := by
  induction i with
  | zero => rfl
  | succ i ih =>
    rw [pw, mul_toNat, ih (by omega)]
    exact forall_lt_of_all (n := 254) (p := fun i => mulN (pwl.getD i 0) 2 = pwl.getD (i + 1) 0) pwl_step i (by omega)
theorem lg_all : (List.range 256).all (fun a => decide (lgl.getD a 0 < 255) && (decide (a = 0) || decide (pwl.getD (lgl.getD a 0) 0 = a))) = true := by decide +kernel
theorem lg_lt (a : UInt8) : lg a < 255 := by
  have := List.all_eq_true.1 lg_all a.toNat (by simpa using a.toNat_lt)
  simp only [Bool.and_eq_true, decide_eq_true_iff] at this
  exact this.1
theorem pw_lg (a : UInt8) (ha : a ≠ 0) : pw (lg a) = a := by
  have := List.all_eq_true.1 lg_all a.toNat (by simpa using a.toNat_lt)
  simp only [Bool.and_eq_true, Bool.or_eq_true, decide_eq_true_iff] at this
  apply UInt8.toNat_inj.1
  rw [pw_list _ (lg_lt a)]
  rcases this.2 with h | h
  · exact absurd (UInt8.toNat_inj.1 (by simpa using h)) ha
  · exact h
theorem pwl_back : (List.range 255).all (fun i => decide (lgl.getD (pwl.getD i 0) 0 = i) && decide (pwl.getD i 0 ≠ 0)) = true := by decide +kernel
theorem lg_pw (i : Nat) (hi : i < 255) : lg (pw i) = i := by
  have := List.all_eq_true.1 pwl_back i (by simpa using hi)
  simp only [Bool.and_eq_true, decide_eq_true_iff] at this
  rw [lg, pw_list i hi]; exact this.1
theorem pw_add (m n : Nat) : pw (m + n) = mul (pw m) (pw n) := by
  induction n with
  | zero => rw [Nat.add_zero, pw, mul_one]
  | succ n ih => rw [Nat.add_succ, pw, ih, pw, mul_assoc]
theorem pw_255 : pw 255 = 1 := by
  show mul (pw 254) 2 = 1
  apply UInt8.toNat_inj.1
  rw [mul_toNat, pw_list 254 (by decide)]; decide +kernel
theorem pw_mul255 (k : Nat) : pw (255 * k) = 1 := by
  induction k with
  | zero => rfl
  | succ k ih => rw [Nat.mul_succ, pw_add, ih, pw_255, mul_one]
theorem pw_mod (n : Nat) : pw (n % 255) = pw n := by
  conv => rhs; rw [← Nat.mod_add_div n 255, pw_add, pw_mul255, mul_one]
theorem pw_ne (n : Nat) : pw n ≠ 0 := by
  rw [← pw_mod]
  have hi : n % 255 < 255 := Nat.mod_lt _ (by decide)
  have := List.all_eq_true.1 pwl_back (n % 255) (by simpa using hi)
  simp only [Bool.and_eq_true, decide_eq_true_iff] at this
  intro h
  have h2 := congrArg UInt8.toNat h
  rw [pw_list _ hi] at h2
  exact this.2 h2
theorem lg_pw_mod (n : Nat) : lg (pw n) = n % 255 := by rw [← pw_mod]; exact lg_pw _ (Nat.mod_lt _ (by decide))
theorem pw_inj {m n : Nat} (h : pw m = pw n) : m % 255 = n % 255 := by rw [← lg_pw_mod, h, lg_pw_mod]
theorem mul_pw {a b : UInt8} (ha : a ≠ 0) (hb : b ≠ 0) : mul a b = pw (lg a + lg b) := by rw [pw_add, pw_lg a ha, pw_lg b hb]
theorem mul_eq_zero {a b : UInt8} (h : mul a b = 0) : a = 0 ∨ b = 0 := by
  by_cases ha : a = 0
  · exact .inl ha
  · by_cases hb : b = 0
    · exact .inr hb
    · rw [mul_pw ha hb] at h; exact absurd h (pw_ne _)
theorem mul_ne {a b : UInt8} (ha : a ≠ 0) (hb : b ≠ 0) : mul a b ≠ 0 := fun h => (mul_eq_zero h).elim ha hb
theorem lg_mul {a b : UInt8} (ha : a ≠ 0) (hb : b ≠ 0) : lg (mul a b) = (lg a + lg b) % 255 := by rw [mul_pw ha hb, lg_pw_mod]

/-- The inverse; the quotient. -/
def inv (a : UInt8) : UInt8 := if a = 0 then 0 else pw (255 - lg a)
theorem inv_mul {a : UInt8} (ha : a ≠ 0) : mul (inv a) a = 1 := by
  have h := lg_lt a
  unfold inv; rw [if_neg ha]
  conv => lhs; arg 2; rw [← pw_lg a ha]
  rw [← pw_add, show 255 - lg a + lg a = 255 by omega, pw_255]
theorem mul_inv {a : UInt8} (ha : a ≠ 0) : mul a (inv a) = 1 := by rw [mul_comm, inv_mul ha]
theorem inv_ne {a : UInt8} (ha : a ≠ 0) : inv a ≠ 0 := by unfold inv; rw [if_neg ha]; exact pw_ne _
theorem inv_of {a b : UInt8} (h : mul a b = 1) : b = inv a := by
  have ha : a ≠ 0 := by rintro rfl; rw [zero_mul] at h; exact absurd h (by decide)
  rw [← one_mul b, ← inv_mul ha, mul_assoc, h, mul_one]
def div (a b : UInt8) : UInt8 := mul a (inv b)
theorem div_pw {a b : UInt8} (ha : a ≠ 0) (hb : b ≠ 0) : div a b = pw (lg a + 255 - lg b) := by
  have h := lg_lt b
  unfold div inv; rw [if_neg hb]
  conv => lhs; arg 1; rw [← pw_lg a ha]
  rw [← pw_add]; congr 1; omega
theorem zero_div (b : UInt8) : div 0 b = 0 := zero_mul _
theorem one_div (b : UInt8) : div 1 b = inv b := one_mul _
theorem div_zero (a : UInt8) : div a 0 = 0 := by unfold div inv; rw [if_pos rfl, mul_zero]
theorem mul_div {a b : UInt8} (hb : b ≠ 0) : div (mul a b) b = a := by rw [div, mul_assoc, mul_inv hb, mul_one]
theorem div_mul {a b : UInt8} (hb : b ≠ 0) : mul (div a b) b = a := by rw [div, mul_assoc, inv_mul hb, mul_one]

/-- A power by so many products. -/
def rp (a : UInt8) : Nat → UInt8
  | 0 => 1
  | n + 1 => mul (rp a n) a
theorem rp_pw {a : UInt8} (ha : a ≠ 0) (n : Nat) : rp a n = pw (lg a * n) := by
  induction n with
  | zero => rfl
  | succ n ih => rw [rp, ih, Nat.mul_succ, pw_add, pw_lg a ha]
/-- A power. -/
def pow (a : UInt8) (n : Int) : UInt8 := if n = 0 then 1 else if a = 0 then 0 else rp a (n % 255).toNat
theorem pow_zero (a : UInt8) : pow a 0 = 1 := if_pos rfl
theorem zero_pow {n : Int} (h : n ≠ 0) : pow 0 n = 0 := by rw [pow, if_neg h, if_pos rfl]
theorem pow_pw {a : UInt8} (ha : a ≠ 0) (n : Int) : pow a n = pw (lg a * (n % 255).toNat) := by
  unfold pow
  by_cases h : n = 0
  · subst h; rfl
  · rw [if_neg h, if_neg ha, rp_pw ha]
theorem lg_two : lg 2 = 1 := by decide +kernel
theorem pow_two (n : Int) : pow 2 n = pw (n % 255).toNat := by rw [pow_pw (by decide), lg_two, Nat.one_mul]
theorem pw_cong {m n : Nat} (h : m % 255 = n % 255) : pw m = pw n := by rw [← pw_mod m, h, pw_mod]
theorem pow_add {a : UInt8} (ha : a ≠ 0) (m n : Int) : pow a (m + n) = mul (pow a m) (pow a n) := by
  rw [pow_pw ha, pow_pw ha, pow_pw ha, ← pw_add, ← Nat.mul_add]
  apply pw_cong
  have e : (((m + n) % 255).toNat) % 255 = ((m % 255).toNat + (n % 255).toNat) % 255 := by omega
  rw [Nat.mul_mod, e, ← Nat.mul_mod]

/-- The order. -/
def ord (a : UInt8) : Nat := if a = 0 then 0 else 255 / Nat.gcd (lg a) 255
theorem pw_one {n : Nat} : pw n = 1 ↔ n % 255 = 0 := by
  constructor
  · intro h; have := pw_inj (m := n) (n := 0) h; simpa using this
  · intro h; rw [← pw_mod, h]; rfl
theorem rp_one {a : UInt8} (ha : a ≠ 0) (n : Nat) : rp a n = 1 ↔ lg a * n % 255 = 0 := by rw [rp_pw ha, pw_one]
theorem ord_all : (List.range 255).all (fun l => let o := 255 / Nat.gcd l 255; decide (0 < o) && decide (o ≤ 255) && decide (255 % o = 0) && decide (l * o % 255 = 0) && (List.range o).all (fun n => decide (n = 0) || decide (l * n % 255 ≠ 0))) = true := by decide +kernel
theorem ord_facts {a : UInt8} (ha : a ≠ 0) : 0 < ord a ∧ ord a ≤ 255 ∧ 255 % ord a = 0 ∧ rp a (ord a) = 1 ∧ ∀ n, 0 < n → n < ord a → rp a n ≠ 1 := by
  have h := List.all_eq_true.1 ord_all (lg a) (by simpa using lg_lt a)
  simp only [Bool.and_eq_true, decide_eq_true_iff] at h
  have e : ord a = 255 / Nat.gcd (lg a) 255 := by rw [ord, if_neg ha]
  rw [← e] at h
  obtain ⟨⟨⟨⟨h1, h2⟩, h3⟩, h4⟩, h5⟩ := h
  refine ⟨h1, h2, h3, (rp_one ha _).2 h4, fun n h0 hn => ?_⟩
  have := List.all_eq_true.1 h5 n (by simpa using hn)
  simp only [Bool.or_eq_true, decide_eq_true_iff] at this
  rw [Ne, rp_one ha]
  rcases this with h | h
  · omega
  · exact h
end Go.Proofs.Ythdapoipfnnaeaa.Gf
/- Polynomials over the numbers of one byte, as lists of their coefficients, the lowest first. Plain facts, no program in sight. -/
namespace Go.Proofs.Ythdapoipfnnaeaa.Pl
open Gf

/-- A coefficient; 0 behind the list. -/
def cf (l : List UInt8) (i : Nat) : UInt8 := l.getD i 0
theorem cf_nil (i : Nat) : cf [] i = 0 := rfl
theorem cf_zero (a : UInt8) (r : List UInt8) : cf (a :: r) 0 = a := rfl
theorem cf_succ (a : UInt8) (r : List UInt8) (i : Nat) : cf (a :: r) (i + 1) = cf r i := rfl
theorem cf_ge {l : List UInt8} {i : Nat} (h : l.length ≤ i) : cf l i = 0 := by simp [cf, List.getD, List.getElem?_eq_none h]
theorem cf_lt {l : List UInt8} {i : Nat} (h : i < l.length) : cf l i = l[i] := by simp [cf, List.getD, h]
/-- The same polynomial. -/
def Eqv (a b : List UInt8) : Prop := ∀ i, cf a i = cf b i
theorem Eqv.refl (a : List UInt8) : Eqv a a := fun _ => rfl
theorem Eqv.symm {a b : List UInt8} (h : Eqv a b) : Eqv b a := fun i => (h i).symm
theorem Eqv.trans {a b c : List UInt8} (h : Eqv a b) (k : Eqv b c) : Eqv a c := fun i => (h i).trans (k i)

/-- Without noughts behind. -/
def trim : List UInt8 → List UInt8
  | [] => []
  | a :: r => if a = 0 ∧ trim r = [] then [] else a :: trim r
theorem cf_trim : ∀ (l : List UInt8) (i : Nat), cf (trim l) i = cf l i
  | [], _ => rfl
  | a :: r, i => by
    unfold trim
    split
    · rename_i h
      have h2 := cf_trim r
      rw [h.2] at h2
      cases i with
      | zero => rw [cf_zero, h.1]; rfl
      | succ i => rw [cf_succ, ← h2 i]; rfl
    · cases i with
      | zero => rfl
      | succ i => rw [cf_succ, cf_succ]; exact cf_trim r i
theorem trim_eqv (l : List UInt8) : Eqv (trim l) l := cf_trim l
theorem trim_nil_iff (l : List UInt8) : trim l = [] ↔ ∀ i, cf l i = 0 := by
  induction l with
  | nil => simp [trim, cf_nil]
  | cons a r ih =>
    unfold trim
    by_cases h : a = 0 ∧ trim r = []
    · rw [if_pos h]
      refine ⟨fun _ i => ?_, fun _ => rfl⟩
      cases i with
      | zero => exact h.1
      | succ i => exact ih.1 h.2 i
    · rw [if_neg h]
      refine ⟨fun e => ?_, fun e => absurd ⟨e 0, ih.2 fun i => e (i + 1)⟩ h⟩
      cases e
theorem trim_congr {a b : List UInt8} (h : Eqv a b) : trim a = trim b := by
  induction a generalizing b with
  | nil => exact ((trim_nil_iff b).2 fun i => (h i).symm).symm
  | cons x r ih =>
    cases b with
    | nil => exact (trim_nil_iff _).2 h
    | cons y s =>
      have h0 : x = y := h 0
      have h1 : trim r = trim s := ih fun i => h (i + 1)
      unfold trim; rw [h0, h1]
theorem trim_trim (l : List UInt8) : trim (trim l) = trim l := trim_congr (trim_eqv l)
theorem eqv_of_trim {a b : List UInt8} (h : trim a = trim b) : Eqv a b := fun i => by rw [← cf_trim a, h, cf_trim]
theorem trim_len : ∀ (l : List UInt8), (trim l).length ≤ l.length
  | [] => Nat.le_refl _
  | a :: r => by
    unfold trim
    split
    · simp
    · have := trim_len r; simp; omega
/-- The last coefficient that is left is not 0. -/
theorem trim_last : ∀ (l : List UInt8), trim l ≠ [] → cf l ((trim l).length - 1) ≠ 0
  | [], h => absurd rfl h
  | a :: r, h => by
    unfold trim at h ⊢
    split at h
    · exact absurd rfl h
    · rename_i hn
      rw [if_neg hn]
      by_cases hr : trim r = []
      · rw [hr]
        simp only [List.length_singleton, Nat.sub_self, cf_zero]
        exact fun e => hn ⟨e, hr⟩
      · have := trim_last r hr
        have hl : 0 < (trim r).length := List.length_pos_iff.2 hr
        rw [List.length_cons, Nat.add_sub_cancel]
        obtain ⟨m, hm⟩ : ∃ m, (trim r).length = m + 1 := ⟨(trim r).length - 1, by omega⟩
        rw [hm] at this ⊢
        exact this
theorem cf_trim_ge {l : List UInt8} {i : Nat} (h : (trim l).length ≤ i) : cf l i = 0 := by rw [← cf_trim]; exact cf_ge h
/-- The first n are what is left, if behind them are noughts alone and the last one is not. -/
theorem trim_take {l : List UInt8} {n : Nat} (hn : n ≤ l.length) (h0 : ∀ i, n ≤ i → cf l i = 0) (h1 : n = 0 ∨ cf l (n - 1) ≠ 0) : trim l = l.take n := by
  have e : Eqv l (l.take n) := fun i => by
    by_cases hi : i < n
    · rw [cf_lt (by omega), cf_lt (by simp; omega)]; simp
    · rw [h0 i (by omega), cf_ge (by simp; omega)]
  rw [trim_congr e]
  have h2 : (l.take n).length = n := by simp; omega
  by_cases hz : n = 0
  · subst hz; rfl
  · have hl : cf (l.take n) (n - 1) ≠ 0 := by rw [← e]; exact h1.resolve_left hz
    have key : ∀ (m : List UInt8), m ≠ [] → cf m (m.length - 1) ≠ 0 → trim m = m := by
      intro m
      induction m with
      | nil => intro h; exact absurd rfl h
      | cons a r ih =>
        intro _ h
        unfold trim
        by_cases hr : r = []
        · subst hr
          rw [if_neg]; · rfl
          rintro ⟨h3, _⟩; exact h h3
        · have hlr : 0 < r.length := List.length_pos_iff.2 hr
          obtain ⟨k, hk⟩ : ∃ k, r.length = k + 1 := ⟨r.length - 1, by omega⟩
          have := ih hr (by rw [List.length_cons, hk] at h; rw [hk]; exact h)
          rw [this, if_neg (by rintro ⟨_, h3⟩; exact hr h3)]
    exact key _ (by intro e2; rw [e2] at h2; simp at h2; omega) (by rw [h2]; exact hl)

/-- Sums. -/
def add : List UInt8 → List UInt8 → List UInt8
  | [], b => b
  | a, [] => a
  | x :: r, y :: s => (x ^^^ y) :: add r s
theorem cf_add : ∀ (a b : List UInt8) (i : Nat), cf (add a b) i = cf a i ^^^ cf b i
  | [], b, i => by simp [add, cf_nil]
  | a :: r, [], i => by simp [add, cf_nil]
  | x :: r, y :: s, 0 => rfl
  | x :: r, y :: s, i + 1 => cf_add r s i
/-- Times a number. -/
def sc (c : UInt8) (l : List UInt8) : List UInt8 := l.map (mul c)
theorem cf_sc (c : UInt8) (l : List UInt8) (i : Nat) : cf (sc c l) i = mul c (cf l i) := by
  by_cases h : i < l.length
  · rw [cf_lt h, cf_lt (by simpa [sc] using h)]; simp [sc]
  · rw [cf_ge (l := l) (by omega), cf_ge (l := sc c l) (by rw [sc, List.length_map]; omega), mul_zero]
/-- Products. -/
def mulP : List UInt8 → List UInt8 → List UInt8
  | [], _ => []
  | x :: r, b => add (sc x b) (0 :: mulP r b)
theorem cf_shift (l : List UInt8) (i : Nat) : cf (0 :: l) i = if i = 0 then 0 else cf l (i - 1) := by
  cases i with
  | zero => rfl
  | succ i => rfl
theorem cf_mulP (x : UInt8) (r b : List UInt8) (i : Nat) : cf (mulP (x :: r) b) i = mul x (cf b i) ^^^ (if i = 0 then 0 else cf (mulP r b) (i - 1)) := by
  rw [mulP, cf_add, cf_sc, cf_shift]
theorem xor_zero (a : UInt8) : a ^^^ 0 = a := UInt8.xor_zero
theorem xor4 (a b c d : UInt8) : (a ^^^ b) ^^^ (c ^^^ d) = (a ^^^ c) ^^^ (b ^^^ d) := by
  rw [UInt8.xor_assoc, UInt8.xor_assoc, ← UInt8.xor_assoc b, ← UInt8.xor_assoc c, UInt8.xor_comm b c]
theorem add_congr {a a' b b' : List UInt8} (h : Eqv a a') (k : Eqv b b') : Eqv (add a b) (add a' b') := fun i => by rw [cf_add, cf_add, h, k]
theorem add_comm (a b : List UInt8) : Eqv (add a b) (add b a) := fun i => by rw [cf_add, cf_add, UInt8.xor_comm]
theorem add_assoc (a b c : List UInt8) : Eqv (add (add a b) c) (add a (add b c)) := fun i => by simp only [cf_add, UInt8.xor_assoc]
theorem add_self (a : List UInt8) : Eqv (add a a) [] := fun i => by rw [cf_add, UInt8.xor_self]; rfl
theorem mulP_right {b b' : List UInt8} (h : Eqv b b') : ∀ a, Eqv (mulP a b) (mulP a b')
  | [] => Eqv.refl _
  | x :: r => fun i => by rw [cf_mulP, cf_mulP, h i, mulP_right h r]
theorem mulP_nil : ∀ a, Eqv (mulP a []) []
  | [] => Eqv.refl _
  | x :: r => fun i => by
    rw [cf_mulP, cf_nil, mul_zero]
    split
    · rfl
    · rw [mulP_nil r, cf_nil, xor_zero]
theorem mulP_zeros {a : List UInt8} (b : List UInt8) (h : ∀ i, cf a i = 0) : Eqv (mulP a b) [] := by
  induction a with
  | nil => exact Eqv.refl _
  | cons x r ih =>
    intro i
    have hx : x = 0 := h 0
    rw [cf_mulP, hx, zero_mul]
    split
    · rfl
    · rw [ih fun i => h (i + 1), cf_nil, cf_nil, xor_zero]
theorem mulP_left {a a' : List UInt8} (h : Eqv a a') (b : List UInt8) : Eqv (mulP a b) (mulP a' b) := by
  induction a generalizing a' with
  | nil => exact (mulP_zeros b fun i => (h i).symm).symm
  | cons x r ih =>
    cases a' with
    | nil => exact mulP_zeros b h
    | cons y s =>
      intro i
      have h0 : x = y := h 0
      rw [cf_mulP, cf_mulP, h0, ih (a' := s) fun i => h (i + 1)]
theorem mulP_congr {a a' b b' : List UInt8} (h : Eqv a a') (k : Eqv b b') : Eqv (mulP a b) (mulP a' b') := (mulP_left h b).trans (mulP_right k a')
theorem mulP_cons_right (y : UInt8) (s : List UInt8) : ∀ a, Eqv (mulP a (y :: s)) (add (sc y a) (0 :: mulP a s))
  | [] => fun i => by
    rw [cf_add, cf_sc, cf_shift]; simp [mulP, cf_nil, mul_zero]
  | x :: r => fun i => by
    rw [cf_mulP, cf_add, cf_sc, cf_shift]
    cases i with
    | zero => simp [cf_zero, mul_comm]
    | succ i =>
      simp only [Nat.add_one_ne_zero, if_false, Nat.add_sub_cancel, cf_succ]
      rw [mulP_cons_right y s r i, cf_add, cf_sc, cf_shift, cf_mulP, ← UInt8.xor_assoc, ← UInt8.xor_assoc, UInt8.xor_comm (mul x _)]
theorem mulP_comm : ∀ (a b : List UInt8), Eqv (mulP a b) (mulP b a)
  | [], b => (mulP_nil b).symm
  | x :: r, b => fun i => by
    rw [mulP_cons_right x r b, mulP, cf_add, cf_add, cf_shift, cf_shift]
    by_cases h : i = 0
    · rw [if_pos h, if_pos h]
    · rw [if_neg h, if_neg h, mulP_comm r b]
theorem mulP_add (b c : List UInt8) : ∀ a, Eqv (mulP a (add b c)) (add (mulP a b) (mulP a c))
  | [] => Eqv.refl _
  | x :: r => fun i => by
    rw [cf_add, cf_mulP, cf_mulP, cf_mulP, cf_add, mul_xor, xor4]
    congr 1
    by_cases h : i = 0
    · rw [if_pos h, if_pos h, if_pos h]; rfl
    · rw [if_neg h, if_neg h, if_neg h, mulP_add b c r, cf_add]
theorem add_mulP (a b c : List UInt8) : Eqv (mulP (add a b) c) (add (mulP a c) (mulP b c)) :=
  (mulP_comm _ _).trans ((mulP_add a b c).trans (add_congr (mulP_comm _ _) (mulP_comm _ _)))
theorem sc_mulP (y : UInt8) (c : List UInt8) : ∀ a, Eqv (mulP (sc y a) c) (sc y (mulP a c))
  | [] => Eqv.refl _
  | x :: r => fun i => by
    show cf (mulP (mul y x :: sc y r) c) i = _
    rw [cf_mulP, cf_sc, cf_mulP, mul_xor, mul_assoc]
    congr 1
    by_cases h : i = 0
    · rw [if_pos h, if_pos h, mul_zero]
    · rw [if_neg h, if_neg h, sc_mulP y c r, cf_sc]
theorem shift_mulP (a c : List UInt8) : Eqv (mulP (0 :: a) c) (0 :: mulP a c) := fun i => by
  rw [cf_mulP, zero_mul, cf_shift, UInt8.zero_xor]
theorem shift_congr {a b : List UInt8} (h : Eqv a b) : Eqv (0 :: a) (0 :: b) := fun i => by rw [cf_shift, cf_shift, h]
theorem mulP_assoc (b c : List UInt8) : ∀ a, Eqv (mulP (mulP a b) c) (mulP a (mulP b c))
  | [] => Eqv.refl _
  | x :: r => by
    show Eqv (mulP (add (sc x b) (0 :: mulP r b)) c) (add (sc x (mulP b c)) (0 :: mulP r (mulP b c)))
    exact (add_mulP _ _ c).trans (add_congr (sc_mulP x c b) ((shift_mulP _ c).trans (shift_congr (mulP_assoc b c r))))

/-- Values. -/
def ev (l : List UInt8) (x : UInt8) : UInt8 := l.foldr (fun c y => mul y x ^^^ c) 0
theorem ev_nil (x : UInt8) : ev [] x = 0 := rfl
theorem ev_cons (a : UInt8) (r : List UInt8) (x : UInt8) : ev (a :: r) x = mul (ev r x) x ^^^ a := rfl
theorem ev_zeros {l : List UInt8} (x : UInt8) (h : ∀ i, cf l i = 0) : ev l x = 0 := by
  induction l with
  | nil => rfl
  | cons a r ih => rw [ev_cons, ih fun i => h (i + 1), zero_mul, show a = 0 from h 0]; rfl
theorem ev_congr {a b : List UInt8} (h : Eqv a b) (x : UInt8) : ev a x = ev b x := by
  induction a generalizing b with
  | nil => exact (ev_zeros x fun i => (h i).symm).symm
  | cons c r ih =>
    cases b with
    | nil => exact ev_zeros x h
    | cons d s => rw [ev_cons, ev_cons, ih (b := s) fun i => h (i + 1), show c = d from h 0]
theorem ev_add : ∀ (a b : List UInt8) (x : UInt8), ev (add a b) x = ev a x ^^^ ev b x
  | [], b, x => by simp [add, ev_nil]
  | a :: r, [], x => by simp [add, ev_nil]
  | c :: r, d :: s, x => by
    rw [add, ev_cons, ev_cons, ev_cons, ev_add r s x, xor_mul, xor4]
theorem ev_sc (c : UInt8) (x : UInt8) : ∀ l, ev (sc c l) x = mul c (ev l x)
  | [] => (mul_zero c).symm
  | a :: r => by
    show ev (mul c a :: sc c r) x = _
    rw [ev_cons, ev_sc c x r, ev_cons, mul_xor, mul_assoc]
theorem ev_mulP (b : List UInt8) (x : UInt8) : ∀ a, ev (mulP a b) x = mul (ev a x) (ev b x)
  | [] => (zero_mul _).symm
  | c :: r => by
    rw [mulP, ev_add, ev_sc, ev_cons, ev_mulP b x r, ev_cons, xor_zero, xor_mul, UInt8.xor_comm, mul_assoc, mul_assoc, mul_comm (ev b x) x]
end Go.Proofs.Ythdapoipfnnaeaa.Pl
/- Polynomials: how long products are; quotients; roots; what goes through values. Plain facts, no program in sight. -/
namespace Go.Proofs.Ythdapoipfnnaeaa.Pl
open Gf

/-- How many coefficients are left. -/
def len (l : List UInt8) : Nat := (trim l).length
theorem len_le (l : List UInt8) : len l ≤ l.length := trim_len l
theorem cf_len {l : List UInt8} {i : Nat} (h : len l ≤ i) : cf l i = 0 := cf_trim_ge h
theorem len_congr {a b : List UInt8} (h : Eqv a b) : len a = len b := by rw [len, len, trim_congr h]
theorem len_nil : len [] = 0 := rfl
theorem len_zero {l : List UInt8} : len l = 0 ↔ ∀ i, cf l i = 0 := by rw [len, List.length_eq_zero_iff, trim_nil_iff]
theorem len_last {l : List UInt8} (h : len l ≠ 0) : cf l (len l - 1) ≠ 0 := trim_last l fun e => h (by rw [len, e]; rfl)
theorem len_of {l : List UInt8} {n : Nat} (h : ∀ i, n ≤ i → cf l i = 0) : len l ≤ n := by
  by_cases h0 : len l = 0
  · omega
  · have := len_last h0
    by_cases h1 : len l ≤ n
    · exact h1
    · exact absurd (h _ (by omega)) this
theorem len_eq {l : List UInt8} {n : Nat} (h : ∀ i, n + 1 ≤ i → cf l i = 0) (h1 : cf l n ≠ 0) : len l = n + 1 := by
  have h2 := len_of h
  by_cases h3 : len l ≤ n
  · exact absurd (cf_len h3) h1
  · omega
theorem len_add {a b : List UInt8} {n : Nat} (ha : len a ≤ n) (hb : len b ≤ n) : len (add a b) ≤ n :=
  len_of fun i hi => by rw [cf_add, cf_len (by omega), cf_len (by omega)]; rfl
theorem eqv_nil {l : List UInt8} (h : len l = 0) : Eqv l [] := fun i => (len_zero.1 h i)
theorem trim_of_len {l : List UInt8} (h : len l = 0) : trim l = [] := (trim_nil_iff l).2 (len_zero.1 h)

theorem mul_top (b : List UInt8) (lb : Nat) (hb : ∀ i, lb + 1 ≤ i → cf b i = 0) : ∀ (a : List UInt8) (la : Nat), (∀ i, la + 1 ≤ i → cf a i = 0) →
    (∀ k, la + lb + 1 ≤ k → cf (mulP a b) k = 0) ∧ cf (mulP a b) (la + lb) = mul (cf a la) (cf b lb)
  | [], la, _ => ⟨fun _ _ => rfl, by rw [cf_nil, zero_mul]; rfl⟩
  | x :: r, 0, ha => by
    have hr : Eqv (mulP r b) [] := mulP_zeros b fun i => ha (i + 1) (by omega)
    refine ⟨fun k hk => ?_, ?_⟩
    · rw [cf_mulP, hb k (by omega), mul_zero, if_neg (by omega), hr, cf_nil, xor_zero]
    · rw [cf_mulP, Nat.zero_add, cf_zero]
      by_cases h : lb = 0
      · rw [if_pos h, xor_zero]
      · rw [if_neg h, hr, cf_nil, xor_zero]
  | x :: r, la + 1, ha => by
    obtain ⟨h1, h2⟩ := mul_top b lb hb r la fun i hi => ha (i + 1) (by omega)
    refine ⟨fun k hk => ?_, ?_⟩
    · rw [cf_mulP, hb k (by omega), mul_zero, if_neg (by omega), h1 _ (by omega), xor_zero]
    · rw [cf_mulP, hb _ (by omega), mul_zero, if_neg (by omega), show la + 1 + lb - 1 = la + lb by omega, h2, cf_succ, UInt8.zero_xor]
theorem len_mul {a b : List UInt8} (ha : len a ≠ 0) (hb : len b ≠ 0) : len (mulP a b) = len a + len b - 1 := by
  have h := mul_top b (len b - 1) (fun i hi => cf_len (by omega)) a (len a - 1) (fun i hi => cf_len (by omega))
  have := len_eq (l := mulP a b) (n := len a - 1 + (len b - 1)) h.1 (by rw [h.2]; exact mul_ne (len_last ha) (len_last hb))
  omega
theorem len_mul_zero {a b : List UInt8} (h : len a = 0 ∨ len b = 0) : len (mulP a b) = 0 := by
  rcases h with h | h
  · exact len_zero.2 (mulP_zeros b (len_zero.1 h))
  · exact len_zero.2 fun i => by rw [mulP_right (eqv_nil h) a, mulP_nil a]; rfl
theorem len_mul_le (a b : List UInt8) : len (mulP a b) ≤ len a + len b - 1 := by
  by_cases ha : len a = 0
  · rw [len_mul_zero (.inl ha)]; omega
  · by_cases hb : len b = 0
    · rw [len_mul_zero (.inr hb)]; omega
    · rw [len_mul ha hb]; omega

/-- Quotient and rest. -/
def DivOk (a b q r : List UInt8) : Prop := Eqv a (add (mulP q b) r) ∧ len r < len b
theorem cancel {a b c d : List UInt8} (h : Eqv (add a b) (add c d)) : Eqv (add a c) (add b d) := fun i => by
  have := h i
  rw [cf_add, cf_add] at this ⊢
  have h2 : (cf a i ^^^ cf b i) ^^^ (cf c i ^^^ cf d i) = 0 := by rw [this, UInt8.xor_self]
  rw [xor4] at h2
  exact UInt8.xor_eq_zero_iff.1 h2
theorem eqv_of_add {a b : List UInt8} (h : len (add a b) = 0) : Eqv a b := fun i => by
  have := len_zero.1 h i
  rw [cf_add] at this
  exact UInt8.xor_eq_zero_iff.1 this
theorem div_only {a b q r q' r' : List UInt8} (h : DivOk a b q r) (k : DivOk a b q' r') : Eqv q q' ∧ Eqv r r' := by
  have h1 : Eqv (mulP (add q q') b) (add r r') := (add_mulP q q' b).trans (cancel (h.1.symm.trans k.1))
  have hb : len b ≠ 0 := by have := h.2; omega
  have hr : len (add r r') < len b := by
    have := len_add (a := r) (b := r') (n := len b - 1) (by have := h.2; omega) (by have := k.2; omega)
    omega
  have hq : len (add q q') = 0 := by
    by_cases e : len (add q q') = 0
    · exact e
    · have h2 := len_mul e hb
      rw [len_congr h1] at h2
      omega
  refine ⟨eqv_of_add hq, eqv_of_add ?_⟩
  rw [← len_congr h1, len_mul_zero (.inl hq)]
theorem DivOk.congr {a a' b b' q q' r r' : List UInt8} (h : DivOk a b q r) (ha : Eqv a a') (hb : Eqv b b') (hq : Eqv q q') (hr : Eqv r r') : DivOk a' b' q' r' :=
  ⟨ha.symm.trans (h.1.trans (add_congr (mulP_congr hq hb) hr)), by rw [← len_congr hb, ← len_congr hr]; exact h.2⟩

/-- What is left by x + a place: the value there; and the quotient. -/
def hq (x : UInt8) : List UInt8 → List UInt8
  | [] => []
  | _ :: r => ev r x :: hq x r
theorem lin_cf (x : UInt8) (q : List UInt8) (i : Nat) : cf (mulP q [x, 1]) i = mul x (cf q i) ^^^ (if i = 0 then 0 else cf q (i - 1)) := by
  rw [mulP_cons_right x [1] q, cf_add, cf_sc, cf_shift]
  congr 1
  by_cases h : i = 0
  · rw [if_pos h, if_pos h]
  · rw [if_neg h, if_neg h, mulP_cons_right 1 [] q, cf_add, cf_sc, cf_shift, one_mul]
    by_cases h2 : i - 1 = 0
    · rw [if_pos h2, xor_zero]
    · rw [if_neg h2, mulP_nil q, cf_nil, xor_zero]
theorem horner (x : UInt8) : ∀ a, Eqv a (add (mulP (hq x a) [x, 1]) [ev a x])
  | [] => fun i => by
    rw [cf_add, hq, mulP, ev_nil]
    cases i with
    | zero => rw [cf_nil, cf_zero]; decide
    | succ i => rw [cf_nil, cf_succ, cf_nil]; decide
  | c :: r => fun i => by
    have ih := horner x r
    rw [cf_add, lin_cf]
    cases i with
    | zero =>
      rw [if_pos rfl, xor_zero, cf_zero, cf_zero, ev_cons, hq, cf_zero, mul_comm x, ← UInt8.xor_assoc, UInt8.xor_self, UInt8.zero_xor]
    | succ i =>
      rw [if_neg (by omega), Nat.add_sub_cancel, cf_succ, cf_succ, cf_nil, xor_zero, ih i, cf_add, lin_cf, hq, cf_succ]
      cases i with
      | zero => rw [if_pos rfl, xor_zero, cf_zero, cf_zero]
      | succ i => rw [if_neg (by omega), Nat.add_sub_cancel, cf_succ, cf_succ, cf_nil, xor_zero]
theorem ev_lin (x y : UInt8) : ev [x, 1] y = y ^^^ x := by
  rw [ev_cons, ev_cons, ev_nil, zero_mul, UInt8.zero_xor, one_mul]
theorem root_factor {a : List UInt8} {x : UInt8} (h : ev a x = 0) : Eqv a (mulP (hq x a) [x, 1]) := (horner x a).trans fun i => by
  rw [cf_add, h]
  cases i with
  | zero => rw [cf_zero, xor_zero]
  | succ i => rw [cf_succ, cf_nil, xor_zero]
theorem len_lin (x : UInt8) : len [x, 1] = 2 := len_eq (n := 1) (fun i hi => cf_ge (by simpa using hi)) (by show (1 : UInt8) ≠ 0; decide)
/-- No more roots than the degree. -/
theorem roots_le : ∀ (xs : List UInt8) (a : List UInt8), xs.Nodup → len a ≠ 0 → (∀ x ∈ xs, ev a x = 0) → xs.length + 1 ≤ len a
  | [], a, _, h, _ => by simp; omega
  | x :: r, a, hn, h, hr => by
    have hf := root_factor (hr x (List.mem_cons_self))
    have hq0 : len (hq x a) ≠ 0 := fun e => h (by rw [len_congr hf, len_mul_zero (.inl e)])
    have hl : len a = len (hq x a) + 1 := by rw [len_congr hf, len_mul hq0 (by rw [len_lin]; decide), len_lin]; omega
    have ih := roots_le r (hq x a) (List.nodup_cons.1 hn).2 hq0 fun y hy => by
      have h1 := hr y (List.mem_cons_of_mem _ hy)
      rw [ev_congr hf, ev_mulP, ev_lin] at h1
      rcases mul_eq_zero h1 with h2 | h2
      · exact h2
      · have h3 : y = x := UInt8.xor_eq_zero_iff.1 h2
        exact absurd (h3 ▸ hy) (List.nodup_cons.1 hn).1
    simp only [List.length_cons]
    omega
/-- Two that have the same values at as many unlike places as they may have coefficients are the same. -/
theorem through_only {xs a b : List UInt8} (hn : xs.Nodup) (ha : len a ≤ xs.length) (hb : len b ≤ xs.length) (h : ∀ x ∈ xs, ev a x = ev b x) : Eqv a b := by
  refine eqv_of_add ?_
  by_cases e : len (add a b) = 0
  · exact e
  · have h1 := roots_le xs (add a b) hn e fun x hx => by rw [ev_add, h x hx, UInt8.xor_self]
    have h2 := len_add ha hb
    omega
/-- The polynomial of some roots. -/
def rootsP (xs : List UInt8) : List UInt8 := xs.foldl (fun o x => mulP o [x, 1]) [1]
theorem rootsP_snoc (xs : List UInt8) (x : UInt8) : rootsP (xs ++ [x]) = mulP (rootsP xs) [x, 1] := by simp [rootsP]
theorem ev_one (y : UInt8) : ev [1] y = 1 := by rw [ev_cons, ev_nil, zero_mul, UInt8.zero_xor]
theorem len_one : len [1] = 1 := by decide
theorem rootsP_facts (l : List UInt8) : len (rootsP l) = l.length + 1 ∧ ∀ y, ev (rootsP l) y = 0 ↔ y ∈ l := by
  have key : ∀ n (l : List UInt8), l.length = n → len (rootsP l) = l.length + 1 ∧ ∀ y, ev (rootsP l) y = 0 ↔ y ∈ l := by
    intro n
    induction n with
    | zero =>
      intro l hl
      rw [List.length_eq_zero_iff.1 hl]
      exact ⟨len_one, fun y => by
        show ev [1] y = 0 ↔ _
        rw [ev_one]; simp⟩
    | succ n ih =>
      intro l hl
      obtain ⟨r, x, rfl⟩ : ∃ r x, l = r ++ [x] := ⟨l.dropLast, l.getLast (by intro e; rw [e] at hl; simp at hl), (List.dropLast_concat_getLast _).symm⟩
      have h := ih r (by simp at hl; omega)
      rw [rootsP_snoc]
      refine ⟨by rw [len_mul (by omega) (by rw [len_lin]; decide), len_lin, h.1]; simp, fun y => ?_⟩
      rw [ev_mulP, ev_lin, List.mem_append, List.mem_singleton, ← h.2 y]
      constructor
      · intro e
        rcases mul_eq_zero e with e | e
        · exact .inl e
        · exact .inr (UInt8.xor_eq_zero_iff.1 e)
      · rintro (e | e)
        · rw [e, zero_mul]
        · rw [e, UInt8.xor_self, mul_zero]
  exact key _ l rfl
/-- What goes through some values. -/
def ThrOk (xs ys p : List UInt8) : Prop := len p ≤ xs.length ∧ ∀ i (h : i < xs.length) (k : i < ys.length), ev p xs[i] = ys[i]
theorem thr_only {xs ys p p' : List UInt8} (hn : xs.Nodup) (hl : xs.length = ys.length) (h : ThrOk xs ys p) (k : ThrOk xs ys p') : Eqv p p' :=
  through_only hn h.1 k.1 fun x hx => by
    obtain ⟨i, hi, rfl⟩ := List.getElem_of_mem hx
    rw [h.2 i hi (by omega), k.2 i hi (by omega)]
end Go.Proofs.Ythdapoipfnnaeaa.Pl
/- Polynomials: what a step of each loop leaves. Plain facts, no program in sight. -/
namespace Go.Proofs.Ythdapoipfnnaeaa.Pl
open Gf

/-- Times a power of x. -/
def sh (n : Nat) (l : List UInt8) : List UInt8 := List.replicate n 0 ++ l
theorem cf_sh (n : Nat) (l : List UInt8) (k : Nat) : cf (sh n l) k = if n ≤ k then cf l (k - n) else 0 := by
  induction n generalizing k with
  | zero => simp [sh]
  | succ n ih =>
    have e : sh (n + 1) l = 0 :: sh n l := by simp [sh, List.replicate_succ]
    rw [e, cf_shift]
    cases k with
    | zero => simp
    | succ k => rw [if_neg (by omega), Nat.add_sub_cancel, ih]; simp
theorem sh_mulP (n : Nat) (l b : List UInt8) : Eqv (mulP (sh n l) b) (sh n (mulP l b)) := by
  induction n with
  | zero => exact Eqv.refl _
  | succ n ih =>
    have e : ∀ m : List UInt8, sh (n + 1) m = 0 :: sh n m := fun m => by simp [sh, List.replicate_succ]
    rw [e, e]
    exact (shift_mulP _ b).trans (shift_congr ih)
theorem sh_congr {n : Nat} {a b : List UInt8} (h : Eqv a b) : Eqv (sh n a) (sh n b) := fun k => by rw [cf_sh, cf_sh, h]
theorem sc_congr {c : UInt8} {a b : List UInt8} (h : Eqv a b) : Eqv (sc c a) (sc c b) := fun k => by rw [cf_sc, cf_sc, h]
theorem mulP_one (c : UInt8) (b : List UInt8) : Eqv (mulP [c] b) (sc c b) := fun k => by
  rw [cf_mulP, cf_sc]
  split
  · exact xor_zero _
  · show mul c (cf b k) ^^^ cf [] (k - 1) = _
    rw [cf_nil, xor_zero]
theorem mulP_const (b : List UInt8) (c : UInt8) : Eqv (mulP b [c]) (sc c b) := (mulP_comm _ _).trans (mulP_one c b)
theorem append_add (l : List UInt8) (c : UInt8) : Eqv (l ++ [c]) (add l (sh l.length [c])) := fun k => by
  rw [cf_add, cf_sh]
  by_cases h : k < l.length
  · rw [if_neg (by omega), xor_zero, cf_lt (by simp; omega), cf_lt h, List.getElem_append_left h]
  · rw [if_pos (by omega), cf_ge (l := l) (by omega), UInt8.zero_xor]
    by_cases h2 : k = l.length
    · subst h2; rw [Nat.sub_self, cf_lt (by simp), List.getElem_append_right (Nat.le_refl _)]; simp [cf_zero]
    · rw [cf_ge (by simp; omega), cf_ge (l := [c]) (by simp; omega)]
/-- One row more of a product. -/
theorem mulP_snoc (l : List UInt8) (c : UInt8) (b : List UInt8) : Eqv (mulP (l ++ [c]) b) (add (mulP l b) (sh l.length (sc c b))) :=
  (mulP_left (append_add l c) b).trans ((add_mulP _ _ b).trans (add_congr (Eqv.refl _) ((sh_mulP _ _ b).trans (sh_congr (mulP_one c b)))))
/-- One value set, where there was 0. -/
theorem set_add {l : List UInt8} {i : Nat} (hi : i < l.length) (h0 : cf l i = 0) (c : UInt8) : Eqv (l.set i c) (add l (sh i [c])) := fun k => by
  rw [cf_add, cf_sh]
  by_cases e : k = i
  · subst e
    rw [if_pos (Nat.le_refl _), Nat.sub_self, h0, UInt8.zero_xor, cf_lt (by simpa using hi)]; simp [cf_zero]
  · have h1 : cf (l.set i c) k = cf l k := by
      by_cases hk : k < l.length
      · rw [cf_lt (by simpa using hk), cf_lt hk, List.getElem_set_ne (fun e2 => e e2.symm)]
      · rw [cf_ge (by simpa using hk), cf_ge (by omega)]
    rw [h1]
    by_cases h2 : i ≤ k
    · rw [if_pos h2, cf_ge (l := [c]) (by simp; omega), xor_zero]
    · rw [if_neg h2, xor_zero]
theorem cf_set {l : List UInt8} {i : Nat} (hi : i < l.length) (c : UInt8) (k : Nat) : cf (l.set i c) k = if k = i then c else cf l k := by
  by_cases e : k = i
  · subst e; rw [if_pos rfl, cf_lt (by simpa using hi)]; simp
  · rw [if_neg e]
    by_cases hk : k < l.length
    · rw [cf_lt (by simpa using hk), cf_lt hk, List.getElem_set_ne (fun e2 => e e2.symm)]
    · rw [cf_ge (by simpa using hk), cf_ge (by omega)]
/-- A row added to another one, from a place on: what more's loop does. -/
theorem more_step {to t0 a : List UInt8} {c : UInt8} {n j : Nat} (hj : j < a.length) (hn : n + j < to.length)
    (h : ∀ k, cf to k = cf t0 k ^^^ (if n ≤ k ∧ k < n + j then mul (cf a (k - n)) c else 0)) :
    ∀ k, cf (to.set (n + j) (cf to (n + j) ^^^ mul (cf a j) c)) k = cf t0 k ^^^ (if n ≤ k ∧ k < n + (j + 1) then mul (cf a (k - n)) c else 0) := fun k => by
  rw [cf_set hn]
  by_cases e : k = n + j
  · subst e
    rw [if_pos rfl, h, if_neg (by omega), xor_zero, if_pos (by omega), Nat.add_sub_cancel_left]
  · rw [if_neg e, h]
    by_cases h2 : n ≤ k ∧ k < n + j
    · rw [if_pos h2, if_pos (by omega)]
    · rw [if_neg h2, if_neg (by omega)]
theorem more_end {to t0 a : List UInt8} {c : UInt8} {n : Nat} (h : ∀ k, cf to k = cf t0 k ^^^ (if n ≤ k ∧ k < n + a.length then mul (cf a (k - n)) c else 0)) : Eqv to (add t0 (sh n (sc c a))) := fun k => by
  rw [h, cf_add, cf_sh, cf_sc]
  congr 1
  by_cases h1 : n ≤ k
  · rw [if_pos h1]
    by_cases h2 : k < n + a.length
    · rw [if_pos ⟨h1, h2⟩, mul_comm]
    · rw [if_neg (by omega), cf_ge (l := a) (by omega), mul_zero]
  · rw [if_neg (by omega), if_neg h1]
/-- A step of a division. -/
theorem div_step {a b q r q' r' : List UInt8} {c : UInt8} {m : Nat} (h : Eqv a (add (mulP q b) r)) (hq : Eqv q' (add q (sh m [c]))) (hr : Eqv r' (add r (sh m (sc c b)))) : Eqv a (add (mulP q' b) r') := by
  have h1 : Eqv (mulP q' b) (add (mulP q b) (sh m (sc c b))) := (mulP_left hq b).trans ((add_mulP _ _ b).trans (add_congr (Eqv.refl _) ((sh_mulP m [c] b).trans (sh_congr (mulP_one c b)))))
  intro k
  rw [h k, cf_add, cf_add, h1 k, hr k, cf_add, cf_add, xor4, UInt8.xor_self, xor_zero]
theorem ev_snoc (x : UInt8) (c : UInt8) : ∀ l : List UInt8, ev (l ++ [c]) x = ev l x ^^^ mul c (rp x l.length)
  | [] => by rw [List.nil_append, ev_cons, ev_nil, zero_mul, List.length_nil, rp, mul_one]
  | a :: r => by
    rw [List.cons_append, ev_cons, ev_snoc x c r, ev_cons, xor_mul, List.length_cons, rp, mul_assoc, UInt8.xor_assoc, UInt8.xor_assoc, UInt8.xor_comm _ a]
/-- One value more by divided differences. -/
theorem newton {xs ys out basis : List UInt8} {i : Nat} (hi : i < xs.length) (hy : xs.length = ys.length) (hb : Eqv basis (rootsP (xs.take i)))
    (hl : len out ≤ i) (ho : ∀ j (h : j < i), ev out (xs[j]'(by omega)) = ys[j]'(by omega)) (hx : ev basis xs[i] ≠ 0) :
    let c := div ((ys[i]'(by omega)) ^^^ ev out xs[i]) (ev basis xs[i])
    len (add out (mulP basis [c])) ≤ i + 1 ∧ ∀ j (h : j < i + 1), ev (add out (mulP basis [c])) (xs[j]'(by omega)) = ys[j]'(by omega) := by
  intro c
  have hr := rootsP_facts (xs.take i)
  have hbl : len basis = i + 1 := by rw [len_congr hb, hr.1, List.length_take]; omega
  refine ⟨len_add (by omega) (Nat.le_trans (len_mul_le _ _) ?_), fun j hj => ?_⟩
  · have : len [c] ≤ 1 := len_le [c]
    omega
  · rw [ev_add, ev_mulP, show ev [c] _ = c from by rw [ev_cons, ev_nil, zero_mul, UInt8.zero_xor]]
    by_cases e : j = i
    · subst e
      rw [mul_comm, div_mul hx, UInt8.xor_comm, UInt8.xor_assoc, UInt8.xor_self, xor_zero]
    · have h0 : ev basis (xs[j]'(by omega)) = 0 := by
        rw [ev_congr hb, hr.2]
        have : (xs.take i)[j]'(by simp; omega) = xs[j]'(by omega) := List.getElem_take
        rw [← this]; exact List.getElem_mem _
      rw [h0, zero_mul, xor_zero, ho j (by omega)]
/-- The places but one. -/
def others (xs : List UInt8) (i : Nat) : List UInt8 := xs.take i ++ xs.drop (i + 1)
theorem others_len {xs : List UInt8} {i : Nat} (hi : i < xs.length) : (others xs i).length = xs.length - 1 := by simp [others]; omega
theorem mem_others {xs : List UInt8} {i j : Nat} (hj : j < xs.length) (h : j ≠ i) : xs[j] ∈ others xs i := by
  rw [others, List.mem_append]
  by_cases hlt : j < i
  · left
    have : (xs.take i)[j]'(by simp; omega) = xs[j] := List.getElem_take
    rw [← this]; exact List.getElem_mem _
  · right
    have : (xs.drop (i + 1))[j - (i + 1)]'(by simp; omega) = xs[j] := by rw [List.getElem_drop]; congr 1; omega
    rw [← this]; exact List.getElem_mem _
theorem nodup_others {xs : List UInt8} (h : xs.Nodup) {i : Nat} (hi : i < xs.length) : xs[i] ∉ others xs i := by
  intro hm
  rw [others, List.mem_append] at hm
  have hp := List.pairwise_iff_getElem.1 h
  rcases hm with hm | hm
  · obtain ⟨j, hj, e⟩ := List.getElem_of_mem hm
    have hj2 : j < i := by simp at hj; omega
    rw [List.getElem_take] at e
    exact hp j i (by omega) hi hj2 e
  · obtain ⟨j, hj, e⟩ := List.getElem_of_mem hm
    simp at hj
    rw [List.getElem_drop] at e
    exact hp i (i + 1 + j) hi (by omega) (by omega) e.symm
theorem nodup_of_take {xs : List UInt8} (h : ∀ i (hi : i < xs.length), xs[i] ∉ xs.take i) : xs.Nodup := by
  refine List.pairwise_iff_getElem.2 fun i j hi hj hij e => h j hj ?_
  have : (xs.take j)[i]'(by simp; omega) = xs[i] := List.getElem_take
  rw [← e, ← this]; exact List.getElem_mem _
theorem take_others {xs : List UInt8} {i : Nat} {x : UInt8} (h : x ∈ xs.take i) : x ∈ others xs i := List.mem_append.2 (.inl h)
/-- One value more by Lagrange's way. -/
theorem lagrange {xs ys out l : List UInt8} {i : Nat} (hi : i < xs.length) (hy : xs.length = ys.length) (hl : Eqv l (rootsP (others xs i)))
    (hn : len out ≤ xs.length) (ho : ∀ j (h : j < xs.length), ev out xs[j] = if j < i then ys[j]'(by omega) else 0) (hx : ev l xs[i] ≠ 0) :
    let c := div (ys[i]'(by omega)) (ev l xs[i])
    len (add out (mulP l [c])) ≤ xs.length ∧ ∀ j (h : j < xs.length), ev (add out (mulP l [c])) xs[j] = if j < i + 1 then ys[j]'(by omega) else 0 := by
  intro c
  have hr := rootsP_facts (others xs i)
  have hll : len l = xs.length := by rw [len_congr hl, hr.1, others_len hi]; omega
  refine ⟨len_add hn (Nat.le_trans (len_mul_le _ _) ?_), fun j hj => ?_⟩
  · have : len [c] ≤ 1 := len_le [c]
    omega
  · rw [ev_add, ev_mulP, show ev [c] _ = c from by rw [ev_cons, ev_nil, zero_mul, UInt8.zero_xor], ho j hj]
    by_cases e : j = i
    · subst e
      rw [if_neg (by omega), if_pos (by omega), UInt8.zero_xor, mul_comm, div_mul hx]
    · have h0 : ev l xs[j] = 0 := by rw [ev_congr hl, hr.2]; exact mem_others hj e
      rw [h0, zero_mul, xor_zero]
      by_cases h2 : j < i
      · rw [if_pos h2, if_pos (by omega)]
      · rw [if_neg h2, if_neg (by omega)]
end Go.Proofs.Ythdapoipfnnaeaa.Pl
/- Matrices of bytes, plain: as functions, as rows of bytes. -/
namespace Go.Proofs.Ythdapoipfnnaeaa.Mx
open Gf
set_option linter.unusedVariables false

/-- A matrix: row, column. -/
abbrev M := Nat → Nat → UInt8
/-- Its bytes, of r rows and c columns. -/
def flat (r c : Nat) (m : M) : List UInt8 := (List.range (r * c)).map fun j => m (j / c) (j % c)
/-- The matrix that bytes tell. -/
def ent (l : List UInt8) (c : Nat) : M := fun i k => l.getD (i * c + k) 0
section
variable {r c i k : Nat} {m m' : M} {l : List UInt8}
theorem flat_len (r c : Nat) (m : M) : (flat r c m).length = r * c := by unfold flat; rw [List.length_map, List.length_range]
theorem idx_lt (hi : i < r) (hk : k < c) : i * c + k < r * c := by
  have h : (i + 1) * c ≤ r * c := Nat.mul_le_mul_right c hi
  rw [Nat.succ_mul] at h
  omega
theorem idx_le (hi : i < r) : i * c + c ≤ r * c := by
  have h : (i + 1) * c ≤ r * c := Nat.mul_le_mul_right c hi
  rwa [Nat.succ_mul] at h
theorem idx_div (hk : k < c) : (i * c + k) / c = i := by
  rw [Nat.mul_comm, Nat.mul_add_div (by omega), Nat.div_eq_of_lt hk, Nat.add_zero]
theorem idx_mod (hk : k < c) : (i * c + k) % c = k := by
  rw [Nat.mul_comm, Nat.mul_add_mod, Nat.mod_eq_of_lt hk]
theorem idx_of {j : Nat} (hj : j < r * c) : ∃ i k, i < r ∧ k < c ∧ j = i * c + k := by
  have hc : 0 < c := by
    rcases Nat.eq_zero_or_pos c with h | h
    · rw [h, Nat.mul_zero] at hj; omega
    · exact h
  refine ⟨j / c, j % c, ?_, Nat.mod_lt _ hc, ?_⟩
  · exact Nat.div_lt_of_lt_mul (by rwa [Nat.mul_comm])
  · rw [Nat.mul_comm]; exact (Nat.div_add_mod j c).symm
theorem flat_get (hi : i < r) (hk : k < c) : (flat r c m)[i * c + k]? = some (m i k) := by
  unfold flat
  rw [List.getElem?_map, List.getElem?_range (idx_lt hi hk), Option.map_some, idx_div hk, idx_mod hk]
theorem flat_getE (hi : i < r) (hk : k < c) (h : i * c + k < (flat r c m).length) : (flat r c m)[i * c + k] = m i k := by
  have := flat_get (m := m) hi hk
  rw [List.getElem?_eq_getElem h] at this
  exact Option.some.inj this
theorem flat_ext (hl : l.length = r * c) (h : ∀ i, i < r → ∀ k, k < c → l[i * c + k]? = some (m i k)) : l = flat r c m := by
  apply List.ext_getElem?
  intro j
  by_cases hj : j < r * c
  · obtain ⟨i, k, hi, hk, rfl⟩ := idx_of hj
    rw [h i hi k hk, flat_get hi hk]
  · rw [List.getElem?_eq_none (by omega), List.getElem?_eq_none (by rw [flat_len]; omega)]
theorem ent_get (hl : l.length = r * c) (hi : i < r) (hk : k < c) : l[i * c + k]? = some (ent l c i k) := by
  have h := idx_lt hi hk
  unfold ent
  rw [List.getElem?_eq_getElem (by omega), List.getD_eq_getElem?_getD, List.getElem?_eq_getElem (by omega)]; rfl
theorem flat_ent (hl : l.length = r * c) : flat r c (ent l c) = l := (flat_ext hl fun i hi k hk => ent_get hl hi hk).symm
theorem ent_flat (hi : i < r) (hk : k < c) : ent (flat r c m) c i k = m i k := by
  have h := ent_get (flat_len r c m) hi hk
  rw [flat_get hi hk] at h
  exact (Option.some.inj h).symm
theorem flat_congr (h : ∀ i, i < r → ∀ k, k < c → m i k = m' i k) : flat r c m = flat r c m' :=
  flat_ext (flat_len r c m) fun i hi k hk => by rw [flat_get hi hk, h i hi k hk]
theorem flat_inj (h : flat r c m = flat r c m') (hi : i < r) (hk : k < c) : m i k = m' i k := by
  have := flat_get (m := m) hi hk
  rw [h, flat_get hi hk] at this
  exact (Option.some.inj this).symm
/-- One entry another one. -/
def upd (m : M) (i k : Nat) (x : UInt8) : M := fun i' k' => if i' = i ∧ k' = k then x else m i' k'
theorem flat_set (hi : i < r) (hk : k < c) (x : UInt8) : (flat r c m).set (i * c + k) x = flat r c (upd m i k x) := by
  refine flat_ext (by rw [List.length_set, flat_len]) fun i' hi' k' hk' => ?_
  rw [List.getElem?_set]
  unfold upd
  by_cases h : i' = i ∧ k' = k
  · obtain ⟨rfl, rfl⟩ := h
    rw [if_pos rfl, if_pos (by rw [flat_len]; exact idx_lt hi hk), if_pos ⟨rfl, rfl⟩]
  · rw [if_neg, flat_get hi' hk', if_neg h]
    intro e
    apply h
    have e1 := congrArg (· / c) e
    have e2 := congrArg (· % c) e
    simp only [idx_div hk, idx_div hk', idx_mod hk, idx_mod hk'] at e1 e2
    exact ⟨e1.symm, e2.symm⟩
/-- A row. -/
def row (c : Nat) (f : Nat → UInt8) : List UInt8 := (List.range c).map f
theorem row_len (c : Nat) (f : Nat → UInt8) : (row c f).length = c := by unfold row; rw [List.length_map, List.length_range]
theorem row_get {f : Nat → UInt8} (hk : k < c) : (row c f)[k]? = some (f k) := by unfold row; rw [List.getElem?_map, List.getElem?_range hk]; rfl
theorem flat_row (hi : i < r) : ((flat r c m).drop (i * c)).take c = row c (m i) := by
  apply List.ext_getElem?
  intro k
  by_cases hk : k < c
  · rw [List.getElem?_take, if_pos hk, List.getElem?_drop, flat_get hi hk, row_get hk]
  · rw [List.getElem?_take, if_neg hk, List.getElem?_eq_none (by rw [row_len]; omega)]
theorem flat_zero (r c : Nat) : flat r c (fun _ _ => 0) = List.replicate (r * c) 0 := by
  unfold flat
  apply List.ext_getElem?
  intro j
  rw [List.getElem?_map, List.getElem?_replicate]
  by_cases h : j < r * c
  · rw [List.getElem?_range h, if_pos h]; rfl
  · rw [List.getElem?_eq_none (by rw [List.length_range]; omega), if_neg h]; rfl
theorem row_congr {f g : Nat → UInt8} (h : ∀ k, k < c → f k = g k) : row c f = row c g := by
  apply List.ext_getElem?
  intro k
  by_cases hk : k < c
  · rw [row_get hk, row_get hk, h k hk]
  · rw [List.getElem?_eq_none (by rw [row_len]; omega), List.getElem?_eq_none (by rw [row_len]; omega)]
theorem flat_succ (r c : Nat) (m : M) : flat (r + 1) c m = flat r c m ++ row c (m r) := by
  refine (flat_ext (by rw [List.length_append, flat_len, row_len, Nat.succ_mul]) fun i hi k hk => ?_).symm
  by_cases h : i < r
  · rw [List.getElem?_append_left (by rw [flat_len]; exact idx_lt h hk), flat_get h hk]
  · obtain rfl : i = r := by omega
    rw [List.getElem?_append_right (by rw [flat_len]; omega), flat_len, Nat.add_sub_cancel_left, row_get hk]
theorem flat_nil (c : Nat) (m : M) : flat 0 c m = [] := by unfold flat; rw [Nat.zero_mul]; rfl
end
end Go.Proofs.Ythdapoipfnnaeaa.Mx
/- sync.Once of one goroutine, its parts: the lock, the two calls that doSlow defers, Do when it is done already. -/
namespace Go.Proofs.Ythdapoipfnnaeaa.FdW
open Go.RowKit Mem
set_option linter.unusedVariables false

theorem race_disable (w : World) : (callFunc 80 #[]).run Try.prog w = .ok (.value (.tuple #[])) w := run_call_mark0 Try.func80 (by kernel_rfl) (by kernel_rfl) (by kernel_rfl) .disable (by kernel_rfl) w
theorem race_enable (w : World) : (callFunc 82 #[]).run Try.prog w = .ok (.value (.tuple #[])) w := run_call_mark0 Try.func82 (by kernel_rfl) (by kernel_rfl) (by kernel_rfl) .enable (by kernel_rfl) w
theorem race_acquire (a : Addr) (w : World) : (callFunc 83 #[.pointer (some a)]).run Try.prog w = .ok (.value (.tuple #[])) w := run_call_marked Try.func83 (by kernel_rfl) (by kernel_rfl) (by kernel_rfl) .acquire (by kernel_rfl) a w
theorem race_releaseMerge (a : Addr) (w : World) : (callFunc 85 #[.pointer (some a)]).run Try.prog w = .ok (.value (.tuple #[])) w := run_call_marked Try.func85 (by kernel_rfl) (by kernel_rfl) (by kernel_rfl) .releaseMerge (by kernel_rfl) a w

/-- (*sync/atomic.Bool).Store(true), entered as a deferred call: the cell holds 1. -/
theorem store_deferred (a : Addr) (x : Value) (u : FrameMode) (w : World) (hc : w.cell? a = some x) (hz : w.frozen? a = false) :
    CallsD Try.prog 75 #[.pointer (some a), .bool true] u w fun e u' w' => u' = u ∧ (e = .returned (.tuple #[]) ∧ w' = w.drew.setCell a (.int .u32 1)) := by
  have hc' : w.drew.cell? a = some x := by go_simp
  have hz' : w.drew.frozen? a = false := by go_simp
  have hst := run_call_store (P := Try.prog) Try.func78 (by kernel_rfl) (by kernel_rfl) (by kernel_rfl) (by kernel_rfl) (k := .u32) (y := 1) hc' hz'
  go_enter_d Try.func75, Try.ntmps75
  go_wp2
  go_region_calls
  all_goals (go_end0; exact ⟨rfl, rfl⟩)

set_option maxRecDepth 100000 in
/-- (*sync.Mutex).Unlock, entered as a deferred call, the lock held and nobody waiting (state 1): state 0. -/
theorem unlock_deferred (a : Addr) (u : FrameMode) (w : World) (hc : w.cell? a = some (.int .i32 1)) (hz : w.frozen? a = false) :
    CallsD Try.prog 74 #[.pointer (some a)] u w fun e u' w' => u' = u ∧ (e = .returned (.tuple #[]) ∧ w' = w.setCell a (.int .i32 0)) := by
  have hd := race_disable
  have he := race_enable
  have hr := race_releaseMerge
  have hadd := run_call_add (P := Try.prog) Try.func86 (by kernel_rfl) (by kernel_rfl) (by kernel_rfl) .i32 (by kernel_rfl) (y := -1) (s := 0) hc hz (by simp [go_sem]; rfl)
  have hcv := run_convert_to_unsafe (P := Try.prog) (src := 114) (dst := 118) Try.underlying114 Try.underlying118 (by kernel_rfl) hc
  go_enter_d Try.func74, Try.ntmps74
  go_wp2
  go_end0
  go_wp2
  go_end0
  exact ⟨rfl, rfl⟩

set_option maxRecDepth 100000 in
/-- (*sync.Mutex).Lock, the lock free (state 0): state 1. -/
theorem lock_free (a : Addr) (w : World) (hc : w.cell? a = some (.int .i32 0)) (hz : w.frozen? a = false) :
    Calls Try.prog 73 #[.pointer (some a)] w fun e w' => e = .returned (.tuple #[]) ∧ w' = w.setCell a (.int .i32 1) := by
  have hd := race_disable
  have he := race_enable
  have ha := race_acquire
  have hcas := run_call_cas_hit (P := Try.prog) Try.func81 (by kernel_rfl) (by kernel_rfl) (by kernel_rfl) .i32 (by kernel_rfl) (y := 1) hc hz
  have hc' : (w.setCell a (.int .i32 1)).cell? a = some (.int .i32 1) := World.cell?_setCell_same w a _ hc
  have hcv := run_convert_to_unsafe (P := Try.prog) (src := 114) (dst := 118) Try.underlying114 Try.underlying118 (by kernel_rfl) hc'
  go_enter Try.func73, Try.ntmps73
  go_wp2
  first | go_end0 | (simp only [Exit.inBlock, Exit.then]; refine bodyPost_ret (results_none rfl _ _ _) rfl ?_) | refine bodyPost_ret (results_none rfl _ _ _) rfl ?_
  go_wp2
  go_end0
  exact ⟨rfl, rfl⟩

set_option maxRecDepth 100000 in
/-- (*sync.Once).Do, done already: the function is not called. -/
theorem do_done (a : Addr) (fv : Value) (w : World) (h0 : w.cell? a = some (.int .u32 1)) :
    Calls Try.prog 67 #[.pointer (some a), fv] w fun e w' => e = .returned (.tuple #[]) ∧ w = w' := by
  have hl := run_call_load (P := Try.prog) Try.func72 (by kernel_rfl) (by kernel_rfl) (by kernel_rfl) .u32 (by kernel_rfl) h0
  have hnot : ∀ (x : Bool) (w : World), (Op.unary .not (.bool x)).run Try.prog w = .ok (.bool (!x)) w := fun _ _ => rfl
  go_enter Try.func67, Try.ntmps67
  go_wp2
  go_end0
  exact ⟨rfl, rfl⟩
end Go.Proofs.Ythdapoipfnnaeaa.FdW
/- A field's block: its tables, how the closure fills them; made. -/
namespace Go.Proofs.Ythdapoipfnnaeaa.FdW
open Go.RowKit Mem Gf
set_option linter.unusedVariables false

/-- The tables when k powers have been written. -/
def exT (k j : Nat) : Nat := if j % 255 < k then (pw j).toNat else 0
def lgT (k v : Nat) : Nat := if v ≠ 0 ∧ lgl.getD v 0 < k then lgl.getD v 0 else 0
def fcell (d m : Int) (k j : Nat) : Value :=
  if j < 3 then (if j = 0 then .int .u32 d else if j = 1 then .int .i32 m else .int .u32 0)
  else if j < 513 then .int .u8 (exT k (j - 3) : Nat) else .int .i64 (lgT k (j - 513) : Nat)
def fzero : Array Value := ((List.range 769).map (fcell 0 0 0)).toArray

/-- A field's block, cell by cell. -/
def FB (w : World) (p : Nat) (f : Nat → Value) : Prop :=
  ∃ cs, Blk w p 80 cs ∧ cs.size = 769 ∧ ∀ j, j < 769 → cs[j]? = some (f j)
section
variable {w w' : World} {p : Nat} {f g : Nat → Value} {S : Nat → Prop}
theorem FB.lt (h : FB w p f) : p < w.heap.size := by obtain ⟨cs, hb, _⟩ := h; exact hb.lt
theorem FB.cell (h : FB w p f) {j : Nat} (hj : j < 769) : w.cell? ⟨p, j, none⟩ = some (f j) := by
  obtain ⟨cs, hb, _, hc⟩ := h; rw [hb.cell]; exact hc j hj
theorem FB.frozen (h : FB w p f) (j : Nat) : w.frozen? ⟨p, j, none⟩ = false := by
  obtain ⟨cs, hb, _, hc⟩ := h; exact hb.frozen j
theorem FB.congr (h : FB w p f) (he : ∀ j, j < 769 → f j = g j) : FB w p g := by
  obtain ⟨cs, hb, hs, hc⟩ := h; exact ⟨cs, hb, hs, fun j hj => by rw [hc j hj, he j hj]⟩
theorem FB.fr (h : FB w p f) (hf : Fr S w w') (hp : ¬ S p) : FB w' p f := by
  obtain ⟨cs, hb, hs, hc⟩ := h; exact ⟨cs, hb.fr hf hp, hs, hc⟩
theorem FB.keep (h : FB w p f) (hb : Below w.heap.size w w') : FB w' p f := h.fr (Fr.quiet (S := fun _ => False) hb) (fun h => h)
theorem FB.drewN (h : FB w p f) (n : Nat) : FB (w.drewN n) p f := h.keep (nextN (Mem.start w) n)
theorem FB.drew (h : FB w p f) : FB w.drew p f := h.keep (nextN (Mem.start w) 1)
theorem FB.far (h : FB w p f) {q : Addr} (hq : q.block ≠ p) (u : Value) : FB (w.setCell q u) p f := by
  obtain ⟨cs, hb, hs, hc⟩ := h; exact ⟨cs, hb.far hq u, hs, hc⟩
theorem FB.set (h : FB w p f) (i : Nat) (u : Value) : FB (w.setCell ⟨p, i, none⟩ u) p (fun j => if j = i then u else f j) := by
  obtain ⟨cs, hb, hs, hc⟩ := h
  refine ⟨_, hb.set_ i u, by simpa using hs, fun j hj => ?_⟩
  rw [Array.getElem?_setIfInBounds]
  by_cases e : i = j
  · subst e; simp [hs, hj]
  · rw [if_neg e, hc j hj]
    show some (f j) = some (if j = i then u else f j)
    rw [if_neg (fun h => e h.symm)]
end
theorem FB.zero (w : World) : FB (w.alloc (.cells fzero 80)) w.heap.size (fcell 0 0 0) :=
  ⟨fzero, Blk.new w _ _, by simp [fzero], fun j hj => by simp [fzero, hj]⟩
theorem zeroF (w : World) : (zeroValue 80).run Try.prog w = .ok (.agg fzero) w := by kernel_rfl

/-- A field: its tables are not yet made, or they are. -/
def Fld (w : World) (p : Nat) : Prop := FB w p (fcell 0 0 0) ∨ FB w p (fcell 1 0 255)
theorem Fld.keep {w w' : World} {p : Nat} (h : Fld w p) (hb : Below w.heap.size w w') : Fld w' p := h.elim (fun h => .inl (h.keep hb)) fun h => .inr (h.keep hb)
theorem Fld.fr {w w' : World} {p : Nat} {S : Nat → Prop} (h : Fld w p) (hf : Fr S w w') (hp : ¬ S p) : Fld w' p := h.elim (fun h => .inl (h.fr hf hp)) fun h => .inr (h.fr hf hp)
theorem Fld.lt {w : World} {p : Nat} (h : Fld w p) : p < w.heap.size := h.elim FB.lt FB.lt

/-- A new field. -/
def NewFOk (w : World) (e : Ending) (w' : World) : Prop :=
  e = .returned (.pointer (some ⟨w.heap.size, 0, none⟩)) ∧ FB w' w.heap.size (fcell 0 0 0) ∧ Below w.heap.size w w' ∧ w'.heap.size = w.heap.size + 1
theorem newf_any (w : World) : Calls Try.prog 12 #[] w (NewFOk w) := by
  have hz := zeroF
  generalize hf : fzero = z at *
  have HF := Lib.hid hf
  clear hf
  go_enter Try.func12, Try.ntmps12
  go_wp2_with fail
  go_ret
  refine ⟨rfl, ?_, nextA (Mem.start w) _, by simp⟩
  have := HF.out
  subst this
  exact FB.zero w

theorem step_ex {k j : Nat} (hk : k < 255) (hj : j < 510) : exT (k + 1) j = if j = k ∨ j = k + 255 then (pw k).toNat else exT k j := by
  unfold exT
  have hm := Nat.mod_add_div j 255
  have hl := Nat.mod_lt j (show 255 > 0 by decide)
  by_cases h : j = k ∨ j = k + 255
  · have e : j % 255 = k := by omega
    rw [if_pos (by omega), if_pos h]
    rw [← pw_mod j, e]
  · have e : j % 255 ≠ k := by omega
    rw [if_neg h]
    by_cases h2 : j % 255 < k
    · rw [if_pos h2, if_pos (by omega)]
    · rw [if_neg h2, if_neg (by omega)]
theorem step_lg {k v : Nat} (hk : k < 255) (hv : v < 256) : lgT (k + 1) v = if v = (pw k).toNat then k else lgT k v := by
  unfold lgT
  have hlg : lgl.getD (pw k).toNat 0 = k := lg_pw k hk
  by_cases h : v = (pw k).toNat
  · have hn : v ≠ 0 := by
      intro e; exact pw_ne k (UInt8.toNat_inj.1 (by rw [← h, e]; rfl))
    rw [if_pos h, if_pos (by rw [h, hlg]; exact ⟨by rw [← h]; exact hn, by omega⟩), h, hlg]
  · rw [if_neg h]
    by_cases h2 : v ≠ 0 ∧ lgl.getD v 0 < k
    · rw [if_pos h2, if_pos ⟨h2.1, by omega⟩]
    · rw [if_neg h2, if_neg]
      rintro ⟨h3, h4⟩
      have e : lgl.getD v 0 = k := by
        by_cases h5 : lgl.getD v 0 < k
        · exact absurd ⟨h3, h5⟩ h2
        · omega
      have hv2 : (UInt8.ofNat v).toNat = v := by rw [UInt8.toNat_ofNat']; exact Nat.mod_eq_of_lt hv
      have := pw_lg (UInt8.ofNat v) (fun e2 => h3 (by rw [← hv2, e2]; rfl))
      rw [lg, hv2, e] at this
      exact h (by rw [this, hv2])
/-- A round's three stores. -/
theorem step_cells (d m : Int) {k : Nat} (hk : k < 255) (j : Nat) (hj : j < 769) :
    (if j = 513 + (pw k).toNat then Value.int .i64 (k : Nat) else if j = 3 + (k + 255) then Value.int .u8 ((pw k).toNat : Nat) else if j = 3 + k then Value.int .u8 ((pw k).toNat : Nat) else fcell d m k j) = fcell d m (k + 1) j := by
  have hx := (pw k).toNat_lt
  unfold fcell
  by_cases h3 : j < 3
  · rw [if_neg (by omega), if_neg (by omega), if_neg (by omega), if_pos h3, if_pos h3]
  · rw [if_neg h3, if_neg h3]
    by_cases h5 : j < 513
    · rw [if_pos h5, if_pos h5, if_neg (by omega), step_ex hk (by omega)]
      by_cases e1 : j = 3 + (k + 255)
      · rw [if_pos e1, if_pos (by omega)]
      · rw [if_neg e1]
        by_cases e2 : j = 3 + k
        · rw [if_pos e2, if_pos (by omega)]
        · rw [if_neg e2, if_neg (by omega)]
    · rw [if_neg h5, if_neg h5, if_neg (show ¬ j = 3 + (k + 255) by omega), if_neg (show ¬ j = 3 + k by omega), step_lg hk (by omega)]
      by_cases e1 : j = 513 + (pw k).toNat
      · rw [if_pos e1, if_pos (by omega)]
      · rw [if_neg e1, if_neg (by omega)]
theorem next_all : (List.range 256).all (fun x => decide (mulN x 2 = if 255 < x * 2 then (x * 2) ^^^ 285 else x * 2)) = true := by decide +kernel
theorem pw_next (k : Nat) : (pw (k + 1)).toNat = if 255 < (pw k).toNat * 2 then ((pw k).toNat * 2) ^^^ 285 else (pw k).toNat * 2 := by
  rw [pw, mul_toNat]
  exact Bv.forall_lt_of_all (n := 256) (p := fun x => mulN x 2 = if 255 < x * 2 then (x * 2) ^^^ 285 else x * 2) next_all _ (pw k).toNat_lt
end Go.Proofs.Ythdapoipfnnaeaa.FdW
/- How the tables are filled, once; made. -/
namespace Go.Proofs.Ythdapoipfnnaeaa.FdW
open Go.RowKit Mem Gf
set_option linter.unusedVariables false

theorem xorI (a b : Nat) (ha : a < 2 ^ 62) (hb : b < 2 ^ 62) : bits .xor .i64 (a : Int) (b : Int) = ((a ^^^ b : Nat) : Int) := by
  have hx : a ^^^ b < 2 ^ 62 := Nat.xor_lt_two_pow ha hb
  have h1 : (BitVec.ofInt 64 (a : Int)).toNat = a := by rw [BitVec.ofInt_natCast, BitVec.toNat_ofNat]; exact Nat.mod_eq_of_lt (by omega)
  have h2 : (BitVec.ofInt 64 (b : Int)).toNat = b := by rw [BitVec.ofInt_natCast, BitVec.toNat_ofNat]; exact Nat.mod_eq_of_lt (by omega)
  show IntKind.i64.wrap ((BitVec.ofInt 64 (a : Int) ^^^ BitVec.ofInt 64 (b : Int)).toNat : Int) = _
  rw [BitVec.toNat_xor, h1, h2, IntKind.wrap_i64]
  omega
theorem xor285 (x : Nat) (hx : x < 256) : bits .xor .i64 ((x : Int) * 2) 285 = ((x * 2 ^^^ 285 : Nat) : Int) := xorI (x * 2) 285 (by omega) (by decide)
theorem alive {w : World} {B o : Nat} {v : Value} (h : w.cell? ⟨B, o, none⟩ = some v) : B < w.heap.size := by
  by_cases hB : B < w.heap.size
  · exact hB
  · simp [World.cell?, Array.getElem?_eq_none (Nat.le_of_not_lt hB)] at h

set_option maxRecDepth 100000 in
set_option maxHeartbeats 1000000 in
theorem fill_any (w : World) (p B : Nat) (hne : B ≠ p) (m : Int) (hB : w.cell? ⟨B, 0, none⟩ = some (.pointer (some ⟨p, 0, none⟩))) (h : FB w p (fcell 0 m 0)) :
    Calls Try.prog 68 #[.pointer (some ⟨B, 0, none⟩)] w fun e w' => e = .returned (.tuple #[]) ∧ FB w' p (fcell 0 m 255) ∧ Fr (fun k => k = p) w w' := by
  have HH := Lib.hid (And.intro h (And.intro hB hne))
  clear h hB
  go_enter Try.func68, Try.ntmps68
  go_wp2_with fail
  go_loopw [1, 3] (fun x i wr => ∃ (k : Nat), i = .int .i64 (k : Int) ∧ x = .int .i64 ((pw k).toNat : Int) ∧ k ≤ 255 ∧ FB wr p (fcell 0 m k) ∧ Fr (fun k => k = p) w wr) (fun _ i _ => 255 - (intOf i).toNat)
  case atStart => exact ⟨0, rfl, rfl, Nat.zero_le _, HH.out.1, Fr.refl _ _⟩
  case round =>
    obtain ⟨k, rfl, rfl, hk, hF, hfr⟩ := hrel
    have HF := Lib.hid (And.intro hF hfr)
    have hcB : wr.cell? ⟨B, 0, none⟩ = some (.pointer (some ⟨p, 0, none⟩)) := (World.cell?_of_block (hfr.block B (alive HH.out.2.1) hne)).trans HH.out.2.1
    clear hF hfr
    by_cases hk5 : k < 255
    · have hx1 : (pw k).toNat < 256 := (pw k).toNat_lt
      have hc1 := HF.out.1.cell (j := 3 + k) (by omega)
      have hc2 := HF.out.1.cell (j := 3 + (k + 255)) (by omega)
      have hc3 := HF.out.1.cell (j := 513 + (pw k).toNat) (by omega)
      have hf1 := HF.out.1.frozen (3 + k)
      have hf2 := HF.out.1.frozen (3 + (k + 255))
      have hF2 := Lib.hid (((HF.out.1.set (3 + k) (.int .u8 ((pw k).toNat : Int))).set (3 + (k + 255)) (.int .u8 ((pw k).toNat : Int))).drew)
      have hcB2 : (((wr.setCell ⟨p, 3 + k, none⟩ (.int .u8 ((pw k).toNat : Int))).setCell ⟨p, 3 + (k + 255), none⟩ (.int .u8 ((pw k).toNat : Int))).drew).cell? ⟨B, 0, none⟩ = some (.pointer (some ⟨p, 0, none⟩)) := by
        rw [World.cell?_drew, World.cell?_setCell_other _ _ _ _ (fun h => hne (congrArg Addr.block h).symm), World.cell?_setCell_other _ _ _ _ (fun h => hne (congrArg Addr.block h).symm)]
        exact hcB
      have hfr2 := Lib.hid (((HF.out.2.setCell (p := ⟨p, 3 + k, none⟩) (fun _ => rfl) (.int .u8 ((pw k).toNat : Int))).setCell (p := ⟨p, 3 + (k + 255), none⟩) (fun _ => rfl) (.int .u8 ((pw k).toNat : Int))).drew)
      have HS := Lib.hid (fun j hj => step_cells 0 m hk5 j hj)
      have hn : ((pw (k + 1)).toNat : Int) = if 255 < (pw k).toNat * 2 then (((pw k).toNat * 2 ^^^ 285 : Nat) : Int) else ((pw k).toNat * 2 : Nat) := by rw [pw_next]; split <;> rfl
      have HN := Lib.hid hn
      clear hn
      generalize (pw k).toNat = x at *
      generalize fcell 0 m k (3 + k) = u1 at *
      generalize fcell 0 m k (3 + (k + 255)) = u2 at *
      generalize fcell 0 m k (513 + x) = u3 at *
      go_wp2_with fail
      go_region
      generalize hw2 : ((wr.setCell ⟨p, 3 + k, none⟩ (.int .u8 (x : Int))).setCell ⟨p, 3 + (k + 255), none⟩ (.int .u8 (x : Int))).drew = w2 at *
      have HW2 := Lib.hid hw2
      clear hw2 hc1 hc2 hc3 hf1 hf2 hcB
      have hc3 := hF2.out.cell (j := 513 + x) (by omega)
      have hf3 := hF2.out.frozen (513 + x)
      generalize (if 513 + x = 3 + (k + 255) then Value.int IntKind.u8 (x : Int) else if 513 + x = 3 + k then Value.int IntKind.u8 (x : Int) else fcell 0 m k (513 + x)) = u4 at *
      by_cases hx5 : 255 < x * 2
      · have h255 : (255 : Int) < (x : Int) * 2 := by omega
        rw [if_pos hx5] at HN
        have hxr := xor285 x hx1
        go_wp2_with fail
        go_roundw
        case rel =>
          refine ⟨k + 1, rfl, by rw [HN.out], hk5, ?_, ?_⟩
          · have := HW2.out; subst this
            exact (hF2.out.set (513 + x) (.int .i64 (k : Nat))).congr (HS.out)
          · have := HW2.out; subst this
            exact hfr2.out.setCell (p := ⟨p, 513 + x, none⟩) (fun _ => rfl) _
        case measure => simp [intOf]; omega
      · have h255 : ¬ (255 : Int) < (x : Int) * 2 := by omega
        rw [if_neg hx5] at HN
        go_wp2_with fail
        go_roundw
        case rel =>
          refine ⟨k + 1, rfl, by rw [HN.out]; simp, hk5, ?_, ?_⟩
          · have := HW2.out; subst this
            exact (hF2.out.set (513 + x) (.int .i64 (k : Nat))).congr (HS.out)
          · have := HW2.out; subst this
            exact hfr2.out.setCell (p := ⟨p, 513 + x, none⟩) (fun _ => rfl) _
        case measure => simp [intOf]; omega
    · obtain rfl : k = 255 := by omega
      go_wp2_with fail
      go_end0
      exact ⟨rfl, HF.out⟩

theorem cell0 (d m : Int) (k : Nat) : fcell d m k 0 = .int .u32 d := rfl
theorem cell1 (d m : Int) (k : Nat) : fcell d m k 1 = .int .i32 m := rfl
theorem FB.setm {w : World} {p : Nat} {d m : Int} {k : Nat} (h : FB w p (fcell d m k)) (m' : Int) : FB (w.setCell ⟨p, 1, none⟩ (.int .i32 m')) p (fcell d m' k) :=
  (h.set 1 _).congr fun j hj => by
    by_cases e : j = 1
    · subst e; rfl
    · rw [if_neg e]
      unfold fcell
      by_cases h3 : j < 3
      · rw [if_pos h3, if_pos h3]
        by_cases e0 : j = 0
        · rw [if_pos e0, if_pos e0]
        · rw [if_neg e0, if_neg e0, if_neg e, if_neg e]
      · rw [if_neg h3, if_neg h3]
theorem FB.setd {w : World} {p : Nat} {d m : Int} {k : Nat} (h : FB w p (fcell d m k)) (d' : Int) : FB (w.setCell ⟨p, 0, none⟩ (.int .u32 d')) p (fcell d' m k) :=
  (h.set 0 _).congr fun j hj => by
    by_cases e : j = 0
    · subst e; rfl
    · rw [if_neg e]
      unfold fcell
      by_cases h3 : j < 3
      · rw [if_pos h3, if_pos h3, if_neg e, if_neg e]
      · rw [if_neg h3, if_neg h3]

theorem aload_no (a : Addr) (w : World) (h0 : w.cell? a = some (.int .u32 0)) :
    Calls Try.prog 70 #[.pointer (some a)] w fun e w' => e = .returned (.bool false) ∧ w = w' := by
  have hl := run_call_load (P := Try.prog) Try.func72 (by kernel_rfl) (by kernel_rfl) (by kernel_rfl) .u32 (by kernel_rfl) h0
  go_enter Try.func70, Try.ntmps70
  go_wp2
  go_ret
  exact ⟨rfl, rfl⟩

set_option maxRecDepth 100000 in
set_option maxHeartbeats 1600000 in
/-- (*sync.Once).doSlow, not yet done and the lock free: the tables are filled. -/
theorem slow_any (w : World) (p B : Nat) (hne : B ≠ p) (hB : w.cell? ⟨B, 0, none⟩ = some (.pointer (some ⟨p, 0, none⟩))) (h : FB w p (fcell 0 0 0)) :
    Calls Try.prog 71 #[.pointer (some ⟨p, 0, none⟩), .func (.func 68) #[] #[.pointer (some ⟨B, 0, none⟩)]] w fun e w' => e = .returned (.tuple #[]) ∧ FB w' p (fcell 1 0 255) ∧ Fr (fun k => k = p) w w' := by
  have hc1 := h.cell (j := 1) (by omega)
  have hf1 := h.frozen 1
  rw [cell1] at hc1
  have HF1 := Lib.hid (h.setm 1)
  have hB1 : (w.setCell ⟨p, 1, none⟩ (.int .i32 1)).cell? ⟨B, 0, none⟩ = some (.pointer (some ⟨p, 0, none⟩)) := by
    rw [World.cell?_setCell_other _ _ _ _ (fun h => hne (congrArg Addr.block h).symm)]; exact hB
  have hl0 := HF1.out.cell (j := 0) (by omega)
  rw [cell0] at hl0
  have hnot : ∀ (x : Bool) (w : World), (Op.unary .not (.bool x)).run Try.prog w = .ok (.bool (!x)) w := fun _ _ => rfl
  have HH := Lib.hid (And.intro h hB1)
  clear h hB hB1
  go_enter_defers Try.func71, Try.ntmps71
  go_wp2_with (go_at_call 73; refine (lock_free ⟨p, 1, none⟩ _ hc1 hf1).mono ?_; rintro e w' ⟨rfl, rfl⟩)
  refine (aload_no _ _ hl0).mono ?_
  rintro e w' ⟨rfl, rfl⟩
  go_wp2_with fail
  refine (fill_any _ p B hne 1 HH.out.2 HF1.out).mono ?_
  rintro e w2 ⟨rfl, hF2, hfr2⟩
  have HF2 := Lib.hid (And.intro hF2 hfr2)
  clear hF2 hfr2 hl0 hc1 hf1
  go_wp2_with fail
  -- the door: two deferred calls, the last laid first
  refine leaves_cons (f := 75) (args := #[.pointer (some ⟨p, 0, none⟩), .bool true]) (by simp) (by simp [go_sem]) ?_
  refine (store_deferred ⟨p, 0, none⟩ (.int .u32 0) .returning _ (by rw [HF2.out.1.cell (j := 0) (by omega)]; rfl) (HF2.out.1.frozen 0)).mono ?_
  rintro e u' w'' ⟨rfl, rfl, rfl⟩
  have HF3 := Lib.hid (HF2.out.1.drew.setd 1)
  refine leaves_cons (f := 74) (args := #[.pointer (some ⟨p, 1, none⟩)]) (by simp [settle]) (by simp [go_sem]) ?_
  refine (unlock_deferred ⟨p, 1, none⟩ _ _ (by rw [HF3.out.cell (j := 1) (by omega)]; rfl) (HF3.out.frozen 1)).mono ?_
  rintro e u' w'' ⟨rfl, rfl, rfl⟩
  have hpost : FB ((w2.drew.setCell ⟨p, 0, none⟩ (.int .u32 1)).setCell ⟨p, 1, none⟩ (.int .i32 0)) p (fcell 1 0 255) ∧ Fr (fun k => k = p) w ((w2.drew.setCell ⟨p, 0, none⟩ (.int .u32 1)).setCell ⟨p, 1, none⟩ (.int .i32 0)) :=
    ⟨HF3.out.setm 0, ((((Fr.refl (fun k => k = p) w).setCell (p := ⟨p, 1, none⟩) (fun _ => rfl) _).trans HF2.out.2 fun _ _ h => h).drew.setCell (p := ⟨p, 0, none⟩) (fun _ => rfl) _).setCell (p := ⟨p, 1, none⟩) (fun _ => rfl) _⟩
  simp only [Leaves, settle, results, Try.results71]
  refine ⟨.tuple #[], ?_, rfl, hpost.1, hpost.2⟩
  simp

set_option maxRecDepth 100000 in
set_option maxHeartbeats 1600000 in
/-- (*sync.Once).Do, not yet done. -/
theorem do_first (w : World) (p B : Nat) (hne : B ≠ p) (hB : w.cell? ⟨B, 0, none⟩ = some (.pointer (some ⟨p, 0, none⟩))) (h : FB w p (fcell 0 0 0)) :
    Calls Try.prog 67 #[.pointer (some ⟨p, 0, none⟩), .func (.func 68) #[] #[.pointer (some ⟨B, 0, none⟩)]] w fun e w' => e = .returned (.tuple #[]) ∧ FB w' p (fcell 1 0 255) ∧ Fr (fun k => k = p) w w' := by
  have hl0 := h.cell (j := 0) (by omega)
  rw [cell0] at hl0
  have hnot : ∀ (x : Bool) (w : World), (Op.unary .not (.bool x)).run Try.prog w = .ok (.bool (!x)) w := fun _ _ => rfl
  have HH := Lib.hid (And.intro h hB)
  clear h hB
  go_enter Try.func67, Try.ntmps67
  go_wp2_with fail
  refine (aload_no _ _ hl0).mono ?_
  rintro e w' ⟨rfl, rfl⟩
  go_wp2_with fail
  refine (slow_any _ p B hne HH.out.2 HH.out.1).mono ?_
  rintro e w2 ⟨rfl, hF2, hfr2⟩
  have HF2 := Lib.hid (And.intro hF2 hfr2)
  clear hF2 hfr2 hl0
  go_wp2_with fail
  go_end0
  exact ⟨rfl, HF2.out⟩

/-- A field's pointer, or nil. -/
def fptr (r : Option Nat) : Value := .pointer (r.map fun p => ⟨p, 0, none⟩)
def FldR (w : World) (r : Option Nat) : Prop := ∀ p, r = some p → Fld w p
/-- What made leaves. -/
def MadeOk (w : World) (r : Option Nat) (e : Ending) (w' : World) : Prop :=
  ∃ q, e = .returned (.pointer (some ⟨q, 0, none⟩)) ∧ FB w' q (fcell 1 0 255) ∧ Fr (fun k => r = some k) w w' ∧ ∀ p, r = some p → q = p
theorem neq_ptr (q : Addr) (w : World) : (binOp .eql 24 (.pointer (some q)) (.pointer none)).run Try.prog w = .ok (.bool false) w := by kernel_rfl
theorem neq_nil (w : World) : (binOp .eql 24 (.pointer none) (.pointer none)).run Try.prog w = .ok (.bool true) w := by kernel_rfl
set_option maxRecDepth 100000 in
set_option maxHeartbeats 1600000 in
theorem made_first (w : World) (p : Nat) (h : FB w p (fcell 0 0 0)) : Calls Try.prog 58 #[.pointer (some ⟨p, 0, none⟩)] w (MadeOk w (some p)) := by
  have hmf : ∀ (fn : Fn) (first cap : Array Value) (w : World), (Instr.makeFunc fn first cap).run Try.prog w = .ok (.func fn first cap) w := fun _ _ _ _ => rfl
  have HF := Lib.hid (h.keep (nextA (Mem.start w) (.cells #[.pointer (some ⟨p, 0, none⟩)] 24)))
  have HL := Lib.hid h.lt
  clear h
  go_enter Try.func58, Try.ntmps58
  go_wp2_with fail
  refine (do_first _ p w.heap.size (by have := HL.out; omega) (by simp) HF.out).mono ?_
  rintro e w2 ⟨rfl, hF2, hfr2⟩
  have hc : w2.cell? ⟨w.heap.size, 0, none⟩ = some (.pointer (some ⟨p, 0, none⟩)) := (World.cell?_of_block (hfr2.block w.heap.size (by simp) (by have := HL.out; omega))).trans (by simp)
  have HF2 := Lib.hid (And.intro hF2 hfr2)
  clear hF2 hfr2
  go_wp2_with fail
  go_ret
  refine ⟨p, rfl, HF2.out.1, ?_, fun _ h => by injection h⟩
  refine ((Fr.refl (fun k => some p = some k) w).alloc _).trans HF2.out.2 fun k _ h => by rw [h]
set_option maxRecDepth 100000 in
set_option maxHeartbeats 1600000 in
theorem made_again (w : World) (p : Nat) (h : FB w p (fcell 1 0 255)) : Calls Try.prog 58 #[.pointer (some ⟨p, 0, none⟩)] w (MadeOk w (some p)) := by
  have hmf : ∀ (fn : Fn) (first cap : Array Value) (w : World), (Instr.makeFunc fn first cap).run Try.prog w = .ok (.func fn first cap) w := fun _ _ _ _ => rfl
  have HF := Lib.hid (h.keep (nextA (Mem.start w) (.cells #[.pointer (some ⟨p, 0, none⟩)] 24)))
  have HL := Lib.hid h.lt
  clear h
  go_enter Try.func58, Try.ntmps58
  go_wp2_with fail
  refine (do_done _ _ _ (HF.out.cell (j := 0) (by omega))).mono ?_
  rintro e w2 ⟨rfl, rfl⟩
  go_wp2_with fail
  go_ret
  exact ⟨p, rfl, HF.out, (Fr.refl (fun k => some p = some k) w).alloc _, fun _ h => by injection h⟩
set_option maxRecDepth 100000 in
set_option maxHeartbeats 1600000 in
theorem made_nil (w : World) : Calls Try.prog 58 #[.pointer none] w (MadeOk w none) := by
  have hmf : ∀ (fn : Fn) (first cap : Array Value) (w : World), (Instr.makeFunc fn first cap).run Try.prog w = .ok (.func fn first cap) w := fun _ _ _ _ => rfl
  have hc0 : (w.alloc (.cells #[.pointer none] 24)).cell? ⟨w.heap.size, 0, none⟩ = some (.pointer none) := by simp
  have hf0 : (w.alloc (.cells #[.pointer none] 24)).frozen? ⟨w.heap.size, 0, none⟩ = false := by simp
  have hb0 := nextA (Mem.start w) (.cells #[.pointer none] 24)
  have hs0 : (w.alloc (.cells #[.pointer none] 24)).heap.size = w.heap.size + 1 := by simp
  have HH := Lib.hid (And.intro hc0 (And.intro hf0 (And.intro hb0 hs0)))
  clear hc0 hf0 hb0 hs0
  go_enter Try.func58, Try.ntmps58
  go_wp2_with fail
  generalize w.alloc (.cells #[.pointer none] 24) = w1 at *
  refine (newf_any w1).mono ?_
  rintro e w2 ⟨rfl, hF2, hb2, hs2⟩
  have hlt : w.heap.size < w1.heap.size := by have := HH.out.2.2.2; omega
  have hc2 : w2.cell? ⟨w.heap.size, 0, none⟩ = some (.pointer none) := (hb2.cell (p := ⟨w.heap.size, 0, none⟩) hlt).trans HH.out.1
  have hf2 : w2.frozen? ⟨w.heap.size, 0, none⟩ = false := (hb2.frozen (p := ⟨w.heap.size, 0, none⟩) hlt).trans HH.out.2.1
  have HF3 := Lib.hid (hF2.far (q := ⟨w.heap.size, 0, none⟩) (by simp; omega) (.pointer (some ⟨w1.heap.size, 0, none⟩)))
  have HC3 := Lib.hid (World.cell?_setCell_same w2 ⟨w.heap.size, 0, none⟩ (.pointer (some ⟨w1.heap.size, 0, none⟩)) hc2)
  have HB2 := Lib.hid hb2
  clear hF2 hb2 hs2
  have HLT := Lib.hid hlt
  clear hlt
  go_wp2_with fail
  generalize hw3 : w2.setCell ⟨w.heap.size, 0, none⟩ (.pointer (some ⟨w1.heap.size, 0, none⟩)) = w3 at *
  have HW3 := Lib.hid hw3
  clear hw3 hc2 hf2
  refine (do_first _ w1.heap.size w.heap.size (by have := HLT.out; omega) HC3.out HF3.out).mono ?_
  rintro e w4 ⟨rfl, hF4, hfr4⟩
  have hc : w4.cell? ⟨w.heap.size, 0, none⟩ = some (.pointer (some ⟨w1.heap.size, 0, none⟩)) := (World.cell?_of_block (hfr4.block w.heap.size (alive HC3.out) (by have := HLT.out; omega))).trans HC3.out
  have HF4 := Lib.hid (And.intro hF4 hfr4)
  clear hF4 hfr4
  go_wp2_with fail
  go_ret
  refine ⟨w1.heap.size, rfl, HF4.out.1, ?_, fun _ h => by cases h⟩
  have h1 : Fr (fun k => none = some k) w w1 := Fr.quiet HH.out.2.2.1
  have h2 : Fr (fun k => none = some k) w w2 := h1.trans (Fr.quiet (S := fun _ => False) HB2.out) fun _ _ h => h.elim
  have h3 : Fr (fun k => none = some k) w w3 := by have := HW3.out; subst this; exact h2.setCell (p := ⟨w.heap.size, 0, none⟩) (fun h => by simp at h) _
  exact h3.trans HF4.out.2 fun k hk h => by have := HLT.out; omega
theorem made_any (w : World) (r : Option Nat) (h : FldR w r) : Calls Try.prog 58 #[fptr r] w (MadeOk w r) := by
  cases r with
  | none => exact made_nil w
  | some p => exact (h p rfl).elim (made_first w p) (made_again w p)
theorem MadeOk.fld {w' : World} {r : Option Nat} {q : Nat} (h : FB w' q (fcell 1 0 255)) (hr : ∀ p, r = some p → q = p) : FldR w' r := fun p hp => by
  rw [← hr p hp]; exact .inr h
end Go.Proofs.Ythdapoipfnnaeaa.FdW
/- What a field's calls tell: sums, products, quotients, powers, logarithms, orders. -/
namespace Go.Proofs.Ythdapoipfnnaeaa.FdW
open Go.RowKit Mem Gf
set_option linter.unusedVariables false

theorem ex_cell {j : Nat} (hj : j < 510) : fcell 1 0 255 (3 + j) = .int .u8 ((pw j).toNat : Nat) := by
  unfold fcell exT
  rw [if_neg (by omega), if_pos (by omega), Nat.add_sub_cancel_left, if_pos (Nat.mod_lt _ (by decide))]
theorem lg_cell {a : UInt8} (ha : a ≠ 0) : fcell 1 0 255 (513 + a.toNat) = .int .i64 (lg a : Nat) := by
  have h : a.toNat ≠ 0 := fun e => ha (UInt8.toNat_inj.1 (by rw [e]; rfl))
  unfold fcell lgT
  rw [if_neg (by omega), if_neg (by omega), Nat.add_sub_cancel_left, if_pos ⟨h, lg_lt a⟩]; rfl
theorem u8_zero (a : UInt8) : ((a.toNat : Int) == 0) = (a == 0) := by
  rw [Bool.eq_iff_iff, beq_iff_eq, beq_iff_eq]
  exact ⟨fun h => UInt8.toNat_inj.1 (by simpa using h), fun h => by rw [h]; rfl⟩
theorem u8_eq (a b : UInt8) : ((a.toNat : Int) == (b.toNat : Int)) = (a == b) := by
  rw [Bool.eq_iff_iff, beq_iff_eq, beq_iff_eq]
  exact ⟨fun h => UInt8.toNat_inj.1 (by omega), fun h => by rw [h]⟩
theorem u8_zero_no {a : UInt8} (h : a ≠ 0) : ((a.toNat : Int) == 0) = false := by rw [u8_zero]; simpa using h

/-- What a field's call leaves: an answer; the field is one still. -/
def Ans (r : Option Nat) (w : World) (v : Value) (e : Ending) (w' : World) : Prop := e = .returned v ∧ FldR w' r ∧ Fr (fun k => r = some k) w w'

theorem FldR.drewN {w : World} {r : Option Nat} {n : Nat} (h : FldR w r) : FldR (w.drewN n) r := fun p hp => (h p hp).keep (nextN (Mem.start w) n)
theorem add_any (x y : Int) (a b : UInt8) (hx : x = (a.toNat : Int)) (hy : y = (b.toNat : Int)) (w : World) :
    Calls Try.prog 63 #[.int .u8 x, .int .u8 y] w fun e w' => e = .returned (.int .u8 ((a ^^^ b).toNat : Int)) ∧ w = w' := by
  subst hx; subst hy
  have hn : bits .xor .u8 (a.toNat : Int) (b.toNat : Int) = ((a ^^^ b).toNat : Int) := by rw [u8_xor_nat _ _ a.toNat_lt b.toNat_lt, UInt8.toNat_xor]
  have HN := Lib.hid hn
  clear hn
  go_enter Try.func63, Try.ntmps63
  go_wp2_with fail
  go_ret
  exact ⟨by rw [HN.out]; rfl, rfl⟩

theorem tmod255 (n : Int) : n.tmod 255 = if n % 255 = 0 ∨ 0 ≤ n then n % 255 else n % 255 - 255 := by
  rw [Int.tmod_eq_emod]
  split <;> split <;> omega
theorem rest_any (n : Int) (w : World) :
    Calls Try.prog 59 #[.int .i64 n] w fun e w' => e = .returned (.int .i64 (n % 255)) ∧ w = w' := by
  have ht := Lib.hid (tmod255 n)
  go_enter Try.func59, Try.ntmps59
  go_wp2_with fail
  · have h0 : n.tmod 255 < 0 := by assumption
    go_ret
    refine ⟨?_, rfl⟩
    have h1 : n.tmod 255 + 255 = n % 255 := by
      have := ht.out
      rw [this] at h0 ⊢
      split at h0
      · omega
      · rename_i h2; rw [if_neg h2]; omega
    rw [IntWalk.wrap64_in _ (by omega), h1]; rfl
  · have h0 : 0 ≤ n.tmod 255 := by assumption
    go_ret
    refine ⟨?_, rfl⟩
    have h1 : n.tmod 255 = n % 255 := by
      have := ht.out
      rw [this] at h0 ⊢
      split at h0
      · rename_i h2; rw [if_pos h2]
      · omega
    rw [h1]; rfl

set_option maxHeartbeats 800000 in
theorem mul_any (w : World) (r : Option Nat) (h : FldR w r) (x y : Int) (a b : UInt8) (hx : x = (a.toNat : Int)) (hy : y = (b.toNat : Int)) :
    Calls Try.prog 61 #[fptr r, .int .u8 x, .int .u8 y] w (Ans r w (.int .u8 ((mul a b).toNat : Int))) := by
  subst hx; subst hy
  by_cases ha : a = 0
  · subst ha
    have HM := Lib.hid (zero_mul b)
    have hz : (((0 : UInt8).toNat : Int) == 0) = true := rfl
    have HH := Lib.hid h
    clear h
    go_enter Try.func61, Try.ntmps61
    go_wp2_with fail
    go_ret
    exact ⟨by rw [HM.out]; rfl, HH.out, Fr.refl _ _⟩
  · by_cases hb : b = 0
    · subst hb
      have HM := Lib.hid (mul_zero a)
      have hz : (((0 : UInt8).toNat : Int) == 0) = true := rfl
      have hz2 := u8_zero_no ha
      have HH := Lib.hid h
      clear h
      go_enter Try.func61, Try.ntmps61
      go_wp2_with fail
      go_ret
      exact ⟨by rw [HM.out]; rfl, HH.out, Fr.refl _ _⟩
    · have hz1 := u8_zero_no ha
      have hz2 := u8_zero_no hb
      have HM := Lib.hid (mul_pw ha hb)
      have HH := Lib.hid h
      have HL := Lib.hid (And.intro (lg_cell ha) (lg_cell hb))
      have hi := lg_lt a
      have hj := lg_lt b
      have ha5 : a.toNat < 256 := a.toNat_lt
      have hb5 : b.toNat < 256 := b.toNat_lt
      clear h
      generalize mul a b = c at *
      generalize lg a = i at *
      generalize lg b = j at *
      generalize a.toNat = x at *
      generalize b.toNat = y at *
      go_enter Try.func61, Try.ntmps61
      go_wp2_with fail
      refine (made_any w r HH.out).mono ?_
      rintro e w1 ⟨q, rfl, hF, hfr, hq⟩
      have h1 := hF.cell (j := 513 + x) (by omega)
      have h2 := hF.cell (j := 513 + y) (by omega)
      have h3 := hF.cell (j := 3 + (i + j)) (by omega)
      rw [HL.out.1] at h1
      rw [HL.out.2] at h2
      rw [ex_cell (by omega)] at h3
      have HF := Lib.hid (And.intro (MadeOk.fld hF hq) hfr)
      have HQ := Lib.hid hq
      clear hF hfr hq
      have hx5 : (x : Int) < 256 := by omega
      have hy5 : (y : Int) < 256 := by omega
      have hij : (i : Int) + (j : Int) < 510 := by omega
      go_wp2_with fail
      go_quiet (fail)
      go_wp2_with fail
      go_ret
      exact ⟨by rw [HM.out]; rfl, HF.out.1.drewN, HF.out.2.drewN _⟩

/-- Is a byte not 0? -/
def nz (b : UInt8) : Bool := b != 0
theorem nz_zero : nz 0 = false := rfl
theorem nz_ne {b : UInt8} (h : b ≠ 0) : nz b = true := by simpa [nz] using h
set_option maxHeartbeats 800000 in
theorem div_any (w : World) (r : Option Nat) (h : FldR w r) (x y : Int) (a b : UInt8) (hx : x = (a.toNat : Int)) (hy : y = (b.toNat : Int)) :
    Calls Try.prog 69 #[fptr r, .int .u8 x, .int .u8 y] w (Ans r w (.tuple #[.int .u8 ((div a b).toNat : Int), .bool (nz b)])) := by
  subst hx; subst hy
  have HH := Lib.hid h
  clear h
  by_cases hb : b = 0
  · subst hb
    have HM := Lib.hid (div_zero a)
    have hz : (((0 : UInt8).toNat : Int) == 0) = true := rfl
    go_enter Try.func69, Try.ntmps69
    go_wp2_with fail
    refine (made_any w r HH.out).mono ?_
    rintro e w1 ⟨q, rfl, hF, hfr, hq⟩
    have HF := Lib.hid (And.intro (MadeOk.fld hF hq) hfr)
    clear hF hfr hq
    go_wp2_with fail
    go_ret2
    exact ⟨by rw [HM.out]; rfl, HF.out⟩
  · by_cases ha : a = 0
    · subst ha
      have HM := Lib.hid (And.intro (zero_div b) (nz_ne hb))
      have hz : (((0 : UInt8).toNat : Int) == 0) = true := rfl
      have hz2 := u8_zero_no hb
      go_enter Try.func69, Try.ntmps69
      go_wp2_with fail
      refine (made_any w r HH.out).mono ?_
      rintro e w1 ⟨q, rfl, hF, hfr, hq⟩
      have HF := Lib.hid (And.intro (MadeOk.fld hF hq) hfr)
      clear hF hfr hq
      go_wp2_with fail
      go_ret2
      exact ⟨by rw [HM.out.1, HM.out.2]; rfl, HF.out⟩
    · have hz1 := u8_zero_no ha
      have hz2 := u8_zero_no hb
      have HM := Lib.hid (And.intro (div_pw ha hb) (nz_ne hb))
      have HL := Lib.hid (And.intro (lg_cell ha) (lg_cell hb))
      have hi := lg_lt a
      have hj := lg_lt b
      have ha5 : a.toNat < 256 := a.toNat_lt
      have hb5 : b.toNat < 256 := b.toNat_lt
      generalize div a b = c at *
      generalize nz b = n at *
      generalize lg a = i at *
      generalize lg b = j at *
      generalize a.toNat = x at *
      generalize b.toNat = y at *
      go_enter Try.func69, Try.ntmps69
      go_wp2_with fail
      refine (made_any w r HH.out).mono ?_
      rintro e w1 ⟨q, rfl, hF, hfr, hq⟩
      have h1 := hF.cell (j := 513 + x) (by omega)
      have h2 := hF.cell (j := 513 + y) (by omega)
      have h3 := hF.cell (j := 3 + (i + 255 - j)) (by omega)
      rw [HL.out.1] at h1
      rw [HL.out.2] at h2
      rw [ex_cell (by omega)] at h3
      have HF := Lib.hid (And.intro (MadeOk.fld hF hq) hfr)
      clear hF hfr hq
      have hx5 : (x : Int) < 256 := by omega
      have hy5 : (y : Int) < 256 := by omega
      have hsum : (i : Int) + 255 - (j : Int) = ((i + 255 - j : Nat) : Int) := by omega
      have hk1 : i + 255 - j < 510 := by omega
      have hi5 : (i : Int) < 255 := by omega
      have hj5 : (j : Int) < 255 := by omega
      generalize i + 255 - j = k at *
      have hk5 : (k : Int) < 510 := by omega
      go_wp2_with fail
      go_quiet (fail)
      go_wp2_with fail
      go_ret2
      exact ⟨by rw [HM.out.1, HM.out.2]; rfl, HF.out.1.drewN, HF.out.2.drewN _⟩
set_option maxHeartbeats 800000 in
theorem inv_any (w : World) (r : Option Nat) (h : FldR w r) (x : Int) (a : UInt8) (hx : x = (a.toNat : Int)) :
    Calls Try.prog 60 #[fptr r, .int .u8 x] w (Ans r w (.tuple #[.int .u8 ((inv a).toNat : Int), .bool (nz a)])) := by
  subst hx
  have HH := Lib.hid h
  clear h
  have HM := Lib.hid (one_div a)
  go_enter Try.func60, Try.ntmps60
  go_wp2_with fail
  refine (div_any w r HH.out 1 _ 1 a rfl rfl).mono ?_
  rintro e w1 ⟨rfl, hF, hfr⟩
  rw [HM.out]
  have HF := Lib.hid (And.intro hF hfr)
  clear hF hfr
  generalize inv a = c at *
  generalize nz a = n at *
  go_wp2_with fail
  go_ret2
  exact ⟨rfl, HF.out⟩
end Go.Proofs.Ythdapoipfnnaeaa.FdW
/- What a field's calls tell: powers, orders. -/
namespace Go.Proofs.Ythdapoipfnnaeaa.FdW
open Go.RowKit Mem Gf
set_option linter.unusedVariables false

theorem FldR.keep {w w' : World} {r : Option Nat} (h : FldR w r) (hb : Below w.heap.size w w') : FldR w' r := fun p hp => (h p hp).keep hb
theorem FldR.fr {w w' : World} {r : Option Nat} {S : Nat → Prop} (h : FldR w r) (hf : Fr S w w') (hS : ∀ p, r = some p → ¬ S p) : FldR w' r := fun p hp => (h p hp).fr hf (hS p hp)
theorem FldR.some {w : World} {p : Nat} (h : Fld w p) : FldR w (some p) := fun q hq => by injection hq with hq; rw [← hq]; exact h
theorem FldR.none {w : World} : FldR w none := fun _ h => by cases h

theorem rest_q (n : Int) (w : World) : Calls Try.prog 59 #[.int .i64 n] w fun e w' => e = .returned (.int .i64 (n % 255)) ∧ w' = w :=
  (rest_any n w).mono fun e w' h => ⟨h.1, h.2.symm⟩
set_option maxHeartbeats 800000 in
theorem pow_any (w : World) (r : Option Nat) (h : FldR w r) (x : Int) (a : UInt8) (hx : x = (a.toNat : Int)) (n : Int) :
    Calls Try.prog 45 #[fptr r, .int .u8 x, .int .i64 n] w (Ans r w (.int .u8 ((pow a n).toNat : Int))) := by
  subst hx
  have HH := Lib.hid h
  clear h
  by_cases hn : n = 0
  · subst hn
    have HM := Lib.hid (pow_zero a)
    go_enter Try.func45, Try.ntmps45
    go_wp2_with fail
    go_ret
    exact ⟨by rw [HM.out]; rfl, HH.out, Fr.refl _ _⟩
  · have hz : (n == 0) = false := by simpa using hn
    by_cases ha : a = 0
    · subst ha
      have HM := Lib.hid (zero_pow hn)
      have hz0 : (((0 : UInt8).toNat : Int) == 0) = true := rfl
      clear hn
      go_enter Try.func45, Try.ntmps45
      go_wp2_with fail
      go_ret
      exact ⟨by rw [HM.out]; rfl, HH.out, Fr.refl _ _⟩
    · have hz1 := u8_zero_no ha
      obtain ⟨m, hm⟩ : ∃ m : Nat, n % 255 = (m : Int) := ⟨(n % 255).toNat, by omega⟩
      have hm5 : m < 255 := by omega
      have hpw : pow a n = pw (lg a * m % 255) := by rw [pow_pw ha, pw_mod, show (n % 255).toNat = m by omega]
      have HM := Lib.hid hpw
      have HL := Lib.hid (lg_cell ha)
      have hi := lg_lt a
      have ha5 : a.toNat < 256 := a.toNat_lt
      clear hpw hn
      generalize pow a n = c at *
      generalize lg a = i at *
      generalize a.toNat = x at *
      have hk : (i : Int) * (m : Int) = ((i * m : Nat) : Int) := by simp
      have hk2 : i * m ≤ 254 * 254 := Nat.mul_le_mul (by omega) (by omega)
      have hj : ((i * m : Nat) : Int) % 255 = ((i * m % 255 : Nat) : Int) := by omega
      have hj5 : i * m % 255 < 255 := Nat.mod_lt _ (by decide)
      generalize i * m % 255 = j at *
      generalize i * m = k at *
      have hk0 : (0 : Int) ≤ (k : Int) := by omega
      have hk9 : (k : Int) ≤ 64516 := by omega
      go_enter Try.func45, Try.ntmps45
      go_wp2_with fail
      refine (made_any w r HH.out).mono ?_
      rintro e w1 ⟨q, rfl, hF, hfr, hq⟩
      have h1 := hF.cell (j := 513 + x) (by omega)
      have h3 := hF.cell (j := 3 + j) (by omega)
      rw [HL.out] at h1
      rw [ex_cell (by omega)] at h3
      have HF := Lib.hid (And.intro (MadeOk.fld hF hq) hfr)
      clear hF hfr hq
      have hx5 : (x : Int) < 256 := by omega
      have hji : (j : Int) < 510 := by omega
      clear hk2
      go_wp2_with fail
      go_quiet ((go_at_call 59; exact Calls.quiet_of_same (rest_q _ _)))
      go_wp2_with fail
      go_ret
      exact ⟨by rw [HM.out]; rfl, HF.out.1.drewN, HF.out.2.drewN _⟩

end Go.Proofs.Ythdapoipfnnaeaa.FdW
/- slices.Clone of bytes. -/
namespace Go.Proofs.Ythdapoipfnnaeaa.PlW
open Go.RowKit Mem
set_option linter.unusedVariables false

theorem u8info : (Try.prog.info? 5).map (fun i => (i.zero, i.size, i.bytes)) = some (some (.int .u8 0), 1, 1) := by kernel_rfl
/-- What a call leaves that makes a new row: the row, and nothing else turned. -/
def NewOk (w : World) (l : List UInt8) (e : Ending) (w' : World) : Prop :=
  ∃ A c, e = .returned (.slice A l.length c) ∧ Own w' w.heap.size 5 A c (l.map u8v) ∧ Below w.heap.size w w'
set_option maxHeartbeats 400000 in
theorem clone_any (w : World) (A : Option Addr) (l : List UInt8) (n c : Nat) (hn : n = l.length) (hlen : n ≤ 100000000) (hA : Bytes w w.heap.size A l) :
    Calls Try.prog 62 #[.slice A n c] w (NewOk w l) := by
  obtain ⟨i0, hi0, hz0, hz1, hz2⟩ := info_parts u8info
  subst hn
  have hnil := Lib.run_eql_slice_nil (P := Try.prog) w 22 5 A l.length c 0 0 Try.underlying22
  cases A with
  | none =>
    have hl : l = [] := by
      rcases l with _ | ⟨x, r⟩
      · rfl
      · obtain ⟨b, off, h, _⟩ := hA (by simp)
        cases h
    subst hl
    clear hnil
    have hnil := Lib.run_eql_slice_nil (P := Try.prog) w 22 5 none 0 c 0 0 Try.underlying22
    go_enter Try.func62, Try.ntmps62
    go_wp2_with fail
    go_ret
    exact ⟨none, 0, rfl, Own.nil, Below.refl _ _⟩
  | some a =>
    go_enter Try.func62, Try.ntmps62
    go_wp2_with ((with_reducible show wpList _ _ _ ((⟨some 7, _, _, _, _, _⟩ : Oper) :: _) _ _); refine wpList_app _ rfl _ _ _ rfl w.heap.size 5 i0 _ 1 Try.underlying22 hi0 hz0 hz1 hz2 rfl _ 0 0 [] rfl rfl (own_made w #[] _ (by simp) (Nat.le_refl _)) w.heap.size (some a) c l.length (l.map u8v) rfl (by simp) (hA.below ((Below.refl _ _).alloc (Nat.le_refl _) _)) u8v_one (by simp [maxLen]; omega) (by simp; omega) (by simp) l.length (by simp) ?_; intro A1 c1 w1 ho1 hb1 _ _)
    go_ret
    exact ⟨A1, c1, rfl, by simpa using ho1, ((Below.refl _ _).alloc (Nat.le_refl _) _).trans hb1⟩
end Go.Proofs.Ythdapoipfnnaeaa.PlW
/- make of so many noughts: the walk's law. -/
namespace Go.Proofs.Ythdapoipfnnaeaa.Mem
open Go.RowKit Go.Lib
section
variable {P : Program} {w : World}
theorem wpList_mk {ops : Array Oper} {rest : List Oper} {o : Oper} {a : Act} {Q : Exit → Act → World → Prop} (hg : o.guard = none) (l c : Operand) (t : TypeId) (hop : o.op = Op.makeSlice t l c)
    (e : TypeId) (i : TypeInfo) (bytes : Nat) (z : Value) (h1 : P.underlying t = some (.slice e)) (h2 : P.info? e = some i) (h3 : i.zero = some z) (h4 : i.size = 1) (h5 : i.bytes = bytes) (hzc : z.cells = #[z])
    (L : Int) (n : Nat) (hl : a.eval l = .int .i64 L) (hc : a.eval c = .int .i64 L) (hL : L = (n : Int)) (hn : bytes * n ≤ 281474976710656) (hn2 : n ≤ maxLen) (N : Nat) (hN : N = n)
    (hK : wpList P ops Q rest (a.put o.dst (.slice (some ⟨w.heap.size, 0, none⟩) N N)) (w.alloc (.cells (Array.replicate n z) e))) :
    wpList P ops Q (o :: rest) a w := by
  subst hL; subst hN
  have hrun := run_make (P := P) w t e i z h1 h2 h3 .i64 .i64 (N : Int) (N : Int) (by omega) (by omega) (by rw [h5, ← Int.natCast_mul]; omega) (by unfold maxLen at hn2; omega)
  rw [hzc, h4, Nat.mul_one, Int.toNat_natCast] at hrun
  rw [show madeCells #[z] N = Array.replicate N z from by apply Array.toList_inj.1; rw [toList_madeCells_one, Array.toList_replicate]] at hrun
  refine wpList_plain hg fun K hK' => ?_
  unfold Oper.wp
  simp only [execOp, hop, hl, hc, Sem.run_bind, Sem.run_pure, hrun, Result.andThen_ok]
  exact hK' _ _ hK
/-- The row that make leaves. -/
theorem own_mk (w : World) (n : Nat) (z : Value) (T : TypeId) (hn : n ≤ maxLen) {base : Nat} (hb : base ≤ w.heap.size) : Own (w.alloc (.cells (Array.replicate n z) T)) base T (some ⟨w.heap.size, 0, none⟩) n (List.replicate n z) := by
  have h := own_made w (Array.replicate n z) T (by rw [Array.size_replicate]; exact hn) hb
  rw [Array.toList_replicate, Array.size_replicate] at h
  exact h
end
end Go.Proofs.Ythdapoipfnnaeaa.Mem
/- A range over a function value whose iterator turns cells of its own between the rounds. -/
namespace Go.Proofs.Ythdapoipfnnaeaa.Rng
open Go.RowKit Go.Shelf Mem

/-- How a round's body may be left: it turned the blocks of SB alone. -/
def postT {α : Type} (SB : Nat → Prop) (I : List α → World → Prop) (Ix : Code → List α → World → Prop) (xs : List α) (W : World) : Exit → Act → World → Prop
  | .normal, _, W' => Fr SB W W' ∧ I xs W'
  | .ret, _, W' => Fr SB W W' ∧ Ix .ret xs W'
  | .exit id, _, W' => Fr SB W W' ∧ Ix (.exit id) xs W'
  | .goto t, _, W' => Fr SB W W' ∧ Ix (.goto t) xs W'
  | .panic _, _, _ => False
  | .outgrown, _, _ => False
/-- What is asked of the iterator's call: J is the caller's invariant with the loop's two blocks (D, D + 1). -/
def CallT {α : Type} (P : Program) (gf : Nat) (lb : Array Value) (encs : α → Array Value) (I : List α → World → Prop) (Ix : Code → List α → World → Prop) (LX : List α → α → World → Prop) (SB : Nat → Prop) (D : Nat) (S Sp : List α → Prop) (w : World) : Prop :=
  ∀ (J Jx : List α → World → Prop) (W : World), W.heap.size = D + 2 → Below D w W →
    (∀ pre W1, J pre W1 → I pre W1) → (∀ pre W1, Jx pre W1 → ∃ c, Ix c pre W1) →
    (∀ pre W1 W2 (S' : Nat → Prop), J pre W1 → Fr S' W1 W2 → ¬ S' D → ¬ S' (D + 1) → I pre W2 → J pre W2) →
    (∀ pre W1 W2 (S' : Nat → Prop), Jx pre W1 → Fr S' W1 W2 → ¬ S' D → ¬ S' (D + 1) → (∀ c, Ix c pre W1 → Ix c pre W2) → Jx pre W2) →
    (∀ pre x W1, J pre W1 → LX pre x W1 → YieldAt Fence.wide 3 P (D + 1) (encs x) W1 fun e W' =>
      (e = .returned (.bool true) ∧ J (pre ++ [x]) W' ∧ Fr (fun k => SB k ∨ k = D + 1) W1 W') ∨ (e = .returned (.bool false) ∧ Jx (pre ++ [x]) W' ∧ Fr (fun k => SB k ∨ k = D + 1) W1 W')) →
    J [] W →
    CallsIn Fence.wide 4 P gf (#[.func (.yield (D + 1)) #[] #[]] ++ lb) W fun e W' => (∃ v, e = .returned v) ∧ ((∃ xs, S xs ∧ J xs W') ∨ (∃ pre, Sp pre ∧ Jx pre W'))

/-- A round, at no fence: wherever it stands. -/
theorem roundR {P : Program} {m m' l l' : Nat} {fn : FuncId} {tmps : Array Value} {assign body : Code} {W : World} {R : Ending → World → Prop} (h : RoundIn Fence.wide m P l fn tmps assign body W R) : RoundIn (Fence.wide.inRound l') m' P l fn tmps assign body W R :=
  ⟨trivial, fun c cs _ => h.2 c cs (room_wide _)⟩
theorem put_fr {k : Nat} {W : World} (o' : Obj) : Fr (fun i => i = k) W (W.putObj k o') := Fr.grown (grownBy_putObj' W k o') fun i hi => by injection hi with hi; exact hi.symm

theorem wpIn_rangeT {P : Program} {α : Type} {g : Operand} {ps : Array Tmp} {assign body : Code} {Q : Exit → Act → World → Prop} {a : Act} {w : World}
    {gf : Nat} {lb : Array Value} (hg : a.eval g = .func (.func gf) #[] lb) (eg : ∀ args w, (callFunc gf args).run P w = .ok (.enter gf args) w)
    {encs : α → Array Value} (hps : ∀ x, (encs x).size = ps.size)
    (I : List α → World → Prop) (Ix : Code → List α → World → Prop) (LX : List α → α → World → Prop) (SB : Nat → Prop) {S Sp : List α → Prop} (hSB : ¬ SB w.heap.size ∧ ¬ SB (w.heap.size + 1))
    (hcall : CallT P gf lb encs I Ix LX SB w.heap.size S Sp w)
    (hI : ∀ pre W W', I pre W → Fr (fun k => k = w.heap.size + 1) W W' → I pre W') (hIx : ∀ c pre W W', Ix c pre W → Fr (fun k => k = w.heap.size + 1) W W' → Ix c pre W') (hLX : ∀ pre x W W', LX pre x W → Fr (fun k => k = w.heap.size + 1) W W' → LX pre x W')
    (h0 : ∀ W, Below w.heap.size w W → W.heap.size = w.heap.size + 2 → I [] W)
    (hround : ∀ (l : Nat) (pre : List α) (x : α) (W : World), I pre W → LX pre x W → assign.wpIn (Fence.wide.inRound l) 3 P (Exit.then (fun a₁ W₁ => W₁ = W ∧ ∀ W2, I pre W2 → LX pre x W2 → body.wpIn (Fence.wide.inRound l) 3 P (postT SB I Ix (pre ++ [x]) W2) a₁ W2) (fun _ _ _ => False))
      { tmps := (ps.zip (encs x)).foldl (fun t (p, v) => t.setIfInBounds p v) a.tmps, defers := [] } W)
    (hdone : ∀ (D : Nat) (xs : List α) (W : World), D = w.heap.size → S xs → I xs W → W.heap[D]? = some (.deferred (some [])) → Q .normal { a with defers := { target := .collected D, args := #[] } :: a.defers } W)
    (hstop : ∀ (D : Nat) (c : Code) (pre : List α) (W : World), D = w.heap.size → Sp pre → Ix c pre W → W.heap[D]? = some (.deferred (some [])) → c.wpIn Fence.wide 5 P Q { a with defers := { target := .collected D, args := #[] } :: a.defers } W) :
    (Code.rangeFunc g ps assign body).wpIn Fence.wide 5 P Q a w := by
  refine wpIn_rangeFunc fun fn hfn => ?_
  obtain ⟨D, hD⟩ : ∃ D, D = w.heap.size := ⟨_, rfl⟩
  obtain ⟨rec, hrec⟩ : ∃ rec : LoopState → Option Code → Loop, rec = fun st pe => { state := st, pending := pe, fn, tmps := a.tmps, params := ps, assign, body, defers := D } := ⟨_, rfl⟩
  obtain ⟨W1, hW1⟩ : ∃ W1, W1 = (w.alloc (.deferred (some []))).alloc (.loop (rec .ready none)) := ⟨_, rfl⟩
  have hL1 : W1.heap[D + 1]? = some (.loop (rec .ready none)) := by
    rw [hW1, hD]; have := World.alloc_heap_new (w.alloc (.deferred (some []))) (.loop (rec .ready none)); rwa [World.size_alloc] at this
  have hK1 : W1.heap[D]? = some (.deferred (some [])) := by
    rw [hW1, hD]; exact (Below.heap_alloc _ _ _ (by simp)).trans (World.alloc_heap_new w _)
  have hB1 : Below w.heap.size w W1 := by rw [hW1]; exact ((Below.refl _ w).alloc (Nat.le_refl _) _).alloc (by simp) _
  have hs1 : W1.heap.size = D + 2 := by rw [hW1, hD]; simp
  let Bk (st : LoopState) (pe : Option Code) (W : World) : Prop := W.heap[D + 1]? = some (.loop (rec st pe)) ∧ W.heap[D]? = some (.deferred (some []))
  have hput : ∀ {st st' : LoopState} {pe pe' : Option Code} {W : World}, Bk st pe W → Bk st' pe' (W.putObj (D + 1) (.loop (rec st' pe'))) := fun h =>
    ⟨World.putObj_heap_same (Array.getElem?_eq_some_iff.1 h.1).1, (World.putObj_heap_other (by omega)).trans h.2⟩
  have hkeep : ∀ {st : LoopState} {pe : Option Code} {W W' : World} {S' : Nat → Prop}, Bk st pe W → Fr S' W W' → ¬ S' D → ¬ S' (D + 1) → Bk st pe W' := fun h hf h1 h2 =>
    ⟨(hf.block _ (Array.getElem?_eq_some_iff.1 h.1).1 h2).trans h.1, (hf.block _ (Array.getElem?_eq_some_iff.1 h.2).1 h1).trans h.2⟩
  rw [← hD] at hSB hcall hI hIx hLX
  refine ⟨D + 1, [{ target := .collected D, args := #[] }], W1, { target := .fn (.func gf) lb, args := #[.func (.yield (D + 1)) #[] #[]] }, W1, gf, #[.func (.yield (D + 1)) #[] #[]] ++ lb, W1, ?_, ?_, fun _ _ => trivial, ?_, fun h => by simp [Fence.wide] at h, ?_⟩
  · rw [hW1, hrec, hD]; exact run_enterLoop_outer _ _ _ _ _
  · simp only [resolve, hg]
    simp [go_sem]
  · simp [invoke, go_sem, eg]
  refine (hcall (fun pre W => I pre W ∧ Bk .ready none W) (fun pre W => ∃ c, Ix c pre W ∧ Bk .done (some c) W) W1 hs1 (by rw [hD]; exact hB1) (fun _ _ h => h.1) (fun _ _ ⟨c, h, _⟩ => ⟨c, h⟩)
    (fun pre Wa Wb S' h hf h1 h2 hi => ⟨hi, hkeep h.2 hf h1 h2⟩) (fun pre Wa Wb S' ⟨c, h, hb⟩ hf h1 h2 hi => ⟨c, hi c h, hkeep hb hf h1 h2⟩) ?_ ⟨h0 _ hB1 (by rw [hs1, hD]), hL1, hK1⟩).mono ?_
  · -- a round
    rintro pre x W ⟨hi, hbk⟩ hx
    have hy := run_yield (P := P) (args := encs x) hbk.1 (by rw [hrec]; exact hps x)
    rw [hrec] at hy
    refine ⟨fn, _, assign, body, hy, roundIn_of_wpIn hfn (wpIn_mono (hround _ pre x W hi hx) ?_)⟩
    rintro e1 a1 W0 he1
    cases e1 with
    | ret => exact he1.elim
    | exit id => exact he1.elim
    | goto t => exact he1.elim
    | panic ch => exact he1.elim
    | outgrown => exact he1.elim
    | normal =>
    obtain ⟨rfl, hb⟩ : W0 = W ∧ _ := he1
    refine ⟨_, run_beginRound hbk.1 (by rw [hrec]), ?_⟩
    have e1 : ({ rec .ready none with state := .busy } : Loop) = rec .busy none := by rw [hrec]
    rw [e1]
    have hbz := hput (st' := .busy) (pe' := none) hbk
    have hf0 := put_fr (W := W0) (k := D + 1) (.loop (rec .busy none))
    refine wpIn_mono (hb _ (hI _ _ _ hi hf0) (hLX _ _ _ _ hx hf0)) ?_
    have fin : ∀ (jump : Option Code) (st : LoopState) (W3 : World), st = (if jump.isNone then .ready else .done) → Fr SB (W0.putObj (D + 1) (.loop (rec .busy none))) W3 →
        (Instr.endRound (D + 1) jump).run P W3 = .ok (.bool jump.isNone) (W3.putObj (D + 1) (.loop (rec st jump))) ∧ Bk st jump (W3.putObj (D + 1) (.loop (rec st jump))) ∧ Fr (fun k => k = D + 1) W3 (W3.putObj (D + 1) (.loop (rec st jump))) ∧ Fr (fun k => SB k ∨ k = D + 1) W0 (W3.putObj (D + 1) (.loop (rec st jump))) := by
      intro jump st W3 hst' hk3
      have h3 : Bk .busy none W3 := hkeep hbz hk3 hSB.1 hSB.2
      have hr := run_endRound (P := P) jump h3.1
      have e2 : ({ rec .busy none with state := if jump.isNone then .ready else .done, pending := jump } : Loop) = rec st jump := by rw [hrec, hst']
      rw [e2] at hr
      exact ⟨hr, hput h3, put_fr _, ((hf0.mono fun k _ h => .inr h).trans hk3 fun k _ h => .inl h).trans (put_fr _) fun k _ h => .inr h⟩
    intro e a3 W3 hp
    cases e with
    | normal =>
      obtain ⟨hk3, hi3⟩ := hp
      obtain ⟨hr, hb3, hs3, hf3⟩ := fin none .ready W3 rfl hk3
      exact ⟨_, _, hr, .inl ⟨rfl, ⟨hI _ _ _ hi3 hs3, hb3⟩, hf3⟩⟩
    | ret =>
      obtain ⟨hk3, hi3⟩ := hp
      obtain ⟨hr, hb3, hs3, hf3⟩ := fin (some .ret) .done W3 rfl hk3
      exact ⟨_, _, hr, .inr ⟨rfl, ⟨_, hIx _ _ _ _ hi3 hs3, hb3⟩, hf3⟩⟩
    | exit id =>
      obtain ⟨hk3, hi3⟩ := hp
      obtain ⟨hr, hb3, hs3, hf3⟩ := fin (some (.exit id)) .done W3 rfl hk3
      exact ⟨_, _, hr, .inr ⟨rfl, ⟨_, hIx _ _ _ _ hi3 hs3, hb3⟩, hf3⟩⟩
    | goto t =>
      obtain ⟨hk3, hi3⟩ := hp
      obtain ⟨hr, hb3, hs3, hf3⟩ := fin (some (.goto t)) .done W3 rfl hk3
      exact ⟨_, _, hr, .inr ⟨rfl, ⟨_, hIx _ _ _ _ hi3 hs3, hb3⟩, hf3⟩⟩
    | panic ch => exact hp.elim
    | outgrown => exact hp.elim
  · -- behind the iterator
    rintro e W2 ⟨⟨v, rfl⟩, (⟨xs, hS, hi, hbk⟩ | ⟨pre, hSp, c, hi, hbk⟩)⟩
    · have hr := run_endLoop (P := P) hbk.1 (by rw [hrec]; simp)
      rw [show (rec .ready none).pending = none by rw [hrec]] at hr
      exact ⟨none, _, hr, hdone D xs _ hD hS (hI _ _ _ hi (put_fr _)) ((World.putObj_heap_other (by omega)).trans hbk.2)⟩
    · have hr := run_endLoop (P := P) hbk.1 (by rw [hrec]; simp)
      rw [show (rec .done (some c)).pending = some c by rw [hrec]] at hr
      exact ⟨some c, _, hr, hstop D c pre _ hD hSp (hIx _ _ _ _ hi (put_fr _)) ((World.putObj_heap_other (by omega)).trans hbk.2)⟩
end Go.Proofs.Ythdapoipfnnaeaa.Rng
/- Matrices in memory; a row of one; one of noughts. -/
namespace Go.Proofs.Ythdapoipfnnaeaa.MxW
open Go.RowKit Go.Shelf Mem Gf FdW Mx Rng
set_option linter.unusedVariables false

theorem u8info : (Try.prog.info? 5).map (fun i => (i.zero, i.size, i.bytes)) = some (some (.int .u8 0), 1, 1) := by kernel_rfl
/-- A matrix by value. -/
def mcells (r c : Nat) (A : Option Addr) (n cap : Nat) : Array Value := #[.int .i64 (r : Int), .int .i64 (c : Int), .slice A n cap]
/-- Where row i begins. -/
def rowA (A : Option Addr) (c i : Nat) : Option Addr := if i * c + c = i * c then A else A.map (·.add (i * c))
theorem addr_add (g o k : Nat) : (⟨g, o, none⟩ : Addr).add k = ⟨g, o + k, none⟩ := by
  simp only [Addr.add]
  split
  · rename_i h; subst h; rfl
  · rfl
theorem rowA_some {g o c i : Nat} (hc : 0 < c) : rowA (some ⟨g, o, none⟩) c i = some ⟨g, o + i * c, none⟩ := by
  unfold rowA
  rw [if_neg (by omega), Option.map_some, addr_add]
theorem rowA_zero {A : Option Addr} {i : Nat} : rowA A 0 i = A := if_pos rfl
theorem rowA_pos {A : Option Addr} {c i : Nat} (h : ¬ c = 0) : rowA A c i = A.map (·.add (i * c)) := if_neg (by omega)
def RowOk (w : World) (A : Option Addr) (c i : Nat) (e : Ending) (w' : World) : Prop := e = .returned (.slice (rowA A c i) c c) ∧ Below w.heap.size w w'
set_option maxRecDepth 100000 in
set_option maxHeartbeats 1000000 in
theorem row_any (w : World) (r c i : Nat) (A : Option Addr) (n cap : Nat) (hi : i < r) (hr : (r : Int) ≤ 1000000) (hn : n = r * c) (hn9 : (n : Int) ≤ 1000000000) (hc : n ≤ cap) :
    Calls Try.prog 49 #[.agg #[.int .i64 (r : Int), .int .i64 (c : Int), .slice A n cap], .int .i64 (i : Int)] w (RowOk w A c i) := by
  have h1 := idx_le (c := c) hi
  subst hn
  have hq : (i : Int) ≤ 1000000 := by omega
  have hi0 : (0 : Int) ≤ (i : Int) := by omega
  obtain ⟨p, hp⟩ : ∃ p, i * c = p := ⟨_, rfl⟩
  have e1 : (i : Int) * (c : Int) = (p : Int) := by rw [← hp]; simp
  have e2 : ((i : Int) + 1) * (c : Int) = (p : Int) + (c : Int) := by rw [← hp, Int.add_mul, Int.one_mul]; simp
  rw [hp] at h1
  have HP := Lib.hid hp
  have p1 : (p : Int) + (c : Int) ≤ (cap : Int) := by omega
  have p2 : (0 : Int) ≤ (p : Int) := by omega
  have p4 : (0 : Int) ≤ (p : Int) + (c : Int) := by omega
  have p6 : (p : Int) ≤ 1000000000 := by omega
  have p7 : (p : Int) + (c : Int) ≤ 1000000000 := by omega
  have w1 : wrap64 (p : Int) = (p : Int) := by unfold wrap64; omega
  have w2 : wrap64 ((p : Int) + (c : Int)) = (p : Int) + (c : Int) := by unfold wrap64; omega
  have w3 : ((p : Int) + (c : Int)).toNat = p + c := by omega
  have w4 : max ((p : Int) + (c : Int)) 0 = (p : Int) + (c : Int) := by omega
  have w5 : (p : Int) ≤ (p : Int) + (c : Int) := by omega
  obtain ⟨q, hq2⟩ : ∃ q, r * c = q := ⟨_, rfl⟩
  rw [hq2] at *
  clear hp hr hi hc hq2 h1 hn9
  go_enter Try.func49, Try.ntmps49
  go_wp2_with fail
  · go_ret
    refine ⟨?_, nextA (Mem.start w) _⟩
    subst h
    rw [rowA_zero]
    rfl
  · go_ret
    refine ⟨?_, nextA (Mem.start w) _⟩
    rw [rowA_pos h, HP.out]
    rfl
theorem set3 {w : World} {g : Nat} {T : TypeId} {c0 c1 c2 : Value} (h : Blk w g T #[c0, c1, c2]) (v0 v1 v2 : Value) : Blk (((w.setCell ⟨g, 0, none⟩ v0).setCell ⟨g, 1, none⟩ v1).setCell ⟨g, 2, none⟩ v2) g T #[v0, v1, v2] ∧ Fr (fun k => k = g) w (((w.setCell ⟨g, 0, none⟩ v0).setCell ⟨g, 1, none⟩ v1).setCell ⟨g, 2, none⟩ v2) :=
  ⟨((h.set_ 0 v0).set_ 1 v1).set_ 2 v2, Fr.setCell (p := ⟨g, 2, none⟩) (Fr.setCell (p := ⟨g, 1, none⟩) (Fr.setCell (p := ⟨g, 0, none⟩) (Fr.refl (fun k => k = g) w) (fun _ => rfl) v0) (fun _ => rfl) v1) (fun _ => rfl) v2⟩
theorem cells3 {w : World} {g : Nat} {T : TypeId} {c0 c1 c2 : Value} (h : Blk w g T #[c0, c1, c2]) : (w.cell? ⟨g, 0, none⟩ = some c0 ∧ w.cell? ⟨g, 1, none⟩ = some c1 ∧ w.cell? ⟨g, 2, none⟩ = some c2) ∧ w.frozen? ⟨g, 0, none⟩ = false ∧ w.frozen? ⟨g, 1, none⟩ = false ∧ w.frozen? ⟨g, 2, none⟩ = false := ⟨⟨h.cell 0, h.cell 1, h.cell 2⟩, h.frozen 0, h.frozen 1, h.frozen 2⟩
/-- What none leaves. -/
def NoneOk (w : World) (r c : Nat) (e : Ending) (w' : World) : Prop := ∃ g, e = .returned (.agg #[.int .i64 (r : Int), .int .i64 (c : Int), .slice (some ⟨g, 0, none⟩) (r * c) (r * c)]) ∧ Mem.Own w' w.heap.size 5 (some ⟨g, 0, none⟩) (r * c) ((flat r c fun _ _ => 0).map u8v) ∧ Below w.heap.size w w'
set_option maxRecDepth 100000 in
set_option maxHeartbeats 1000000 in
theorem none_any (w : World) (r c : Nat) (hr : ((r * c : Nat) : Int) ≤ 1000000000) :
    Calls Try.prog 43 #[.int .i64 (r : Int), .int .i64 (c : Int)] w (NoneOk w r c) := by
  obtain ⟨i0, hi0, hz0, hz1, hz2⟩ := info_parts u8info
  obtain ⟨q, hq⟩ : ∃ q, r * c = q := ⟨_, rfl⟩
  have e1 : (r : Int) * (c : Int) = (q : Int) := by rw [← hq]; simp
  have w1 : wrap64 (q : Int) = (q : Int) := by unfold wrap64; omega
  rw [hq] at hr
  have HQ := Lib.hid hq
  obtain ⟨g0, hg0⟩ : ∃ x, w.heap.size = x := ⟨_, rfl⟩
  obtain ⟨w1, hw1⟩ : ∃ x : World, w.alloc (.cells #[.int .i64 0, .int .i64 0, .slice none 0 0] 27) = x := ⟨_, rfl⟩
  have hb1 : Below w.heap.size w w1 := by rw [← hw1]; exact nextA (Mem.start w) _
  have hB1 : Blk w1 g0 27 #[.int .i64 0, .int .i64 0, .slice none 0 0] := by rw [← hw1, ← hg0]; exact Blk.new w _ _
  obtain ⟨g1, hg1⟩ : ∃ x, w1.heap.size = x := ⟨_, rfl⟩
  have hs1 : g1 = g0 + 1 := by rw [← hg1, ← hw1, World.size_alloc, hg0]
  have ho := own_mk w1 q (.int .u8 0) 5 (by unfold maxLen; omega) (base := g0) (by omega)
  obtain ⟨w2, hw2⟩ : ∃ x : World, w1.alloc (.cells (Array.replicate q (.int .u8 0)) 5) = x := ⟨_, rfl⟩
  have hb2 : Below w1.heap.size w1 w2 := by rw [← hw2]; exact nextA (Mem.start w1) _
  have hB2 := hB1.keep hb2
  rw [hw2, hg1] at ho
  obtain ⟨⟨c0, c1, c2⟩, f0, f1, f2⟩ := cells3 hB2
  obtain ⟨w3, hw3⟩ : ∃ x : World, ((w2.setCell ⟨g0, 0, none⟩ (.int .i64 (r : Int))).setCell ⟨g0, 1, none⟩ (.int .i64 (c : Int))).setCell ⟨g0, 2, none⟩ (.slice (some ⟨g1, 0, none⟩) q q) = x := ⟨_, rfl⟩
  have h3 := set3 hB2 (.int .i64 (r : Int)) (.int .i64 (c : Int)) (.slice (some ⟨g1, 0, none⟩) q q)
  rw [hw3] at h3
  have H3 := Lib.hid h3
  have HW3 := Lib.hid hw3
  clear hw3 h3
  have HO := Lib.hid (And.intro ho (And.intro hs1 (next hb1 hb2)))
  have HG0 := Lib.hid hg0
  have HG1 := Lib.hid hg1
  have HW1 := Lib.hid hw1
  have HW2 := Lib.hid hw2
  clear hq hb1 hB1 hb2 hB2 ho hs1 hg0 hg1 hw1 hw2
  go_enter Try.func43, Try.ntmps43
  go_wp2_with ((with_reducible show wpList _ _ _ ((⟨some 10, _, _, _, _, _⟩ : Oper) :: _) _ _); refine wpList_mk rfl _ _ _ rfl 5 i0 1 (.int .u8 0) Try.underlying22 hi0 hz0 hz1 hz2 rfl _ q rfl rfl rfl (by omega) (by unfold maxLen; omega) q rfl ?_; rw [HW1.out, HW2.out, HG1.out, HG0.out])
  rw [HW3.out]
  obtain ⟨⟨d0, d1, d2⟩, _⟩ := cells3 H3.out.1
  refine bodyPost_ret (v := .agg #[.int .i64 (r : Int), .int .i64 (c : Int), .slice (some ⟨g1, 0, none⟩) q q]) (by simp [results, Try.results43, go_sem, d0, d1, d2]) rfl ?_
  have hz : (flat r c fun _ _ => 0).map u8v = List.replicate q (.int .u8 0) := by rw [flat_zero, HQ.out, List.map_replicate]; rfl
  have h1 := HO.out.2.2
  have hg := HG0.out
  refine ⟨g1, by rw [HQ.out], ?_, h1.trans (H3.out.2.below h1.size fun k e => by rw [e, hg]; exact Nat.le_refl _)⟩
  rw [hz, HQ.out, hg]
  exact HO.out.1.fr H3.out.2 (fun g e1 e2 => by have := HO.out.2.1; injection e1 with e1; have := congrArg Addr.block e1; dsimp only at this; omega)
end Go.Proofs.Ythdapoipfnnaeaa.MxW
/- A range over the rows of a matrix. -/
namespace Go.Proofs.Ythdapoipfnnaeaa.MxW
open Go.RowKit Go.Shelf Mem Gf FdW Mx Rng
set_option linter.unusedVariables false
attribute [local go_sem] Oper.semAt_some wide_fn

theorem rows_any (w : World) (x0 x1 x2 : Value) :
    Calls Try.prog 44 #[.agg #[x0, x1, x2]] w fun e w' => e = .returned (.func (.func 57) #[] #[.pointer (some ⟨w.heap.size, 0, none⟩)]) ∧ w' = w.alloc (.cells #[x0, x1, x2] 27) := by
  have hmf : ∀ (fn : Fn) (first cap : Array Value) (w : World), (Instr.makeFunc fn first cap).run Try.prog w = .ok (.func fn first cap) w := fun _ _ _ _ => rfl
  go_enter Try.func44, Try.ntmps44
  go_wp2_with fail
  go_ret
  exact ⟨rfl, rfl⟩

/-- What is handed over with row i. -/
def rowV (A : Option Addr) (c i : Nat) : Array Value := #[.int .i64 (i : Int), .slice (rowA A c i) c c]
set_option maxRecDepth 100000 in
set_option maxHeartbeats 2000000 in
theorem rows_callT (w : World) (bm r c : Nat) (A : Option Addr) (n cap : Nat) (hbm : Blk w bm 27 #[.int .i64 (r : Int), .int .i64 (c : Int), .slice A n cap]) (hr : (r : Int) ≤ 1000000) (hn : n = r * c) (hn9 : (n : Int) ≤ 1000000000) (hc : n ≤ cap)
    (SB : Nat → Prop) (hSB : ¬ SB bm) (I : List Nat → World → Prop) (hI : ∀ pre W W', I pre W → Below W.heap.size W W' → I pre W') :
    CallT Try.prog 57 #[.pointer (some ⟨bm, 0, none⟩)] (rowV A c) I (fun _ _ _ => False) (fun pre x _ => x = pre.length ∧ x < r) SB w.heap.size (fun xs => xs.length = r) (fun _ => False) w := by
  intro J Jx W hsz hb hJI hJx hJt hJxt hY hJ0
  obtain ⟨D, hD⟩ : ∃ D, w.heap.size = D := ⟨_, rfl⟩
  have hlt := hbm.lt
  have hB := hbm.keep hb
  have hne : bm ≠ D + 1 := by omega
  rw [hD] at hsz hJt hJxt hY ⊢
  have HJT := Lib.hid (show ∀ pre W1 W2, J pre W1 → Below W1.heap.size W1 W2 → J pre W2 from fun pre W1 W2 h hb => hJt pre W1 W2 (fun _ => False) h (Fr.quiet hb) (fun h => h) (fun h => h) (hI _ _ _ (hJI _ _ h) hb))
  have HY := Lib.hid hY
  have HJX := Lib.hid (show ∀ pre W1, Jx pre W1 → False from fun pre W1 h => by obtain ⟨c, h⟩ := hJx _ _ h; exact h)
  have HB := Lib.hid hB
  have HL := Lib.hid (And.intro hn (And.intro hn9 (And.intro hc hr)))
  have HS := Lib.hid (And.intro hSB hne)
  clear hbm hD hlt hB hne hJI hJx hJt hJxt hY hI hb hn hn9 hc hSB hsz
  refine callsIn_of_wp Try.func57 rfl trivial ?_ rfl
  simp only [Try.ntmps57, List.size_toArray, List.length_cons, List.length_nil, Nat.reduceAdd, Nat.reduceSub, Array.replicate_succ, Array.replicate_zero, List.push_toArray, List.append_toArray, List.nil_append, List.cons_append]
  obtain ⟨⟨c0, _, _⟩, _⟩ := cells3 HB.out
  gi_wp2
  clear c0
  gi_loopw [6] (fun i wr => ∃ (k : Nat) (ys : List Nat), ys.length = k ∧ k ≤ r ∧ i = .int .i64 (k : Int) ∧ J ys wr ∧ Blk wr bm 27 #[.int .i64 (r : Int), .int .i64 (c : Int), .slice A n cap])
    (fun i _ => r - (intOf i).toNat)
  case atStart => exact ⟨0, [], rfl, Nat.zero_le _, rfl, hJ0, HB.out⟩
  case round =>
    obtain ⟨k, ys, hys, hk, rfl, hJs, hbk⟩ := hrel
    by_cases hlt : k < r
    · have hki : (k : Int) < (r : Int) := by omega
      have hk0 : (0 : Int) ≤ (k : Int) := by omega
      have hk9 : (k : Int) ≤ 1000000 := by omega
      obtain ⟨⟨d0, d1, d2⟩, _⟩ := cells3 hbk
      have HK := Lib.hid (And.intro hJs (And.intro hbk (And.intro hys hlt)))
      clear hJs hbk hys hk hlt
      gi_wp2
      refine (wide (row_any wr r c k A n cap HK.out.2.2.2 HL.out.2.2.2 HL.out.1 HL.out.2.1 HL.out.2.2.1)).mono ?_
      rintro e W1 ⟨rfl, hb⟩
      have hJ1 := HJT.out _ _ _ HK.out.1 hb
      have HB1 := Lib.hid (HK.out.2.1.keep hb)
      clear hb d0 d1 d2
      obtain ⟨fn, tmps, assign, body, hy, hR⟩ := HY.out ys k W1 hJ1 ⟨HK.out.2.2.1.symm, HK.out.2.2.2⟩
      unfold rowV at hy
      clear hJ1
      gi_wp2
      refine hR.mono ?_
      rintro e W3 (⟨rfl, hJ3, hk3⟩ | ⟨rfl, hJx3, _⟩)
      · have H3 := Lib.hid (And.intro hJ3 (HB1.out.fr hk3 (fun h => h.elim HS.out.1 HS.out.2)))
        clear hJ3 hk3
        gi_wp2
        go_roundw
        case rel => exact ⟨k + 1, ys ++ [k], by rw [List.length_append, HK.out.2.2.1]; rfl, HK.out.2.2.2, by simp, H3.out.1, H3.out.2⟩
        case measure => simp [intOf]; omega
      · exact (HJX.out _ _ hJx3).elim
    · obtain rfl : k = r := by omega
      have HK := Lib.hid (And.intro hJs hys)
      clear hJs hys hk hlt hbk
      gi_wp2
      go_end0
      exact ⟨⟨_, rfl⟩, .inl ⟨_, HK.out.2, HK.out.1⟩⟩

/-- How a round's body may be left. -/
def postR (SB : Nat → Prop) (I : Nat → World → Prop) (i : Nat) (W : World) : Exit → Act → World → Prop
  | .normal, _, W' => Fr SB W W' ∧ I (i + 1) W'
  | _, _, _ => False
/-- A range over a matrix's rows. -/
theorem wpIn_rows {g : Operand} {p q : Tmp} {assign body : Code} {Q : Exit → Act → World → Prop} {a : Act} {w : World} (bm r c : Nat) (A : Option Addr) (n cap : Nat)
    (hg : a.eval g = .func (.func 57) #[] #[.pointer (some ⟨bm, 0, none⟩)]) (hbm : Blk w bm 27 #[.int .i64 (r : Int), .int .i64 (c : Int), .slice A n cap]) (hr : (r : Int) ≤ 1000000) (hn : n = r * c) (hn9 : (n : Int) ≤ 1000000000) (hc : n ≤ cap)
    (SB : Nat → Prop) (hSB : ¬ SB bm ∧ ¬ SB w.heap.size ∧ ¬ SB (w.heap.size + 1)) (I : Nat → World → Prop) (hI : ∀ i W W', I i W → Fr (fun k => k = w.heap.size + 1) W W' → I i W') (h0 : I 0 w)
    (hround : ∀ (l i : Nat) (W : World), I i W → i < r → assign.wpIn (Fence.wide.inRound l) 3 Try.prog (Exit.then (fun a₁ W₁ => W₁ = W ∧ ∀ W2, I i W2 → body.wpIn (Fence.wide.inRound l) 3 Try.prog (postR SB I i W2) a₁ W2) (fun _ _ _ => False))
      { tmps := (a.tmps.setIfInBounds p (.int .i64 (i : Int))).setIfInBounds q (.slice (rowA A c i) c c), defers := [] } W)
    (hdone : ∀ (D : Nat) (W : World), D = w.heap.size → I r W → W.heap[D]? = some (.deferred (some [])) → Q .normal { a with defers := { target := .collected D, args := #[] } :: a.defers } W) :
    (Code.rangeFunc g #[p, q] assign body).wpIn Fence.wide 5 Try.prog Q a w := by
  refine wpIn_rangeT (gf := 57) (lb := #[.pointer (some ⟨bm, 0, none⟩)]) (encs := rowV A c) hg (enters_of Try.func57 (by kernel_rfl) rfl) (fun _ => rfl)
    (fun pre W => I pre.length W) (fun _ _ _ => False) (fun pre x _ => x = pre.length ∧ x < r) SB (S := fun xs => xs.length = r) (Sp := fun _ => False) ⟨hSB.2.1, hSB.2.2⟩
    (rows_callT w bm r c A n cap hbm hr hn hn9 hc SB hSB.1 _ (fun pre W W' h hb => hI _ _ _ h (Fr.quiet hb))) (fun pre W W' h hf => hI _ _ _ h hf) (fun _ _ _ _ h _ => h) (fun _ _ _ _ h _ => h)
    (fun W hb _ => hI _ _ _ h0 (Fr.quiet hb)) ?_ ?_ ?_
  · rintro l pre x W hi ⟨rfl, hx⟩
    rw [show (#[p, q].zip (rowV A c pre.length)).foldl (fun t (p, v) => t.setIfInBounds p v) a.tmps = (a.tmps.setIfInBounds p (.int .i64 (pre.length : Int))).setIfInBounds q (.slice (rowA A c pre.length) c c) from by simp [rowV]]
    refine wpIn_mono (hround l pre.length W hi hx) ?_
    rintro e a1 W0 he
    cases e with
    | normal =>
      obtain ⟨h1, h2⟩ : W0 = W ∧ _ := he
      refine ⟨h1, fun W2 hi2 _ => wpIn_mono (h2 W2 hi2) ?_⟩
      rintro e3 a3 W3 h3
      cases e3 with
      | normal => exact ⟨h3.1, by show I (pre ++ [pre.length]).length W3; rw [List.length_append]; exact h3.2⟩
      | _ => exact h3.elim
    | _ => exact he.elim
  · rintro D xs W hD hxs hi hK
    have hxs : xs.length = r := hxs
    rw [← hxs] at hdone
    exact hdone D W hD hi hK
  · rintro D c pre W _ h
    exact h.elim
/-- A piece that is left by its end alone. -/
def onlyN (Q : Exit → Act → World → Prop) : Exit → Act → World → Prop
  | .normal, a, w => Q .normal a w
  | _, _, _ => False
theorem wpIn_only {F : Fence} {n : Nat} {P : Program} {c : Code} {Q : Exit → Act → World → Prop} {a : Act} {w : World} (h : c.wpIn F n P (onlyN Q) a w) : c.wpIn F n P Q a w := wpIn_mono h (by
  intro e a w h
  cases e with
  | normal => exact h
  | _ => exact h.elim)
theorem onlyN_end {Q : Exit → Act → World → Prop} {a : Act} {w : World} (h : Q .normal a w) : onlyN Q .normal a w := h
/-- Marks of loops over functions, at a function's end. -/
def mark (D : Nat) : Deferred := { target := .collected D, args := #[] }
theorem leaves_marks {P : Program} {fn : Func} {tmps : Array Value} {R : Ending → World → Prop} : ∀ (Ds : List Nat) (W : World), Ds.Nodup → (∀ D ∈ Ds, W.heap[D]? = some (.deferred (some []))) →
    (∀ W', Fr (fun k => k ∈ Ds) W W' → (∀ (k : Nat) (o : Obj), W.heap[k]? = some o → o.isCells = true → W'.heap[k]? = some o) → LeavesIn Fence.wide 5 P fn tmps R [] .returning W') → LeavesInM Fence.wide 5 P fn tmps R (Ds.map mark) .returning W
  | [], W, _, _, h => h W (Fr.refl _ _) (fun _ _ h _ => h)
  | D :: Ds, W, hd, hK, h => by
    obtain ⟨hnd, hd'⟩ := List.nodup_cons.1 hd
    have hKD := hK D (by simp)
    have hf : Fr (fun k => k = D) W (W.putObj D (.deferred none)) := put_fr _
    refine ⟨by simp, .inl ⟨D, _, rfl, run_takeDeferred hKD, leaves_marks Ds _ hd' (fun D' hD' => ?_) fun W' hf' hc' => h W' ?_ ?_⟩⟩
    · exact (World.putObj_heap_other (fun e => hnd (by subst e; exact hD'))).trans (hK D' (by simp [hD']))
    · exact (hf.mono fun k _ e => by rw [e]; simp).trans hf' fun k _ h => by simp [h]
    · intro k o hk ho
      have hkD : k ≠ D := fun e => by
        rw [e, hKD] at hk; injection hk with hk; subst hk; simp [Obj.isCells] at ho
      exact hc' k o ((World.putObj_heap_other hkD).trans hk) ho
end Go.Proofs.Ythdapoipfnnaeaa.MxW
