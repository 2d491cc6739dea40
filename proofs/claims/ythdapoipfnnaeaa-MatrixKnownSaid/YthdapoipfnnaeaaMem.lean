/- A slice's cells, said once for nil, empty and other slices; that they stay while nothing below a block's number turns. -/
import Derived.Below
import Derived.Laws.OwnMore
import Derived.Deep.Draws
import Derived.Laws.World
import Derived.OwnWalk
namespace Go.Proofs.Ythdapoipfnnaeaa.Mem
open Go.RowKit

/-- One call more; one new block more; draws. -/
theorem next {a w w' : World} (h : Below a.heap.size a w) (k : Below w.heap.size w w') : Below a.heap.size a w' := h.trans (k.mono h.size)
theorem nextA {a w : World} (h : Below a.heap.size a w) (o : Obj) : Below a.heap.size a (w.alloc o) := h.alloc h.size o
theorem nextN {a w : World} (h : Below a.heap.size a w) (n : Nat) : Below a.heap.size a (w.drewN n) := h.trans ⟨rfl, rfl, rfl, Nat.le_refl _, fun _ _ => rfl⟩
theorem start (a : World) : Below a.heap.size a a := Below.refl _ _

/-- The slice that begins at A has the values xs, a cell each, in a block below B. -/
def Cells (w : World) (B : Nat) (A : Option Addr) (xs : List Value) : Prop :=
  0 < xs.length → ∃ b off, A = some ⟨b, off, none⟩ ∧ b < B ∧ ∀ (j : Nat) (v : Value), xs[j]? = some v → w.cell? ⟨b, off + j, none⟩ = some v
def u8v (c : UInt8) : Value := .int .u8 (c.toNat : Int)
/-- The slice that begins at A has the bytes l. -/
def Bytes (w : World) (B : Nat) (A : Option Addr) (l : List UInt8) : Prop := Cells w B A (l.map u8v)

theorem Cells.up {w : World} {B B' : Nat} {A : Option Addr} {xs : List Value} (h : Cells w B A xs) (hB : B ≤ B') : Cells w B' A xs := fun hl => by
  obtain ⟨b, off, e, hb, hc⟩ := h hl
  exact ⟨b, off, e, by omega, hc⟩
theorem Cells.keep {w w' : World} {B : Nat} {A : Option Addr} {xs : List Value} (h : Cells w B A xs) (hk : ∀ p : Addr, p.block < B → w'.cell? p = w.cell? p) : Cells w' B A xs := fun hl => by
  obtain ⟨b, off, e, hb, hc⟩ := h hl
  exact ⟨b, off, e, hb, fun j v hv => (hk _ hb).trans (hc j v hv)⟩
theorem Cells.below {w w' : World} {B : Nat} {A : Option Addr} {xs : List Value} (h : Cells w B A xs) (hb : Below B w w') : Cells w' B A xs := h.keep fun _ hp => hb.cell hp
theorem Cells.nil {w : World} {B : Nat} {A : Option Addr} : Cells w B A [] := fun h => absurd h (by simp)
theorem Cells.at_ {w : World} {B : Nat} {A : Option Addr} {xs : List Value} (h : Cells w B A xs) {k : Nat} (hk : k < xs.length) :
    ∃ b off, A = some ⟨b, off, none⟩ ∧ b < B ∧ w.cell? ⟨b, off + k, none⟩ = some xs[k] := by
  obtain ⟨b, off, e, hb, hc⟩ := h (by omega)
  exact ⟨b, off, e, hb, hc k _ (List.getElem?_eq_getElem hk)⟩

theorem Cells.take {w : World} {B : Nat} {A : Option Addr} {xs : List Value} (h : Cells w B A xs) (n : Nat) : Cells w B A (xs.take n) := fun hl => by
  obtain ⟨b, off, e, hb, hc⟩ := h (by simp at hl; omega)
  refine ⟨b, off, e, hb, fun j v hv => hc j v ?_⟩
  rw [List.getElem?_take] at hv
  split at hv
  · exact hv
  · cases hv
theorem Cells.drop {w : World} {B b off : Nat} {xs : List Value} (h : Cells w B (some ⟨b, off, none⟩) xs) (n : Nat) : Cells w B (some ⟨b, off + n, none⟩) (xs.drop n) := fun hl => by
  obtain ⟨b', off', e, hb, hc⟩ := h (by simp at hl; omega)
  injection e with e; injection e with e1 e2; subst e1; subst e2
  refine ⟨b, off + n, rfl, hb, fun j v hv => ?_⟩
  rw [List.getElem?_drop] at hv
  rw [Nat.add_assoc]; exact hc _ v hv
theorem Bytes.take {w : World} {B : Nat} {A : Option Addr} {l : List UInt8} (h : Bytes w B A l) (n : Nat) : Bytes w B A (l.take n) := by
  unfold Bytes; rw [List.map_take]; exact Cells.take h n
theorem Bytes.drop {w : World} {B b off : Nat} {l : List UInt8} (h : Bytes w B (some ⟨b, off, none⟩) l) (n : Nat) : Bytes w B (some ⟨b, off + n, none⟩) (l.drop n) := by
  unfold Bytes; rw [List.map_drop]; exact Cells.drop h n
/-- A slice expression of a row, as the model writes its address. -/
theorem Bytes.cut {w : World} {B g : Nat} {A : Option Addr} {l : List UInt8} (h : Bytes w B A l) (hA : ∀ a, A = some a → a = ⟨g, 0, none⟩) (k n : Nat) : Bytes w B (if k + n = k then A else A.map (·.add k)) ((l.drop k).take n) := by
  by_cases hn : n = 0
  · subst hn; rw [List.take_zero]; exact Cells.nil
  · rw [if_neg (by omega)]
    cases A with
    | none =>
      have : l = [] := by
        rcases l with _ | ⟨x, r⟩
        · rfl
        · obtain ⟨b, off, h, _⟩ := h (by simp)
          cases h
      subst this; simp; exact Cells.nil
    | some a =>
      obtain rfl := hA a rfl
      have h2 := (h.drop k).take n
      rw [Nat.zero_add] at h2
      have e : Option.map (fun x : Addr => x.add k) (some (⟨g, 0, none⟩ : Addr)) = some ⟨g, k, none⟩ := by
        simp only [Option.map_some, Addr.add]
        split
        · rename_i h0; subst h0; rfl
        · rw [Nat.zero_add]
      rw [e]; exact h2
theorem Bytes.up {w : World} {B B' : Nat} {A : Option Addr} {l : List UInt8} (h : Bytes w B A l) (hB : B ≤ B') : Bytes w B' A l := Cells.up h hB
theorem Bytes.below {w w' : World} {B : Nat} {A : Option Addr} {l : List UInt8} (h : Bytes w B A l) (hb : Below B w w') : Bytes w' B A l := Cells.below h hb
theorem Bytes.nil {w : World} {B : Nat} {A : Option Addr} : Bytes w B A [] := Cells.nil
theorem Bytes.at_ {w : World} {B : Nat} {A : Option Addr} {l : List UInt8} (h : Bytes w B A l) {k : Nat} (hk : k < l.length) :
    ∃ b off, A = some ⟨b, off, none⟩ ∧ b < B ∧ w.cell? ⟨b, off + k, none⟩ = some (.int .u8 (l[k].toNat : Int)) := by
  obtain ⟨b, off, e, hb, hc⟩ := Cells.at_ h (k := k) (by simpa using hk)
  exact ⟨b, off, e, hb, by simpa [u8v] using hc⟩
theorem new_heap (w : World) (o : Obj) : (w.alloc o).heap[w.heap.size]? = some o := by
  show (w.heap.push o)[w.heap.size]? = _
  simp
theorem new_cell (w : World) (cs : Array Value) (T : TypeId) (fz : Nat × Nat) (j : Nat) : (w.alloc (.cells cs T fz)).cell? ⟨w.heap.size, j, none⟩ = cs[j]? := by
  unfold World.cell?
  rw [new_heap]; rfl
/-- The bytes of a new block. -/
theorem Bytes.new (w : World) (l : List UInt8) (T : TypeId) (fz : Nat × Nat) (cs : Array Value) (h : cs.toList = l.map u8v) (B : Nat) (hB : w.heap.size < B) : Bytes (w.alloc (.cells cs T fz)) B (some ⟨w.heap.size, 0, none⟩) l := fun _ =>
  ⟨w.heap.size, 0, rfl, hB, fun j v hv => by rw [new_cell, ← hv, ← h, Nat.zero_add, Array.getElem?_toList]⟩
theorem cells_one (w : World) (v : Value) (T : TypeId) (B : Nat) (hB : w.heap.size < B) : Cells (w.alloc (.cells #[v] T)) B (some ⟨w.heap.size, 0, none⟩) [v] := fun _ =>
  ⟨w.heap.size, 0, rfl, hB, fun j u hu => by
    rw [new_cell, ← hu, Nat.zero_add, ← Array.getElem?_toList]⟩
/-- A store into the newest block, behind draws. -/
theorem setCell_new (w : World) (cs : Array Value) (T : TypeId) (n k : Nat) (v : Value) :
    ((w.alloc (.cells cs T)).drewN n).setCell ⟨w.heap.size, k, none⟩ v = (w.alloc (.cells (cs.setIfInBounds k v) T)).drewN n := by
  have hh : (w.heap.push (Obj.cells cs T)).modify w.heap.size (fun
      | .cells c elem frozen => .cells (if (none : Option Nat).isSome then c else c.setIfInBounds k v) elem frozen
      | o => o) = w.heap.push (Obj.cells (cs.setIfInBounds k v) T) := by
    apply Array.ext_getElem?
    intro i
    rw [Array.getElem?_modify, Array.getElem?_push, Array.getElem?_push]
    by_cases h : w.heap.size = i
    · subst h; simp
    · have h' : ¬ i = w.heap.size := fun e => h e.symm
      rw [if_neg h, if_neg h', if_neg h']
  show ({ w with heap := (w.heap.push (Obj.cells cs T)).modify w.heap.size _, drawn := w.drawn + n } : World) = { w with heap := w.heap.push (Obj.cells (cs.setIfInBounds k v) T), drawn := w.drawn + n }
  exact congrArg (fun h => ({ w with heap := h, drawn := w.drawn + n } : World)) hh
end Go.Proofs.Ythdapoipfnnaeaa.Mem
