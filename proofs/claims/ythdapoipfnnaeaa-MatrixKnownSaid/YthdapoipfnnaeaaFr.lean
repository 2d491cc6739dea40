/- What a call may turn: the blocks of a set, and new ones; nothing else. -/
import Derived.Test.YthdapoipfnnaeaaOwn
namespace Go.Proofs.Ythdapoipfnnaeaa.Mem
open Go.RowKit

/-- Of the blocks that were there only those of S may have turned. -/
structure Fr (S : Nat → Prop) (w w' : World) : Prop where
  os : w'.os = w.os
  tape : w'.tape = w.tape
  output : w'.output = w.output
  size : w.heap.size ≤ w'.heap.size
  block : ∀ k, k < w.heap.size → ¬ S k → w'.heap[k]? = w.heap[k]?

section
variable {S S' : Nat → Prop} {w w' w'' : World}
theorem Fr.refl (S : Nat → Prop) (w : World) : Fr S w w := ⟨rfl, rfl, rfl, Nat.le_refl _, fun _ _ _ => rfl⟩
theorem Fr.mono (h : Fr S w w') (hS : ∀ k, k < w.heap.size → S k → S' k) : Fr S' w w' := ⟨h.os, h.tape, h.output, h.size, fun k hk hn => h.block k hk fun hs => hn (hS k hk hs)⟩
/-- Two steps; the second may turn what is new besides. -/
theorem Fr.trans (h : Fr S w w') (k : Fr S' w' w'') (hS : ∀ i, i < w.heap.size → S' i → S i) : Fr S w w'' :=
  ⟨k.os.trans h.os, k.tape.trans h.tape, k.output.trans h.output, Nat.le_trans h.size k.size, fun i hi hn => (k.block i (Nat.lt_of_lt_of_le hi h.size) fun hs => hn (hS i hi hs)).trans (h.block i hi hn)⟩
theorem Fr.of_below {B : Nat} (h : Below B w w') : Fr (fun k => B ≤ k) w w' := ⟨h.os, h.tape, h.output, h.size, fun k _ hn => h.block k (Nat.lt_of_not_le hn)⟩
theorem Fr.quiet (h : Below w.heap.size w w') : Fr S w w' := ⟨h.os, h.tape, h.output, h.size, fun k hk _ => h.block k hk⟩
theorem Fr.below {B : Nat} (h : Fr S w w') (hB : B ≤ w.heap.size) (hS : ∀ k, S k → B ≤ k) : Below B w w' := ⟨h.os, h.tape, h.output, h.size, fun k hk => h.block k (Nat.lt_of_lt_of_le hk hB) fun hs => absurd (hS k hs) (by omega)⟩
theorem Fr.alloc (h : Fr S w w') (o : Obj) : Fr S w (w'.alloc o) := h.trans (Fr.quiet (nextA (start w') o) : Fr S w' _) fun _ _ hs => hs
theorem Fr.drewN (h : Fr S w w') (n : Nat) : Fr S w (w'.drewN n) := ⟨h.os, h.tape, h.output, h.size, h.block⟩
theorem Fr.drew (h : Fr S w w') : Fr S w w'.drew := ⟨h.os, h.tape, h.output, h.size, h.block⟩
theorem Fr.setCell (h : Fr S w w') {p : Addr} (hp : p.block < w.heap.size → S p.block) (u : Value) : Fr S w (w'.setCell p u) :=
  ⟨h.os, h.tape, h.output, by simpa [World.setCell] using h.size, fun k hk hn => (Below.heap_setCell w' p u k (fun e => by subst e; exact hn (hp hk))).trans (h.block k hk hn)⟩
theorem Fr.grown {row : Option Nat} (hg : w.grownBy w' row) (hS : ∀ k, row = some k → S k) : Fr S w w' := ⟨hg.os, hg.tape, hg.output, hg.size, fun k hk hn => hg.block k hk fun e => hn (hS k e.symm)⟩
end

section
variable {S : Nat → Prop} {w w' : World} {base : Nat} {T : TypeId} {A : Option Addr} {c : Nat} {xs : List Value}
theorem Own.fr (h : Own w base T A c xs) (hf : Fr S w w') (hA : ∀ g, A = some ⟨g, 0, none⟩ → ¬ S g) : Own w' base T A c xs := by
  refine ⟨h.1, ?_⟩
  rcases h.2 with h2 | ⟨g, cap, cur, hv, hg, hh, r⟩
  · exact .inl h2
  · refine .inr ⟨g, cap, cur, hv, hg, ?_, r⟩
    injection hv with h1 _ _
    exact (hf.block g (Array.getElem?_eq_some_iff.1 hh).1 (hA g h1)).trans hh
theorem Row.fr (h : Row w base A xs) (hf : Fr S w w') (hA : ∀ g, A = some ⟨g, 0, none⟩ → ¬ S g) : Row w' base A xs := fun hl => by
  obtain ⟨g, cur, T, fz, e, hg, hh, r⟩ := h hl
  exact ⟨g, cur, T, fz, e, hg, (hf.block g (Array.getElem?_eq_some_iff.1 hh).1 (hA g e)).trans hh, r⟩
theorem Cells.fr {B : Nat} (h : Cells w B A xs) (hB : B ≤ w.heap.size) (hf : Fr S w w') (hS : ∀ k, k < B → ¬ S k) : Cells w' B A xs := fun hl => by
  obtain ⟨b, off, e, hb, hc⟩ := h hl
  exact ⟨b, off, e, hb, fun j v hv => (World.cell?_of_block (hf.block b (by omega) (hS b hb))).trans (hc j v hv)⟩
theorem Bytes.fr {B : Nat} {l : List UInt8} (h : Bytes w B A l) (hB : B ≤ w.heap.size) (hf : Fr S w w') (hS : ∀ k, k < B → ¬ S k) : Bytes w' B A l := Cells.fr h hB hf hS

/-- A block that is known whole. -/
def Blk (w : World) (g : Nat) (T : TypeId) (cs : Array Value) : Prop := w.heap[g]? = some (.cells cs T (0, 0))
variable {g : Nat} {cs : Array Value}
theorem Blk.lt (h : Blk w g T cs) : g < w.heap.size := (Array.getElem?_eq_some_iff.1 h).1
theorem Blk.cell (h : Blk w g T cs) (i : Nat) : w.cell? ⟨g, i, none⟩ = cs[i]? := by
  have h' : w.heap[g]? = some (.cells cs T (0, 0)) := h
  unfold World.cell?
  rw [h']; rfl
theorem Blk.frozen (h : Blk w g T cs) (i : Nat) : w.frozen? ⟨g, i, none⟩ = false := by
  have h' : w.heap[g]? = some (.cells cs T (0, 0)) := h
  unfold World.frozen?
  rw [h']; simp
theorem Blk.new (w : World) (T : TypeId) (cs : Array Value) : Blk (w.alloc (.cells cs T)) w.heap.size T cs := new_heap w _
theorem Blk.fr (h : Blk w g T cs) (hf : Fr S w w') (hg : ¬ S g) : Blk w' g T cs := (hf.block g h.lt hg).trans h
theorem Blk.keep (h : Blk w g T cs) (hb : Below w.heap.size w w') : Blk w' g T cs := (hb.block g h.lt).trans h
theorem Blk.alloc (h : Blk w g T cs) (o : Obj) : Blk (w.alloc o) g T cs := h.keep (nextA (start w) o)
theorem Blk.far (h : Blk w g T cs) {p : Addr} (hp : p.block ≠ g) (u : Value) : Blk (w.setCell p u) g T cs := (Below.heap_setCell w p u g (fun e => hp e.symm)).trans h
theorem Blk.set_ (h : Blk w g T cs) (i : Nat) (u : Value) : Blk (w.setCell ⟨g, i, none⟩ u) g T (cs.setIfInBounds i u) := by
  have h' : w.heap[g]? = some (.cells cs T (0, 0)) := h
  show (w.setCell ⟨g, i, none⟩ u).heap[g]? = _
  simp [World.setCell, Array.getElem?_modify, h']
theorem Blk.ne_own (h : Blk w g T cs) {base' : Nat} {T' : TypeId} {A' : Option Addr} {c' : Nat} {ys : List Value} (ho : Own w base' T' A' c' ys) (hT : T ≠ T') : ∀ g', A' = some ⟨g', 0, none⟩ → g' ≠ g := by
  intro g' e1 e2
  subst e2
  have h' : w.heap[g']? = some (.cells cs T (0, 0)) := h
  rcases ho.2 with ⟨hv, _⟩ | ⟨g2, cap, cur, hv, _, hh, _⟩
  · injection hv with hv; rw [e1] at hv; cases hv
  · injection hv with hv _ _
    rw [e1] at hv
    injection hv with hv; injection hv with hv
    subst hv
    rw [h'] at hh
    injection hh with hh; injection hh with _ hh
    exact hT hh
/-- What an append to another row leaves. -/
theorem Blk.app (h : Blk w g T cs) {base' : Nat} {T' : TypeId} {A' : Option Addr} {c' : Nat} {ys : List Value} (ho : Own w base' T' A' c' ys) (hT : T ≠ T') (hg : w.grownBy w' (A'.map (·.block))) : Blk w' g T cs := by
  refine (hg.block g h.lt ?_).trans h
  intro e
  rcases ho.form with ⟨rfl, _⟩ | ⟨g', rfl, _⟩
  · cases e
  · exact h.ne_own ho hT g' rfl (by injection e with e; exact e.symm)
end
end Go.Proofs.Ythdapoipfnnaeaa.Mem
