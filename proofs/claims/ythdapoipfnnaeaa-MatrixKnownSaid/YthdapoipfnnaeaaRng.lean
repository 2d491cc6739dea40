/- A range over a function value, at no fence: what a round may turn; what abides the loop's own book-keeping. -/
import Derived.RangeFuncNested
import Derived.RangeFuncWrites
import Derived.RangeFuncBound
import Derived.RangeFuncCalls
import Derived.RangeFuncLeaves
import Derived.Shelf.Abstract
import Derived.Test.YthdapoipfnnaeaaFr
namespace Go.Proofs.Ythdapoipfnnaeaa.Rng
open Go.RowKit Go.Shelf Mem

/-- What a round may turn: the blocks of T, and those from N1 on. -/
def Kp (T : Nat → Prop) (N1 : Nat) (W W' : World) : Prop := Fr (fun k => T k ∨ N1 ≤ k) W W'
/-- Nothing turned but blocks from B on that hold no cells. -/
def Still (B : Nat) (W W' : World) : Prop := Fr (fun k => B ≤ k ∧ ∃ o, W.heap[k]? = some o ∧ o.isCells = false) W W'
section
variable {B : Nat} {W W' : World}
theorem Still.of_grown {row : Option Nat} (hg : W.grownBy W' row) (hr : ∀ r, row = some r → B ≤ r ∧ ∃ o : Obj, W.heap[r]? = some o ∧ o.isCells = false) : Still B W W' := Fr.grown hg hr
theorem Still.block (h : Still B W W') {k : Nat} {cs : Array Value} {T : TypeId} {fz : Nat × Nat} (hk : W.heap[k]? = some (.cells cs T fz)) : W'.heap[k]? = some (.cells cs T fz) :=
  (Fr.block h k (Array.getElem?_eq_some_iff.1 hk).1 (fun ⟨_, o, ho, hc⟩ => by rw [hk] at ho; injection ho with ho; subst ho; simp [Obj.isCells] at hc)).trans hk
theorem Still.cell (h : Still B W W') {a : Addr} {v : Value} (hc : W.cell? a = some v) : W'.cell? a = some v := by
  obtain ⟨o, ho, hcs⟩ := cells_of_cell hc
  refine (World.cell?_of_block (Fr.block h a.block (Array.getElem?_eq_some_iff.1 ho).1 fun ⟨_, o', ho', hc'⟩ => ?_)).trans hc
  rw [ho] at ho'; injection ho' with ho'; subst ho'; rw [hcs] at hc'; cases hc'
theorem Still.frozen (h : Still B W W') {a : Addr} {v : Value} (hc : W.cell? a = some v) : W'.frozen? a = W.frozen? a := by
  obtain ⟨o, ho, hcs⟩ := cells_of_cell hc
  refine World.frozen?_of_block (Fr.block h a.block (Array.getElem?_eq_some_iff.1 ho).1 fun ⟨_, o', ho', hc'⟩ => ?_)
  rw [ho] at ho'; injection ho' with ho'; subst ho'; rw [hcs] at hc'; cases hc'
theorem Still.blk (h : Still B W W') {g : Nat} {T : TypeId} {cs : Array Value} (hb : Blk W g T cs) : Blk W' g T cs := h.block hb
theorem Still.cells (h : Still B W W') {n : Nat} {A : Option Addr} {xs : List Value} (hc : Cells W n A xs) : Cells W' n A xs := fun hl => by
  obtain ⟨b, off, e, hb, hcs⟩ := hc hl
  exact ⟨b, off, e, hb, fun j v hv => h.cell (hcs j v hv)⟩
theorem Still.own (h : Still B W W') {base : Nat} {T : TypeId} {A : Option Addr} {c : Nat} {xs : List Value} (ho : Mem.Own W base T A c xs) : Mem.Own W' base T A c xs := by
  refine ⟨ho.1, ?_⟩
  rcases ho.2 with h2 | ⟨g, cap, cur, hv, hg, hh, r⟩
  · exact .inl h2
  · exact .inr ⟨g, cap, cur, hv, hg, h.block hh, r⟩
theorem Still.fr {S : Nat → Prop} {w : World} (h : Still B W W') (hf : Fr S w W) (hB : w.heap.size ≤ B) : Fr S w W' := hf.trans h fun i hi hs => absurd hs.1 (by omega)
theorem Still.size (h : Still B W W') : W.heap.size ≤ W'.heap.size := Fr.size h
end
theorem one {w : World} {g : Nat} {T : TypeId} {v : Value} (h : Blk w g T #[v]) : w.cell? ⟨g, 0, none⟩ = some v := by rw [h.cell]; rfl
theorem own_past {w : World} {base : Nat} {T : TypeId} {A : Option Addr} {c : Nat} {xs : List Value} (h : Mem.Own w base T A c xs) {p : Addr} (hp : p.block < base) (u : Value) : Mem.Own (w.setCell p u) base T A c xs :=
  h.set_far fun g hg e => by
    rcases h.form with ⟨h2, _⟩ | ⟨g2, h2, h3, _⟩
    · rw [hg] at h2; cases h2
    · rw [hg] at h2; injection h2 with h2; injection h2 with h2; omega
/-- I abides the loop's own book-keeping. -/
def Abd {β : Type} (B : Nat) (I : β → World → Prop) : Prop := ∀ s W W', Still B W W' → I s W → I s W'
theorem Abd.ownFrom {β : Type} {B : Nat} {I : β → World → Prop} (h : Abd B I) : OwnFrom B I := fun s W W' _ hs hg hr => h s W W' (Still.of_grown hg hr) hs
theorem abd_false {β : Type} {B : Nat} : Abd B (fun (_ : β) _ => False) := fun _ _ _ _ h => h.elim
theorem keepsFrom_of_fr {S : Nat → Prop} {B : Nat} {W W' : World} (h : Fr S W W') (hS : ∀ k, S k → k < W.heap.size → k < B) : KeepsFrom B W W' :=
  ⟨h.size, fun k o hB hk _ => (h.block k (Array.getElem?_eq_some_iff.1 hk).1 fun hs => absurd (hS k hs (Array.getElem?_eq_some_iff.1 hk).1) (by omega)).trans hk⟩

theorem wide_fn (f : FuncId) : Fence.wide.fn f = True := rfl
/-- A contract at no fence, at the wide fence, in a round; and back. -/
theorem of_wide {P : Program} {f : FuncId} {args : Array Value} {w : World} {R : Ending → World → Prop} (h : CallsIn Fence.wide 5 P f args w R) : Calls P f args w R := (callsIn_wide (n := 5)).1 h
theorem wide {n : Nat} {P : Program} {f : FuncId} {args : Array Value} {w : World} {R : Ending → World → Prop} (h : Calls P f args w R) : CallsIn Fence.wide n P f args w R := (callsIn_wide (n := n)).2 h
theorem wideR {n l : Nat} {P : Program} {f : FuncId} {args : Array Value} {w : World} {R : Ending → World → Prop} (h : Calls P f args w R) : CallsIn (Fence.wide.inRound l) n P f args w R := CallsIn.inRound l (wide h)

/-- A loop over an iterator that has its contract. -/
theorem wpIn_range {P : Program} {α : Type} {g : Operand} {ps : Array Tmp} {assign body : Code} {Q : Exit → Act → World → Prop} {a : Act} {w : World}
    {gf : Nat} {lb : Array Value} (hg : a.eval g = .func (.func gf) #[] lb) (eg : ∀ args w, (callFunc gf args).run P w = .ok (.enter gf args) w)
    {encs : α → Array Value} {T : Nat → Prop} {N1 : Nat} {S Sp : List α → Prop} {N : Nat} {w0 : World} (hseq : SeqStopsK Fence.wide 4 P gf lb encs (Kp T N1) S Sp N w0)
    (hN : N1 ≤ w.heap.size) (hb0 : Below w0.heap.size w0 w) (hps : ∀ x, (encs x).size = ps.size)
    (I : List α → World → Prop) (Ix : Code → List α → World → Prop) (hI : Abd w.heap.size I) (hIx : ∀ c, Abd w.heap.size (Ix c)) (h0 : I [] w) (a₁ : α → Act)
    (hassign : ∀ (l : Nat) (x : α) (W : World) (K : Act → World → Prop), K (a₁ x) W →
      assign.wpIn (Fence.wide.inRound l) 3 P (Exit.then K (fun _ _ _ => False)) { tmps := (ps.zip (encs x)).foldl (fun t (p, v) => t.setIfInBounds p v) a.tmps, defers := [] } W)
    (hbody : ∀ (l : Nat) (pre : List α) (x : α) (W : World), I pre W → pre.length < N → body.wpIn (Fence.wide.inRound l) 3 P (ownPostG w.heap.size (Kp T N1) I Ix (pre ++ [x]) W) (a₁ x) W)
    (hdone : ∀ (D : Nat) (xs : List α) (W : World), w.heap.size ≤ D → S xs → I xs W → W.heap[D]? = some (.deferred (some [])) → Q .normal { a with defers := { target := .collected D, args := #[] } :: a.defers } W)
    (hstop : ∀ (D : Nat) (c : Code) (pre : List α) (W : World), w.heap.size ≤ D → Sp pre → Ix c pre W → W.heap[D]? = some (.deferred (some [])) → c.wpIn Fence.wide 5 P Q { a with defers := { target := .collected D, args := #[] } :: a.defers } W) :
    (Code.rangeFunc g ps assign body).wpIn Fence.wide 5 P Q a w :=
  wpIn_rangeFunc_ownG (n := 5) rfl (by omega) hg trivial eg hseq (fun h k => Fr.trans h k fun _ _ h => h)
    (fun W l o o' hl ho _ _ => Fr.grown (grownBy_putObj' W l o') fun k hk => by injection hk with hk; subst hk; exact .inr (by omega))
    hb0 hps I Ix hI.ownFrom (fun c => (hIx c).ownFrom) h0 a₁ hassign hbody hdone hstop

/-- The block for the rounds' deferred calls is shut at the end: it was a new one. -/
theorem shut_fr {S : Nat → Prop} {w W : World} {D : Nat} (hf : Fr S w W) (hD : w.heap.size ≤ D) (o : Obj) : Fr S w (W.putObj D o) :=
  hf.trans (Fr.grown (S := fun k => k = D) (grownBy_putObj' W D o) fun k hk => by injection hk with hk; exact hk.symm) fun i hi h => by omega
theorem shut_still {W : World} {D : Nat} {o : Obj} {B : Nat} (o' : Obj) (hD : W.heap[D]? = some o) (ho : o.isCells = false) (hB : B ≤ D) : Still B W (W.putObj D o') :=
  Fr.grown (grownBy_putObj' W D o') fun k hk => by injection hk with hk; subst hk; exact ⟨hB, o, hD, ho⟩
end Go.Proofs.Ythdapoipfnnaeaa.Rng
