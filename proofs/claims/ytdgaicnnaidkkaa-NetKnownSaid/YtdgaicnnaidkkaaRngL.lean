/- A range over a function value whose rounds are told what holds of each element in the world of its round. -/
import Derived.Test.YtdgaicnnaidkkaaRng
namespace Go.Proofs.Ytdgaicnnaidkkaa.Rng
open Go.RowKit Go.Shelf Mem

/-- An iterator's contract: each element that is handed over has LX in the world of its round; RX: what the caller's rounds keep for the iterator. -/
def SeqL {α : Type} (P : Program) (gf : Nat) (lb : Array Value) (encs : α → Array Value) (RX : World → Prop) (LX : List α → α → World → Prop) (T : Nat → Prop) (N1 : Nat) (S Sp : List α → Prop) (w0 : World) : Prop :=
  ∀ (l : Nat) (J Jx : List α → World → Prop) (W : World), Below w0.heap.size w0 W → (∀ pre W1, J pre W1 → RX W1) →
    (∀ pre x W1, J pre W1 → LX pre x W1 → YieldAt Fence.wide 3 P l (encs x) W1 fun e W' =>
      (e = .returned (.bool true) ∧ J (pre ++ [x]) W' ∧ Kp T N1 W1 W') ∨ (e = .returned (.bool false) ∧ Jx (pre ++ [x]) W')) →
    J [] W →
    CallsIn Fence.wide 4 P gf (#[.func (.yield l) #[] #[]] ++ lb) W fun e W' => (∃ v, e = .returned v) ∧ ((∃ xs, S xs ∧ J xs W') ∨ (∃ pre, Sp pre ∧ Jx pre W'))

theorem put_still {B k : Nat} {W : World} {o : Obj} (o' : Obj) (h : W.heap[k]? = some o) (ho : o.isCells = false) (hB : B ≤ k) : Still B W (W.putObj k o') := shut_still o' h ho hB
theorem put_kp {T : Nat → Prop} {N1 k : Nat} {W : World} (o' : Obj) (hB : N1 ≤ k) : Kp T N1 W (W.putObj k o') :=
  Fr.grown (grownBy_putObj' W k o') fun i hi => by injection hi with hi; exact .inr (by omega)

theorem wpIn_rangeL {P : Program} {α : Type} {g : Operand} {ps : Array Tmp} {assign body : Code} {Q : Exit → Act → World → Prop} {a : Act} {w : World}
    {gf : Nat} {lb : Array Value} (hg : a.eval g = .func (.func gf) #[] lb) (eg : ∀ args w, (callFunc gf args).run P w = .ok (.enter gf args) w)
    {encs : α → Array Value} {RX : World → Prop} {LX : List α → α → World → Prop} {T : Nat → Prop} {N1 : Nat} {S Sp : List α → Prop} {w0 : World} (hseq : SeqL P gf lb encs RX LX T N1 S Sp w0)
    (hN : N1 ≤ w.heap.size) (hb0 : Below w0.heap.size w0 w) (hps : ∀ x, (encs x).size = ps.size)
    (I : List α → World → Prop) (Ix : Code → List α → World → Prop) (hRX : ∀ pre W, I pre W → RX W) (hI : Abd w.heap.size I) (hIx : ∀ c, Abd w.heap.size (Ix c)) (hLX : ∀ pre x W W', Still w.heap.size W W' → LX pre x W → LX pre x W') (h0 : I [] w)
    (hround : ∀ (l : Nat) (pre : List α) (x : α) (W : World), I pre W → LX pre x W → assign.wpIn (Fence.wide.inRound l) 3 P (Exit.then (fun a₁ W₁ => W₁ = W ∧ ∀ W2, I pre W2 → LX pre x W2 → body.wpIn (Fence.wide.inRound l) 3 P (ownPostG w.heap.size (Kp T N1) I Ix (pre ++ [x]) W2) a₁ W2) (fun _ _ _ => False))
      { tmps := (ps.zip (encs x)).foldl (fun t (p, v) => t.setIfInBounds p v) a.tmps, defers := [] } W)
    (hdone : ∀ (D : Nat) (xs : List α) (W : World), w.heap.size ≤ D → S xs → I xs W → W.heap[D]? = some (.deferred (some [])) → Q .normal { a with defers := { target := .collected D, args := #[] } :: a.defers } W)
    (hstop : ∀ (D : Nat) (c : Code) (pre : List α) (W : World), w.heap.size ≤ D → Sp pre → Ix c pre W → W.heap[D]? = some (.deferred (some [])) → c.wpIn Fence.wide 5 P Q { a with defers := { target := .collected D, args := #[] } :: a.defers } W) :
    (Code.rangeFunc g ps assign body).wpIn Fence.wide 5 P Q a w := by
  refine wpIn_rangeFunc fun fn hfn => ?_
  obtain ⟨D, hD⟩ : ∃ D, D = w.heap.size := ⟨_, rfl⟩
  obtain ⟨rec, hrec⟩ : ∃ rec : LoopState → Option Code → Loop, rec = fun st pe => { state := st, pending := pe, fn, tmps := a.tmps, params := ps, assign, body, defers := D } := ⟨_, rfl⟩
  obtain ⟨W1, hW1⟩ : ∃ W1, W1 = (w.alloc (.deferred (some []))).alloc (.loop (rec .ready none)) := ⟨_, rfl⟩
  have hL1 : W1.heap[D + 1]? = some (.loop (rec .ready none)) := by
    rw [hW1, hD]; have := World.alloc_heap_new (w.alloc (.deferred (some []))) (.loop (rec .ready none)); rwa [World.size_alloc] at this
  have hK1 : W1.heap[D]? = some (.deferred (some [])) := by
    rw [hW1, hD]; exact (Below.heap_alloc _ _ _ (by simp)).trans (World.alloc_heap_new w _)
  have hB1 : Below w.heap.size w W1 := by rw [hW1]; exact ((Below.refl _ w).alloc (Nat.le_refl _) _).alloc (by simp) _
  have hI1 : I [] W1 := hI [] w W1 (Fr.quiet hB1) h0
  let Bk (st : LoopState) (pe : Option Code) (W : World) : Prop := W.heap[D + 1]? = some (.loop (rec st pe)) ∧ W.heap[D]? = some (.deferred (some []))
  have hput : ∀ {st st' : LoopState} {pe pe' : Option Code} {W : World}, Bk st pe W → Bk st' pe' (W.putObj (D + 1) (.loop (rec st' pe'))) := fun h =>
    ⟨World.putObj_heap_same (Array.getElem?_eq_some_iff.1 h.1).1, (World.putObj_heap_other (by omega)).trans h.2⟩
  refine ⟨D + 1, [{ target := .collected D, args := #[] }], W1, { target := .fn (.func gf) lb, args := #[.func (.yield (D + 1)) #[] #[]] }, W1, gf, #[.func (.yield (D + 1)) #[] #[]] ++ lb, W1, ?_, ?_, fun _ _ => trivial, ?_, fun h => by simp [Fence.wide] at h, ?_⟩
  · rw [hW1, hrec, hD]; exact run_enterLoop_outer _ _ _ _ _
  · simp only [resolve, hg]
    simp [go_sem]
  · simp [invoke, go_sem, eg]
  refine (hseq (D + 1) (fun pre W => I pre W ∧ Bk .ready none W) (fun pre W => ∃ c, Ix c pre W ∧ Bk .done (some c) W) W1 (hb0.trans (hB1.mono hb0.size)) (fun pre W h => hRX pre W h.1) ?_ ⟨hI1, hL1, hK1⟩).mono ?_
  · -- a round
    rintro pre x W ⟨hi, hbk⟩ hx
    have hy := run_yield (P := P) (args := encs x) hbk.1 (by rw [hrec]; exact hps x)
    rw [hrec] at hy
    refine ⟨fn, _, assign, body, hy, roundIn_of_wpIn hfn (wpIn_mono (hround _ pre x W hi hx) ?_)⟩
    rintro e1 a1 W0 he1
    cases e1 with
    | ret => exact he1.elim
    | exit id => exact he1.elim
    | goto t => exact he1.elim
    | panic ch => exact he1.elim
    | outgrown => exact he1.elim
    | normal =>
    obtain ⟨rfl, hb⟩ : W0 = W ∧ _ := he1
    refine ⟨_, run_beginRound hbk.1 (by rw [hrec]), ?_⟩
    have e1 : ({ rec .ready none with state := .busy } : Loop) = rec .busy none := by rw [hrec]
    rw [e1]
    have hbz := hput (st' := .busy) (pe' := none) hbk
    have hst := put_still (B := w.heap.size) (.loop (rec .busy none)) hbk.1 rfl (by omega)
    have hkp := put_kp (T := T) (W := W0) (.loop (rec .busy none)) (show N1 ≤ D + 1 by omega)
    refine wpIn_mono (hb _ (hI _ _ _ hst hi) (hLX _ _ _ _ hst hx)) ?_
    have fin : ∀ (jump : Option Code) (st : LoopState) (W3 : World), st = (if jump.isNone then .ready else .done) → KeepsFrom w.heap.size (W0.putObj (D + 1) (.loop (rec .busy none))) W3 →
        (Instr.endRound (D + 1) jump).run P W3 = .ok (.bool jump.isNone) (W3.putObj (D + 1) (.loop (rec st jump))) ∧ Bk st jump (W3.putObj (D + 1) (.loop (rec st jump))) ∧ Still w.heap.size W3 (W3.putObj (D + 1) (.loop (rec st jump))) := by
      intro jump st W3 hst' hk3
      have h3 : Bk .busy none W3 := ⟨hk3.same _ _ (by omega) hbz.1 rfl, hk3.same _ _ (by omega) hbz.2 rfl⟩
      have hr := run_endRound (P := P) jump h3.1
      have e2 : ({ rec .busy none with state := if jump.isNone then .ready else .done, pending := jump } : Loop) = rec st jump := by rw [hrec, hst']
      rw [e2] at hr
      exact ⟨hr, hput h3, put_still _ h3.1 rfl (by omega)⟩
    intro e a3 W3 hp
    cases e with
    | normal =>
      obtain ⟨hk3, hkp3, hi3⟩ := hp
      obtain ⟨hr, hb3, hs3⟩ := fin none .ready W3 rfl hk3
      exact ⟨_, _, hr, .inl ⟨rfl, ⟨hI _ _ _ hs3 hi3, hb3⟩, Fr.trans (Fr.trans hkp hkp3 fun _ _ h => h) (put_kp _ (by omega)) fun _ _ h => h⟩⟩
    | ret =>
      obtain ⟨hk3, hi3⟩ := hp
      obtain ⟨hr, hb3, hs3⟩ := fin (some .ret) .done W3 rfl hk3
      exact ⟨_, _, hr, .inr ⟨rfl, _, hIx _ _ _ _ hs3 hi3, hb3⟩⟩
    | exit id =>
      obtain ⟨hk3, hi3⟩ := hp
      obtain ⟨hr, hb3, hs3⟩ := fin (some (.exit id)) .done W3 rfl hk3
      exact ⟨_, _, hr, .inr ⟨rfl, _, hIx _ _ _ _ hs3 hi3, hb3⟩⟩
    | goto t =>
      obtain ⟨hk3, hi3⟩ := hp
      obtain ⟨hr, hb3, hs3⟩ := fin (some (.goto t)) .done W3 rfl hk3
      exact ⟨_, _, hr, .inr ⟨rfl, _, hIx _ _ _ _ hs3 hi3, hb3⟩⟩
    | panic ch => exact hp.elim
    | outgrown => exact hp.elim
  · -- behind the iterator
    rintro e W2 ⟨⟨v, rfl⟩, (⟨xs, hS, hi, hbk⟩ | ⟨pre, hSp, c, hi, hbk⟩)⟩
    · have hr := run_endLoop (P := P) hbk.1 (by rw [hrec]; simp)
      rw [show (rec .ready none).pending = none by rw [hrec]] at hr
      exact ⟨none, _, hr, hdone D xs _ (by omega) hS (hI _ _ _ (put_still _ hbk.1 rfl (by omega)) hi) ((World.putObj_heap_other (by omega)).trans hbk.2)⟩
    · have hr := run_endLoop (P := P) hbk.1 (by rw [hrec]; simp)
      rw [show (rec .done (some c)).pending = some c by rw [hrec]] at hr
      exact ⟨some c, _, hr, hstop D c pre _ (by omega) hSp (hIx _ _ _ _ (put_still _ hbk.1 rfl (by omega)) hi) ((World.putObj_heap_other (by omega)).trans hbk.2)⟩
end Go.Proofs.Ytdgaicnnaidkkaa.Rng
