/- A range over a function value whose iterator turns cells of its own between the rounds. -/
import Derived.Test.YthdapoipfnnaeaaRng
namespace Go.Proofs.Ythdapoipfnnaeaa.Rng
open Go.RowKit Go.Shelf Mem

/-- How a round's body may be left: it turned the blocks of SB alone. -/
def postT {α : Type} (SB : Nat → Prop) (I : List α → World → Prop) (Ix : Code → List α → World → Prop) (xs : List α) (W : World) : Exit → Act → World → Prop
  | .normal, _, W' => Fr SB W W' ∧ I xs W'
  | .ret, _, W' => Fr SB W W' ∧ Ix .ret xs W'
  | .exit id, _, W' => Fr SB W W' ∧ Ix (.exit id) xs W'
  | .goto t, _, W' => Fr SB W W' ∧ Ix (.goto t) xs W'
  | .panic _, _, _ => False
  | .outgrown, _, _ => False
/-- What is asked of the iterator's call: J is the caller's invariant with the loop's two blocks (D, D + 1). -/
def CallT {α : Type} (P : Program) (gf : Nat) (lb : Array Value) (encs : α → Array Value) (I : List α → World → Prop) (Ix : Code → List α → World → Prop) (LX : List α → α → World → Prop) (SB : Nat → Prop) (D : Nat) (S Sp : List α → Prop) (w : World) : Prop :=
  ∀ (J Jx : List α → World → Prop) (W : World), W.heap.size = D + 2 → Below D w W →
    (∀ pre W1, J pre W1 → I pre W1) → (∀ pre W1, Jx pre W1 → ∃ c, Ix c pre W1) →
    (∀ pre W1 W2 (S' : Nat → Prop), J pre W1 → Fr S' W1 W2 → ¬ S' D → ¬ S' (D + 1) → I pre W2 → J pre W2) →
    (∀ pre W1 W2 (S' : Nat → Prop), Jx pre W1 → Fr S' W1 W2 → ¬ S' D → ¬ S' (D + 1) → (∀ c, Ix c pre W1 → Ix c pre W2) → Jx pre W2) →
    (∀ pre x W1, J pre W1 → LX pre x W1 → YieldAt Fence.wide 3 P (D + 1) (encs x) W1 fun e W' =>
      (e = .returned (.bool true) ∧ J (pre ++ [x]) W' ∧ Fr (fun k => SB k ∨ k = D + 1) W1 W') ∨ (e = .returned (.bool false) ∧ Jx (pre ++ [x]) W' ∧ Fr (fun k => SB k ∨ k = D + 1) W1 W')) →
    J [] W →
    CallsIn Fence.wide 4 P gf (#[.func (.yield (D + 1)) #[] #[]] ++ lb) W fun e W' => (∃ v, e = .returned v) ∧ ((∃ xs, S xs ∧ J xs W') ∨ (∃ pre, Sp pre ∧ Jx pre W'))

/-- A round, at no fence: wherever it stands. -/
theorem roundR {P : Program} {m m' l l' : Nat} {fn : FuncId} {tmps : Array Value} {assign body : Code} {W : World} {R : Ending → World → Prop} (h : RoundIn Fence.wide m P l fn tmps assign body W R) : RoundIn (Fence.wide.inRound l') m' P l fn tmps assign body W R :=
  ⟨trivial, fun c cs _ => h.2 c cs (room_wide _)⟩
theorem put_fr {k : Nat} {W : World} (o' : Obj) : Fr (fun i => i = k) W (W.putObj k o') := Fr.grown (grownBy_putObj' W k o') fun i hi => by injection hi with hi; exact hi.symm

theorem wpIn_rangeT {P : Program} {α : Type} {g : Operand} {ps : Array Tmp} {assign body : Code} {Q : Exit → Act → World → Prop} {a : Act} {w : World}
    {gf : Nat} {lb : Array Value} (hg : a.eval g = .func (.func gf) #[] lb) (eg : ∀ args w, (callFunc gf args).run P w = .ok (.enter gf args) w)
    {encs : α → Array Value} (hps : ∀ x, (encs x).size = ps.size)
    (I : List α → World → Prop) (Ix : Code → List α → World → Prop) (LX : List α → α → World → Prop) (SB : Nat → Prop) {S Sp : List α → Prop} (hSB : ¬ SB w.heap.size ∧ ¬ SB (w.heap.size + 1))
    (hcall : CallT P gf lb encs I Ix LX SB w.heap.size S Sp w)
    (hI : ∀ pre W W', I pre W → Fr (fun k => k = w.heap.size + 1) W W' → I pre W') (hIx : ∀ c pre W W', Ix c pre W → Fr (fun k => k = w.heap.size + 1) W W' → Ix c pre W') (hLX : ∀ pre x W W', LX pre x W → Fr (fun k => k = w.heap.size + 1) W W' → LX pre x W')
    (h0 : ∀ W, Below w.heap.size w W → W.heap.size = w.heap.size + 2 → I [] W)
    (hround : ∀ (l : Nat) (pre : List α) (x : α) (W : World), I pre W → LX pre x W → assign.wpIn (Fence.wide.inRound l) 3 P (Exit.then (fun a₁ W₁ => W₁ = W ∧ ∀ W2, I pre W2 → LX pre x W2 → body.wpIn (Fence.wide.inRound l) 3 P (postT SB I Ix (pre ++ [x]) W2) a₁ W2) (fun _ _ _ => False))
      { tmps := (ps.zip (encs x)).foldl (fun t (p, v) => t.setIfInBounds p v) a.tmps, defers := [] } W)
    (hdone : ∀ (D : Nat) (xs : List α) (W : World), D = w.heap.size → S xs → I xs W → W.heap[D]? = some (.deferred (some [])) → Q .normal { a with defers := { target := .collected D, args := #[] } :: a.defers } W)
    (hstop : ∀ (D : Nat) (c : Code) (pre : List α) (W : World), D = w.heap.size → Sp pre → Ix c pre W → W.heap[D]? = some (.deferred (some [])) → c.wpIn Fence.wide 5 P Q { a with defers := { target := .collected D, args := #[] } :: a.defers } W) :
    (Code.rangeFunc g ps assign body).wpIn Fence.wide 5 P Q a w := by
  refine wpIn_rangeFunc fun fn hfn => ?_
  obtain ⟨D, hD⟩ : ∃ D, D = w.heap.size := ⟨_, rfl⟩
  obtain ⟨rec, hrec⟩ : ∃ rec : LoopState → Option Code → Loop, rec = fun st pe => { state := st, pending := pe, fn, tmps := a.tmps, params := ps, assign, body, defers := D } := ⟨_, rfl⟩
  obtain ⟨W1, hW1⟩ : ∃ W1, W1 = (w.alloc (.deferred (some []))).alloc (.loop (rec .ready none)) := ⟨_, rfl⟩
  have hL1 : W1.heap[D + 1]? = some (.loop (rec .ready none)) := by
    rw [hW1, hD]; have := World.alloc_heap_new (w.alloc (.deferred (some []))) (.loop (rec .ready none)); rwa [World.size_alloc] at this
  have hK1 : W1.heap[D]? = some (.deferred (some [])) := by
    rw [hW1, hD]; exact (Below.heap_alloc _ _ _ (by simp)).trans (World.alloc_heap_new w _)
  have hB1 : Below w.heap.size w W1 := by rw [hW1]; exact ((Below.refl _ w).alloc (Nat.le_refl _) _).alloc (by simp) _
  have hs1 : W1.heap.size = D + 2 := by rw [hW1, hD]; simp
  let Bk (st : LoopState) (pe : Option Code) (W : World) : Prop := W.heap[D + 1]? = some (.loop (rec st pe)) ∧ W.heap[D]? = some (.deferred (some []))
  have hput : ∀ {st st' : LoopState} {pe pe' : Option Code} {W : World}, Bk st pe W → Bk st' pe' (W.putObj (D + 1) (.loop (rec st' pe'))) := fun h =>
    ⟨World.putObj_heap_same (Array.getElem?_eq_some_iff.1 h.1).1, (World.putObj_heap_other (by omega)).trans h.2⟩
  have hkeep : ∀ {st : LoopState} {pe : Option Code} {W W' : World} {S' : Nat → Prop}, Bk st pe W → Fr S' W W' → ¬ S' D → ¬ S' (D + 1) → Bk st pe W' := fun h hf h1 h2 =>
    ⟨(hf.block _ (Array.getElem?_eq_some_iff.1 h.1).1 h2).trans h.1, (hf.block _ (Array.getElem?_eq_some_iff.1 h.2).1 h1).trans h.2⟩
  rw [← hD] at hSB hcall hI hIx hLX
  refine ⟨D + 1, [{ target := .collected D, args := #[] }], W1, { target := .fn (.func gf) lb, args := #[.func (.yield (D + 1)) #[] #[]] }, W1, gf, #[.func (.yield (D + 1)) #[] #[]] ++ lb, W1, ?_, ?_, fun _ _ => trivial, ?_, fun h => by simp [Fence.wide] at h, ?_⟩
  · rw [hW1, hrec, hD]; exact run_enterLoop_outer _ _ _ _ _
  · simp only [resolve, hg]
    simp [go_sem]
  · simp [invoke, go_sem, eg]
  refine (hcall (fun pre W => I pre W ∧ Bk .ready none W) (fun pre W => ∃ c, Ix c pre W ∧ Bk .done (some c) W) W1 hs1 (by rw [hD]; exact hB1) (fun _ _ h => h.1) (fun _ _ ⟨c, h, _⟩ => ⟨c, h⟩)
    (fun pre Wa Wb S' h hf h1 h2 hi => ⟨hi, hkeep h.2 hf h1 h2⟩) (fun pre Wa Wb S' ⟨c, h, hb⟩ hf h1 h2 hi => ⟨c, hi c h, hkeep hb hf h1 h2⟩) ?_ ⟨h0 _ hB1 (by rw [hs1, hD]), hL1, hK1⟩).mono ?_
  · -- a round
    rintro pre x W ⟨hi, hbk⟩ hx
    have hy := run_yield (P := P) (args := encs x) hbk.1 (by rw [hrec]; exact hps x)
    rw [hrec] at hy
    refine ⟨fn, _, assign, body, hy, roundIn_of_wpIn hfn (wpIn_mono (hround _ pre x W hi hx) ?_)⟩
    rintro e1 a1 W0 he1
    cases e1 with
    | ret => exact he1.elim
    | exit id => exact he1.elim
    | goto t => exact he1.elim
    | panic ch => exact he1.elim
    | outgrown => exact he1.elim
    | normal =>
    obtain ⟨rfl, hb⟩ : W0 = W ∧ _ := he1
    refine ⟨_, run_beginRound hbk.1 (by rw [hrec]), ?_⟩
    have e1 : ({ rec .ready none with state := .busy } : Loop) = rec .busy none := by rw [hrec]
    rw [e1]
    have hbz := hput (st' := .busy) (pe' := none) hbk
    have hf0 := put_fr (W := W0) (k := D + 1) (.loop (rec .busy none))
    refine wpIn_mono (hb _ (hI _ _ _ hi hf0) (hLX _ _ _ _ hx hf0)) ?_
    have fin : ∀ (jump : Option Code) (st : LoopState) (W3 : World), st = (if jump.isNone then .ready else .done) → Fr SB (W0.putObj (D + 1) (.loop (rec .busy none))) W3 →
        (Instr.endRound (D + 1) jump).run P W3 = .ok (.bool jump.isNone) (W3.putObj (D + 1) (.loop (rec st jump))) ∧ Bk st jump (W3.putObj (D + 1) (.loop (rec st jump))) ∧ Fr (fun k => k = D + 1) W3 (W3.putObj (D + 1) (.loop (rec st jump))) ∧ Fr (fun k => SB k ∨ k = D + 1) W0 (W3.putObj (D + 1) (.loop (rec st jump))) := by
      intro jump st W3 hst' hk3
      have h3 : Bk .busy none W3 := hkeep hbz hk3 hSB.1 hSB.2
      have hr := run_endRound (P := P) jump h3.1
      have e2 : ({ rec .busy none with state := if jump.isNone then .ready else .done, pending := jump } : Loop) = rec st jump := by rw [hrec, hst']
      rw [e2] at hr
      exact ⟨hr, hput h3, put_fr _, ((hf0.mono fun k _ h => .inr h).trans hk3 fun k _ h => .inl h).trans (put_fr _) fun k _ h => .inr h⟩
    intro e a3 W3 hp
    cases e with
    | normal =>
      obtain ⟨hk3, hi3⟩ := hp
      obtain ⟨hr, hb3, hs3, hf3⟩ := fin none .ready W3 rfl hk3
      exact ⟨_, _, hr, .inl ⟨rfl, ⟨hI _ _ _ hi3 hs3, hb3⟩, hf3⟩⟩
    | ret =>
      obtain ⟨hk3, hi3⟩ := hp
      obtain ⟨hr, hb3, hs3, hf3⟩ := fin (some .ret) .done W3 rfl hk3
      exact ⟨_, _, hr, .inr ⟨rfl, ⟨_, hIx _ _ _ _ hi3 hs3, hb3⟩, hf3⟩⟩
    | exit id =>
      obtain ⟨hk3, hi3⟩ := hp
      obtain ⟨hr, hb3, hs3, hf3⟩ := fin (some (.exit id)) .done W3 rfl hk3
      exact ⟨_, _, hr, .inr ⟨rfl, ⟨_, hIx _ _ _ _ hi3 hs3, hb3⟩, hf3⟩⟩
    | goto t =>
      obtain ⟨hk3, hi3⟩ := hp
      obtain ⟨hr, hb3, hs3, hf3⟩ := fin (some (.goto t)) .done W3 rfl hk3
      exact ⟨_, _, hr, .inr ⟨rfl, ⟨_, hIx _ _ _ _ hi3 hs3, hb3⟩, hf3⟩⟩
    | panic ch => exact hp.elim
    | outgrown => exact hp.elim
  · -- behind the iterator
    rintro e W2 ⟨⟨v, rfl⟩, (⟨xs, hS, hi, hbk⟩ | ⟨pre, hSp, c, hi, hbk⟩)⟩
    · have hr := run_endLoop (P := P) hbk.1 (by rw [hrec]; simp)
      rw [show (rec .ready none).pending = none by rw [hrec]] at hr
      exact ⟨none, _, hr, hdone D xs _ hD hS (hI _ _ _ hi (put_fr _)) ((World.putObj_heap_other (by omega)).trans hbk.2)⟩
    · have hr := run_endLoop (P := P) hbk.1 (by rw [hrec]; simp)
      rw [show (rec .done (some c)).pending = some c by rw [hrec]] at hr
      exact ⟨some c, _, hr, hstop D c pre _ hD hSp (hIx _ _ _ _ hi (put_fr _)) ((World.putObj_heap_other (by omega)).trans hbk.2)⟩
end Go.Proofs.Ythdapoipfnnaeaa.Rng
