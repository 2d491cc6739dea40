/- Walks of one function's frames alone: a range over a function value whose rounds may panic; a function's contract with marks among its deferred calls. -/
import Derived.Test.YtebdmfmadbikaaaDoorRngT
import Derived.RangeFuncLeaves
namespace Go.Proofs.YtebdmfmadbikaaaDoor.Rng
open Go.RowKit Go.Shelf Mem

/-- A walk of code in a frame of function f, at no fence. -/
def WpAt (P : Program) (f : FuncId) (c : Code) (Q : Exit → Act → World → Prop) (a : Act) (w : World) : Prop :=
  ∀ (b : Frame) (k : List Item) (cs : List Frame), b.roundOf = none → b.fn = f →
    ∃ e a' w', Q e a' w' ∧ ArrivesIn (Machine.fenced P Fence.wide) P (lone (b.atR a (.code c :: k)) cs w) b k cs e a' w'
section
variable {P : Program} {f : FuncId} {Q : Exit → Act → World → Prop} {a : Act} {w : World}
theorem wpAt_in {c : Code} (h : c.wpIn Fence.wide 5 P Q a w) : WpAt P f c Q a w := fun b k cs hro _ => h b k cs hro trivial (room_wide _)
theorem wpAt_of {c : Code} (h : c.wp P Q a w) : WpAt P f c Q a w := wpAt_in (wpIn_wide.2 h)
theorem wpAt_seq {x y : Code} (h : WpAt P f x (Exit.then (WpAt P f y Q) Q) a w) : WpAt P f (Code.seq x y) Q a w := by
  intro b k cs hro hb
  have h0 : (lone (b.atR a (.code (.seq x y) :: k)) cs w).fenced P Fence.wide := fenced_wide _ _
  obtain ⟨e, a₁, w₁, hq, harr⟩ := h b (.code y :: k) cs hro hb
  cases e with
  | normal =>
    obtain ⟨e₂, a₂, w₂, hq₂, harr₂⟩ := hq b k cs hro hb
    exact ⟨e₂, a₂, w₂, hq₂, .of_steps (.head h0 stepR_seq harr) harr₂⟩
  | exit id => exact ⟨_, a₁, w₁, hq, .of_steps (.one h0 stepR_seq) (.pass (x := .code y) rfl (fun _ _ => .inl (by simp)) harr)⟩
  | goto l => exact ⟨_, a₁, w₁, hq, .of_steps (.one h0 stepR_seq) (.pass (x := .code y) rfl (fun _ _ => .inl (by simp)) harr)⟩
  | ret => exact ⟨_, a₁, w₁, hq, .of_steps (.one h0 stepR_seq) (.pass (x := .code y) rfl (fun _ _ => .inl (by simp)) harr)⟩
  | panic ch => exact ⟨_, a₁, w₁, hq, .of_steps (.one h0 stepR_seq) (.pass (x := .code y) rfl (fun _ _ => .inl (by simp)) harr)⟩
  | outgrown => exact ⟨_, a₁, w₁, hq, .of_steps (.one h0 stepR_seq) (.pass (x := .code y) rfl (fun _ _ => .inl (by simp)) harr)⟩
theorem wpAt_block {id : Nat} {c : Code} (h : WpAt P f c (Exit.inBlock id Q) a w) : WpAt P f (Code.block id c) Q a w := by
  intro b k cs hro hb
  have h0 : (lone (b.atR a (.code (.block id c) :: k)) cs w).fenced P Fence.wide := fenced_wide _ _
  obtain ⟨e, a₁, w₁, hq, harr⟩ := h b (.inBlock id :: k) cs hro hb
  cases e with
  | normal => exact ⟨.normal, a₁, w₁, hq, .head h0 stepR_block (StepsIn.trans harr (.one (fenced_wide _ _) stepR_inBlock))⟩
  | exit id' =>
    by_cases hid : id' = id
    · simp only [Exit.inBlock, hid, if_true] at hq
      exact ⟨.normal, a₁, w₁, hq, .head h0 stepR_block (harr.1 k (by simp [exitTo, hid]))⟩
    · simp only [Exit.inBlock, hid, if_false] at hq
      have this : (id == id') = false := by simp; exact fun h => hid h.symm
      have hx : exitTo id' (.inBlock id :: k) = exitTo id' k := by simp [exitTo, this]
      exact ⟨.exit id', a₁, w₁, hq, fun k' hk => .head h0 stepR_block (harr.1 k' (by rw [hx]; exact hk)),
        fun hr' hk => let ⟨k₁, h1, h2⟩ := harr.2 hr' (by rw [hx]; exact hk); ⟨k₁, h1, .head h0 stepR_block h2⟩⟩
  | goto l =>
    have hx : gotoIn l (.inBlock id :: k) = gotoIn l k := by simp [gotoIn]
    exact ⟨_, a₁, w₁, hq, fun k' hk => .head h0 stepR_block (harr.1 k' (by rw [hx]; exact hk)),
      fun hr' hk => let ⟨k₁, h1, h2⟩ := harr.2 hr' (by rw [hx]; exact hk); ⟨k₁, h1, .head h0 stepR_block h2⟩⟩
  | ret => exact ⟨_, a₁, w₁, hq, .of_steps (.one h0 stepR_block) harr⟩
  | panic ch => exact ⟨_, a₁, w₁, hq, .of_steps (.one h0 stepR_block) harr⟩
  | outgrown => exact ⟨_, a₁, w₁, hq, .of_steps (.one h0 stepR_block) harr⟩
/-- The first part walked as ever. -/
theorem wpAt_seq1 {x y : Code} (h : x.wp P (Exit.then (WpAt P f y Q) Q) a w) : WpAt P f (Code.seq x y) Q a w := wpAt_seq (wpAt_of h)
theorem calls_of_wpAt {fn : Func} {c : Code} {args : Array Value} {R : Ending → World → Prop} (hf : P.funcs[f]? = some fn) (hb : fn.body = some c)
    (h : WpAt P f c (bodyPostM Fence.wide 5 P fn R) { tmps := args ++ Array.replicate (fn.ntmps - args.size) undef, defers := [] } w) : CallsIn Fence.wide 5 P f args w R := by
  refine ⟨trivial, fun cs hr => ?_⟩
  let b : Frame := { (default : Frame) with fn := f, kind := .normal, roundOf := none }
  have henter : Frame.enter P f args .normal =
      b.atR { tmps := args ++ Array.replicate (fn.ntmps - args.size) undef, defers := [] } [.code c] := by
    simp [Frame.enter, Frame.atR, hf, hb, b]
  obtain ⟨e, a', w', hq, harr⟩ := h b [] cs rfl rfl
  rw [← henter] at harr
  cases e with
  | normal =>
    obtain ⟨e', w'', fr', hR, hs, hfn, hl⟩ := leaves_stepsInM a'.defers .returning w' { b.atR a' [] with mode := .returning } cs rfl rfl rfl hf rfl trivial hr hq
    exact ⟨e', w'', fr', hR, ComesIn.of_steps (StepsIn.trans harr (.one (fenced_wide _ _) (stepR_end rfl))) hs, hfn, hl⟩
  | ret =>
    obtain ⟨todo, hs₀⟩ := harr.1 rfl
    obtain ⟨e', w'', fr', hR, hs, hfn, hl⟩ := leaves_stepsInM a'.defers .returning w' { b.atR a' todo with mode := .returning } cs rfl rfl rfl hf rfl trivial hr hq
    exact ⟨e', w'', fr', hR, ComesIn.of_steps hs₀ hs, hfn, hl⟩
  | panic chain =>
    obtain ⟨todo, hs₀⟩ := harr
    obtain ⟨e', w'', fr', hR, hs, hfn, hl⟩ := leaves_stepsInM a'.defers (.panicking chain) w' { b.atR a' todo with mode := .panicking chain } cs rfl rfl rfl hf rfl trivial hr hq
    exact ⟨e', w'', fr', hR, ComesIn.of_steps hs₀ hs, hfn, hl⟩
  | exit id => exact hq.elim
  | goto l => exact hq.elim
  | outgrown => exact ⟨.outgrown, w', b, hq, harr.resolve_left (by simp [b]), rfl, trivial⟩

/-- How a round's body may be left: off its end, or by a panic. -/
def roundPostX (P : Program) (l : Nat) (R : Ending → World → Prop) : Exit → Act → World → Prop
  | .normal, _, w => ∃ v w', (Instr.endRound l none).run P w = .ok v w' ∧ R (.returned v) w'
  | .panic ch, a, w => a.defers = [] ∧ R (.panicked ch) w
  | _, _, _ => False
theorem roundX {l : Nat} {fn : Func} {tmps : Array Value} {assign body : Code} {R : Ending → World → Prop} (hf : P.funcs[f]? = some fn)
    (h : assign.wpIn (Fence.wide.inRound l) 3 P (Exit.then (fun a₁ w₁ => ∃ w₂, (Instr.beginRound l).run P w₁ = .ok () w₂ ∧ body.wpIn (Fence.wide.inRound l) 3 P (roundPostX P l R) a₁ w₂) (fun _ _ _ => False))
      { tmps := tmps, defers := [] } w) :
    RoundIn Fence.wide 3 P l f tmps assign body w R := by
  refine ⟨trivial, fun c cs hr => ?_⟩
  let b : Frame := { (default : Frame) with fn := f, kind := .normal, roundOf := some l }
  have hb0 : Frame.round l f tmps assign body .normal = b.atR { tmps := tmps, defers := [] } [.code assign, .beginRound, .code body] := by
    simp [Frame.round, Frame.atR, b]
  have hr' : (Fence.wide.inRound l).room ((c :: cs).length + 1 + 3) := hr
  obtain ⟨e, a₁, w₁, hq, harr⟩ := h b [.beginRound, .code body] (c :: cs) rfl trivial hr'
  rw [← hb0] at harr
  cases e with
  | normal =>
    obtain ⟨w₂, hbr, hbody⟩ := hq
    have s1 : StepsIn (Machine.fenced P (Fence.wide.inRound l)) P (lone (b.atR a₁ [.beginRound, .code body]) (c :: cs) w₁) (lone (b.atR a₁ [.code body]) (c :: cs) w₂) :=
      .one (fenced_calm (fr := b.atR a₁ [.beginRound, .code body]) trivial hr' rfl) (stepR_beginRound rfl hbr)
    obtain ⟨e₂, a₂, w₃, hq₂, harr₂⟩ := hbody b [] (c :: cs) rfl trivial hr'
    cases e₂ with
    | normal =>
      obtain ⟨v, w₄, hend, hR⟩ := hq₂
      exact ⟨.returned v, w₄, hR, (StepsIn.trans harr s1).trans (StepsIn.trans harr₂ (.one (fenced_calm (fr := b.atR a₂ []) trivial hr' rfl) (stepR_round_end rfl rfl hend)))⟩
    | panic chain =>
      obtain ⟨hd, hR⟩ := hq₂
      obtain ⟨todo, hs⟩ := harr₂
      exact ⟨.panicked chain, w₃, hR, (StepsIn.trans harr s1).trans (StepsIn.trans hs (.one (fenced_wide _ _) (step_leave_panicked (fr := { b.atR a₂ todo with mode := .panicking chain }) ⟨rfl, hd, fn, hf⟩)))⟩
    | ret => exact hq₂.elim
    | exit id => exact hq₂.elim
    | goto t => exact hq₂.elim
    | outgrown => exact hq₂.elim
  | exit id => exact hq.elim
  | goto t => exact hq.elim
  | ret => exact hq.elim
  | panic chain => exact hq.elim
  | outgrown => exact hq.elim
/-- A range over a function, in a frame of f. -/
theorem wpAt_rangeFunc {g : Operand} {ps : Array Tmp} {assign body : Code}
    (h : ∃ (l : Nat) (mark : List Deferred) (w₁ : World) (d : Deferred) (w₁' : World) (gf : FuncId) (args : Array Value) (w₂ : World),
      (Instr.enterLoop f a.tmps ps assign body none).run P w = .ok (l, mark) w₁ ∧
      (resolve a.eval (rangeCall g l) 0).run P w₁ = .ok d w₁' ∧
      (invoke d.target d.args).run P w₁' = .ok (.enter gf args) w₂ ∧
      CallsIn Fence.wide 4 P gf args w₂ (rangePost Fence.wide 5 P l Q { a with defers := mark ++ a.defers })) :
    WpAt P f (Code.rangeFunc g ps assign body) Q a w := by
  intro b k cs hro hb
  subst hb
  obtain ⟨l, mark, w₁, d, w₁', gf, args, w₂, he, hres, hinv, hF, hcall⟩ := h
  rw [← hro] at he
  have henter := stepR_rangeFunc (P := P) (b := b) (a := a) (k := k) (cs := cs) (w := w) he hres hinv
  obtain ⟨e, w₃, fr, hR, hsteps, hfn, hleave⟩ := hcall (b.atR { a with defers := mark ++ a.defers } (.inRangeFunc l :: k) :: cs) (room_wide _)
  cases e with
  | outgrown =>
    obtain ⟨a₀, w₀, hq⟩ := hR
    exact ⟨.outgrown, a₀, w₀, hq, .inr (Outgrown.of_steps (.one henter) hsteps)⟩
  | returned v =>
    obtain ⟨jump, w₄, hend, hj⟩ := hR
    have sback : StepsIn (Machine.fenced P Fence.wide) P (lone (b.atR a (.code (.rangeFunc g ps assign body) :: k)) cs w) (lone (b.atR { a with defers := mark ++ a.defers } ((jump.map Item.code).toList ++ k)) cs w₄) := by
      refine .head (fenced_wide _ _) henter (StepsIn.trans hsteps (.head (fenced_wide _ _) ?_ (.one (fenced_wide _ _) (stepR_endRangeFunc hend))))
      rw [← finish_atR_inRangeFunc l v]; exact step_leave_returned hleave
    cases jump with
    | none => exact ⟨.normal, _, w₄, hj, sback⟩
    | some c =>
      obtain ⟨e', a'', w₅, hq, harr⟩ := hj b k cs hro trivial (room_wide _)
      exact ⟨e', a'', w₅, hq, .of_steps sback harr⟩
  | panicked chain =>
    refine ⟨.panic chain, _, w₃, hR, .inRangeFunc l :: k, .head (fenced_wide _ _) henter (StepsIn.trans hsteps (.one (fenced_wide _ _) ?_))⟩
    rw [← Frame.raise_atR]; exact step_leave_panicked hleave
end

/-- How a round's body may be left: it turned the blocks of SB alone; or it panics. -/
def postX {α : Type} (SB : Nat → Prop) (I : List α → World → Prop) (Ip : List PanicEntry → World → Prop) (xs : List α) (W : World) : Exit → Act → World → Prop
  | .normal, _, W' => Fr SB W W' ∧ I xs W'
  | .panic ch, a, W' => a.defers = [] ∧ Fr SB W W' ∧ Ip ch W'
  | _, _, _ => False
/-- What is asked of the iterator's call: J is the caller's invariant with the loop's two blocks (D, D + 1); a round's panic passes. -/
def CallX {α : Type} (P : Program) (gf : Nat) (lb : Array Value) (encs : α → Array Value) (LX : List α → α → World → Prop) (SB : Nat → Prop) (D : Nat) (S : List α → Prop) (w : World) : Prop :=
  ∀ (J : List α → World → Prop) (Jp : List PanicEntry → World → Prop) (W : World), W.heap.size = D + 2 → Below D w W →
    (∀ pre x W1, J pre W1 → LX pre x W1 → YieldAt Fence.wide 3 P (D + 1) (encs x) W1 fun e W' =>
      (e = .returned (.bool true) ∧ J (pre ++ [x]) W' ∧ Fr (fun k => SB k ∨ k = D + 1) W1 W') ∨ ∃ ch, e = .panicked ch ∧ Jp ch W') →
    J [] W →
    CallsIn Fence.wide 4 P gf (#[.func (.yield (D + 1)) #[] #[]] ++ lb) W fun e W' => (∃ v xs, e = .returned v ∧ S xs ∧ J xs W') ∨ ∃ ch, e = .panicked ch ∧ Jp ch W'

theorem wpAt_rangeX {P : Program} {f : FuncId} {fn : Func} (hf : P.funcs[f]? = some fn) {α : Type} {g : Operand} {ps : Array Tmp} {assign body : Code} {Q : Exit → Act → World → Prop} {a : Act} {w : World}
    {gf : Nat} {lb : Array Value} (hg : a.eval g = .func (.func gf) #[] lb) (eg : ∀ args w, (callFunc gf args).run P w = .ok (.enter gf args) w)
    {encs : α → Array Value} (hps : ∀ x, (encs x).size = ps.size)
    (I : List α → World → Prop) (Ip : List PanicEntry → World → Prop) (LX : List α → α → World → Prop) (SB : Nat → Prop) {S : List α → Prop} (hSB : ¬ SB w.heap.size ∧ ¬ SB (w.heap.size + 1))
    (hcall : CallX P gf lb encs LX SB w.heap.size S w)
    (hI : ∀ pre W W', I pre W → Fr (fun k => k = w.heap.size + 1) W W' → I pre W') (hLX : ∀ pre x W W', LX pre x W → Fr (fun k => k = w.heap.size + 1) W W' → LX pre x W')
    (h0 : ∀ W, Below w.heap.size w W → W.heap.size = w.heap.size + 2 → I [] W)
    (hround : ∀ (l : Nat) (pre : List α) (x : α) (W : World), I pre W → LX pre x W → assign.wpIn (Fence.wide.inRound l) 3 P (Exit.then (fun a₁ W₁ => W₁ = W ∧ ∀ W2, I pre W2 → LX pre x W2 → body.wpIn (Fence.wide.inRound l) 3 P (postX SB I Ip (pre ++ [x]) W2) a₁ W2) (fun _ _ _ => False))
      { tmps := (ps.zip (encs x)).foldl (fun t (p, v) => t.setIfInBounds p v) a.tmps, defers := [] } W)
    (hdone : ∀ (D : Nat) (xs : List α) (W : World), D = w.heap.size → S xs → I xs W → W.heap[D]? = some (.deferred (some [])) → Q .normal { a with defers := { target := .collected D, args := #[] } :: a.defers } W)
    (hpan : ∀ (D : Nat) (ch : List PanicEntry) (W : World), D = w.heap.size → Ip ch W → W.heap[D]? = some (.deferred (some [])) → Q (.panic ch) { a with defers := { target := .collected D, args := #[] } :: a.defers } W) :
    WpAt P f (Code.rangeFunc g ps assign body) Q a w := by
  refine wpAt_rangeFunc ?_
  obtain ⟨D, hD⟩ : ∃ D, D = w.heap.size := ⟨_, rfl⟩
  obtain ⟨rec, hrec⟩ : ∃ rec : LoopState → Option Code → Loop, rec = fun st pe => { state := st, pending := pe, fn := f, tmps := a.tmps, params := ps, assign, body, defers := D } := ⟨_, rfl⟩
  obtain ⟨W1, hW1⟩ : ∃ W1, W1 = (w.alloc (.deferred (some []))).alloc (.loop (rec .ready none)) := ⟨_, rfl⟩
  have hL1 : W1.heap[D + 1]? = some (.loop (rec .ready none)) := by
    rw [hW1, hD]; have := World.alloc_heap_new (w.alloc (.deferred (some []))) (.loop (rec .ready none)); rwa [World.size_alloc] at this
  have hK1 : W1.heap[D]? = some (.deferred (some [])) := by
    rw [hW1, hD]; exact (Below.heap_alloc _ _ _ (by simp)).trans (World.alloc_heap_new w _)
  have hB1 : Below w.heap.size w W1 := by rw [hW1]; exact ((Below.refl _ w).alloc (Nat.le_refl _) _).alloc (by simp) _
  have hs1 : W1.heap.size = D + 2 := by rw [hW1, hD]; simp
  let Bk (st : LoopState) (pe : Option Code) (W : World) : Prop := W.heap[D + 1]? = some (.loop (rec st pe)) ∧ W.heap[D]? = some (.deferred (some []))
  have hput : ∀ {st st' : LoopState} {pe pe' : Option Code} {W : World}, Bk st pe W → Bk st' pe' (W.putObj (D + 1) (.loop (rec st' pe'))) := fun h =>
    ⟨World.putObj_heap_same (Array.getElem?_eq_some_iff.1 h.1).1, (World.putObj_heap_other (by omega)).trans h.2⟩
  have hkeep : ∀ {st : LoopState} {pe : Option Code} {W W' : World} {S' : Nat → Prop}, Bk st pe W → Fr S' W W' → ¬ S' D → ¬ S' (D + 1) → Bk st pe W' := fun h hf h1 h2 =>
    ⟨(hf.block _ (Array.getElem?_eq_some_iff.1 h.1).1 h2).trans h.1, (hf.block _ (Array.getElem?_eq_some_iff.1 h.2).1 h1).trans h.2⟩
  rw [← hD] at hSB hcall hI hLX
  refine ⟨D + 1, [{ target := .collected D, args := #[] }], W1, { target := .fn (.func gf) lb, args := #[.func (.yield (D + 1)) #[] #[]] }, W1, gf, #[.func (.yield (D + 1)) #[] #[]] ++ lb, W1, ?_, ?_, ?_, ?_⟩
  · rw [hW1, hrec, hD]; exact run_enterLoop_outer _ _ _ _ _
  · simp only [resolve, hg]
    simp [go_sem]
  · simp [invoke, go_sem, eg]
  refine (hcall (fun pre W => I pre W ∧ Bk .ready none W) (fun ch W => Ip ch W ∧ W.heap[D]? = some (.deferred (some []))) W1 hs1 (by rw [hD]; exact hB1) ?_ ⟨h0 _ hB1 (by rw [hs1, hD]), hL1, hK1⟩).mono ?_
  · -- a round
    rintro pre x W ⟨hi, hbk⟩ hx
    have hy := run_yield (P := P) (args := encs x) hbk.1 (by rw [hrec]; exact hps x)
    rw [hrec] at hy
    refine ⟨f, _, assign, body, hy, roundX hf (wpIn_mono (hround _ pre x W hi hx) ?_)⟩
    rintro e1 a1 W0 he1
    cases e1 with
    | ret => exact he1.elim
    | exit id => exact he1.elim
    | goto t => exact he1.elim
    | panic ch => exact he1.elim
    | outgrown => exact he1.elim
    | normal =>
    obtain ⟨rfl, hb⟩ : W0 = W ∧ _ := he1
    refine ⟨_, run_beginRound hbk.1 (by rw [hrec]), ?_⟩
    have e1 : ({ rec .ready none with state := .busy } : Loop) = rec .busy none := by rw [hrec]
    rw [e1]
    have hbz := hput (st' := .busy) (pe' := none) hbk
    have hf0 := put_fr (W := W0) (k := D + 1) (.loop (rec .busy none))
    refine wpIn_mono (hb _ (hI _ _ _ hi hf0) (hLX _ _ _ _ hx hf0)) ?_
    intro e a3 W3 hp
    cases e with
    | normal =>
      obtain ⟨hk3, hi3⟩ := hp
      have h3 : Bk .busy none W3 := hkeep hbz hk3 hSB.1 hSB.2
      have hr := run_endRound (P := P) none h3.1
      have e2 : ({ rec .busy none with state := .ready, pending := none } : Loop) = rec .ready none := by rw [hrec]
      have e3 : ({ rec .busy none with state := if (none : Option Code).isNone then .ready else .done, pending := none } : Loop) = rec .ready none := e2
      rw [e3] at hr
      exact ⟨_, _, hr, .inl ⟨rfl, ⟨hI _ _ _ hi3 (put_fr _), hput h3⟩, ((hf0.mono fun k _ h => .inr h).trans hk3 fun k _ h => .inl h).trans (put_fr _) fun k _ h => .inr h⟩⟩
    | panic ch =>
      obtain ⟨hd, hk3, hi3⟩ := hp
      exact ⟨hd, .inr ⟨ch, rfl, hi3, (hkeep hbz hk3 hSB.1 hSB.2).2⟩⟩
    | ret => exact hp.elim
    | exit id => exact hp.elim
    | goto t => exact hp.elim
    | outgrown => exact hp.elim
  · -- behind the iterator
    rintro e W2 (⟨v, xs, rfl, hS, hi, hbk⟩ | ⟨ch, rfl, hi, hk⟩)
    · have hr := run_endLoop (P := P) hbk.1 (by rw [hrec]; simp)
      rw [show (rec .ready none).pending = none by rw [hrec]] at hr
      exact ⟨none, _, hr, hdone D xs _ hD hS (hI _ _ _ hi (put_fr _)) ((World.putObj_heap_other (by omega)).trans hbk.2)⟩
    · exact hpan D ch W2 hD hi hk
end Go.Proofs.YtebdmfmadbikaaaDoor.Rng
