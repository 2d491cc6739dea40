/- A region that draws its order: a load may be taken first where what it needs abides only till the region's own stores (st), which wait for it. -/
import Derived.Test.YthdapoipfnnaeaaHeld
namespace Go.Proofs.Ythdapoipfnnaeaa.Rng
open Go.RowKit Go.Shelf Mem
set_option linter.unusedVariables false

section
variable {P : Program} {ops : Array Oper} {Q : Exit → Act → World → Prop} {md : Region.Mode} {T : World → Prop} {st : List Nat}
/-- None of the stores has come up. -/
def stOk (st : List Nat) (l : Array Bool) : Bool := st.all fun s => l.getD s true == false
/-- Each of the stores waits for number i. -/
def stWaits (md : Region.Mode) (ops : Array Oper) (st : List Nat) (i : Nat) : Bool := st.all fun s => decide (s ≠ i) && match ops[s]? with
  | some o => o.after.any fun e => Region.binds md e && decide (e.on = i)
  | none => false
theorem st_no {l : Array Bool} (hl : stOk st l = false) (h : stOk st l = true) : False := by rw [hl] at h; cases h
/-- Whatever order is picked; T holds behind every operation till a store has come up. -/
def wpAnyG (P : Program) (md : Region.Mode) (ops : Array Oper) (Q : Exit → Act → World → Prop) (T : World → Prop) (st : List Nat) : Nat → Array Bool → Act → World → Prop
  | 0, listed, a, w => Region.ready md ops listed = [] ∧ Q .normal a w
  | fuel + 1, listed, a, w =>
    (Region.ready md ops listed = [] → Q .normal a w) ∧
    ∀ i ∈ Region.ready md ops listed, wpOp P ops Q i (fun a' w' => (stOk st (listed.setIfInBounds i true) = true → T w') ∧ wpAnyG P md ops Q T st fuel (listed.setIfInBounds i true) a' w') a w
theorem wpAny_of_G : ∀ (fuel : Nat) (listed : Array Bool) (a : Act) (w : World), wpAnyG P md ops Q T st fuel listed a w → wpAny P md ops Q fuel listed a w
  | 0, _, _, _, h => h
  | fuel + 1, _, _, _, h => ⟨h.1, fun i hi => wpOp_mono (fun a' w' h' => wpAny_of_G fuel _ a' w' h'.2) (h.2 i hi)⟩
/-- What is known of a load i that may be taken first: its value hangs on nothing, or on T, and the stores wait for it. -/
def Fit (md : Region.Mode) (ops : Array Oper) (T U : World → Prop) (st : List Nat) (i : Nat) (l : Array Bool) : Prop := (∀ w, U w) ∨ ((∀ w, T w → U w) ∧ stWaits md ops st i = true ∧ stOk st l = true)
theorem st_getD {l : Array Bool} (h : stOk st l = true) {s : Nat} (hs : s ∈ st) : l.getD s true = false := by
  have := List.all_eq_true.1 h s hs
  simpa using this
theorem stOk_set {l : Array Bool} (h : stOk st l = true) {j : Nat} (hj : j ∉ st) : stOk st (l.setIfInBounds j true) = true := by
  unfold stOk
  rw [List.all_eq_true]
  intro s hs
  have h1 := st_getD h hs
  have hne : j ≠ s := fun e => hj (by rw [e]; exact hs)
  rw [getD_set_ne true hne, h1]; rfl
theorem wpAnyG_first {U : World → Prop} {i : Nat} {oi : Oper} {v : Value} (hist : i ∉ st) (hi : ops[i]? = some oi) (hsel : ∀ (j : Nat) (o : Oper) cs b, ops[j]? = some o → o.op ≠ .select cs b)
    (hQ : ∀ c a w, Q (.panic c) (a.put oi.dst v) w → Q (.panic c) a w) :
    ∀ (fuel : Nat) (listed : Array Bool) (a : Act) (w : World),
      (∀ j oj, ops[j]? = some oj → j ≠ i → listed.getD j true = false → (∀ e ∈ oj.after, Region.binds md e = true → e.on ≠ i) → oi.apart ops oj = true) →
      i ∈ Region.ready md ops listed → YieldsIf P ops U oi v a → Fit md ops T U st i listed → U w → (stOk st (listed.setIfInBounds i true) = true → T w) →
      wpAnyG P md ops Q T st fuel (listed.setIfInBounds i true) (a.put oi.dst v) w → wpAnyG P md ops Q T st (fuel + 1) listed a w := by
  intro fuel
  induction fuel with
  | zero =>
    intro listed a w _ hr hy hF hS hT H
    refine ⟨fun h => (by rw [h] at hr; cases hr), fun j hj => ?_⟩
    by_cases hji : j = i
    · subst hji; exact hy.wpOp hi hS ⟨hT, H⟩
    · have := ready_mono hj hji
      rw [H.1] at this
      cases this
  | succ fuel ih =>
    intro listed a w hfree hr hy hF hS hT H
    refine ⟨fun h => (by rw [h] at hr; cases hr), fun j hj => ?_⟩
    by_cases hji : j = i
    · subst hji; exact hy.wpOp hi hS ⟨hT, H⟩
    · have h1 := H.2 j (ready_mono hj hji)
      obtain ⟨hjun, oj, hoj, hall⟩ := mem_ready.1 hj
      have hnot : ∀ e ∈ oj.after, Region.binds md e = true → e.on ≠ i := fun e he hb heq => by
        have h1 := hall e he hb
        have h0 := (mem_ready.1 hr).1
        rw [heq] at h1
        rcases Nat.lt_or_ge i listed.size with h' | h'
        · simp [h'] at h0 h1; rw [h0] at h1; cases h1
        · simp [Array.getElem?_eq_none h'] at h1
      have h2 := wpOp_putIf hoj (hfree j oj hoj hji hjun hnot) (fun cs b => hsel i oi cs b hi) (fun cs b => hsel j oj cs b hoj) hQ hy h1
      have hfree' : ∀ k ok, ops[k]? = some ok → k ≠ i → (listed.setIfInBounds j true).getD k true = false →
          (∀ e ∈ ok.after, Region.binds md e = true → e.on ≠ i) → oi.apart ops ok = true := fun k ok hk hki hun hno => by
        refine hfree k ok hk hki ?_ hno
        by_cases hjk : j = k
        · subst hjk; exact hjun
        · rw [getD_set_ne true hjk] at hun; exact hun
      -- j is no store where T is asked
      have hjs : stWaits md ops st i = true → j ∉ st := fun hw hjst => by
        have := List.all_eq_true.1 hw j hjst
        rw [hoj] at this
        simp only [Bool.and_eq_true, List.any_eq_true, Array.any_eq_true', decide_eq_true_eq] at this
        obtain ⟨_, e, he, hb, ho⟩ := this
        exact hnot e he hb ho
      have hF' : Fit md ops T U st i (listed.setIfInBounds j true) := hF.imp id fun ⟨h1, h2, h3⟩ => ⟨h1, h2, stOk_set h3 (hjs h2)⟩
      refine wpOp_mono (fun a' w' h3 => ?_) h2
      have hcomm := Array.setIfInBounds_comm (xs := listed) true true hji
      have hU' : U w' := by
        rcases hF with hF | ⟨h4, h5, h6⟩
        · exact hF w'
        · refine h4 w' (h3.2.1 ?_)
          exact stOk_set (stOk_set h6 hist) (hjs h5)
      have hT' : stOk st ((listed.setIfInBounds j true).setIfInBounds i true) = true → T w' := fun hk => h3.2.1 (by rw [← hcomm]; exact hk)
      have hT2 : stOk st (listed.setIfInBounds j true) = true → T w' := fun hk => hT' (stOk_set hk hist)
      refine ⟨hT2, ih (listed.setIfInBounds j true) a' w' hfree' (ready_mono hr (Ne.symm hji)) h3.1 hF' hU' hT' ?_⟩
      rw [hcomm]
      exact h3.2.2
/-- Take number i first: it needs T, and the stores wait for it. -/
theorem wpAnyG_take {i : Nat} {oi : Oper} {v : Value} {fuel : Nat} {listed : Array Bool} {a : Act} {w : World} (hi : ops[i]? = some oi)
    (hs : Region.noSelect ops = true) (hf : Region.free md ops listed i = true) (hr : (Region.ready md ops listed).contains i = true) (hw : (decide (i ∉ st) && (stWaits md ops st i && stOk st listed)) = true)
    (hQ : ∀ c a w, Q (.panic c) (a.put oi.dst v) w → Q (.panic c) a w) (hy : YieldsIf P ops T oi v a) (hT : T w)
    (h : wpAnyG P md ops Q T st fuel (listed.setIfInBounds i true) (a.put oi.dst v) w) : wpAnyG P md ops Q T st (fuel + 1) listed a w := by
  simp only [Bool.and_eq_true, decide_eq_true_eq] at hw
  exact wpAnyG_first (U := T) hw.1 hi (Region.noSelect_spec hs) hQ fuel listed a w (Region.free_spec hi hf) (by simpa using hr) hy (.inr ⟨fun _ h => h, hw.2.1, hw.2.2⟩) hT (fun _ => hT) h
/-- Take number i first: it needs nothing. -/
theorem wpAnyG_pure {i : Nat} {oi : Oper} {v : Value} {fuel : Nat} {listed : Array Bool} {a : Act} {w : World} (hi : ops[i]? = some oi)
    (hs : Region.noSelect ops = true) (hf : Region.free md ops listed i = true) (hr : (Region.ready md ops listed).contains i = true) (hw : decide (i ∉ st) = true)
    (hQ : ∀ c a w, Q (.panic c) (a.put oi.dst v) w → Q (.panic c) a w) (hy : YieldsIf P ops (fun _ => True) oi v a) (hT : stOk st listed = true → T w)
    (h : wpAnyG P md ops Q T st fuel (listed.setIfInBounds i true) (a.put oi.dst v) w) : wpAnyG P md ops Q T st (fuel + 1) listed a w := by
  rw [decide_eq_true_iff] at hw
  refine wpAnyG_first (U := fun _ => True) hw hi (Region.noSelect_spec hs) hQ fuel listed a w (Region.free_spec hi hf) (by simpa using hr) hy (.inl fun _ => trivial) trivial (fun hk => hT ?_) h
  unfold stOk at hk ⊢
  rw [List.all_eq_true] at hk ⊢
  intro s hs
  have h1 := hk s hs
  have hne : i ≠ s := fun e => hw (by rw [e]; exact hs)
  rwa [getD_set_ne true hne] at h1
theorem wpAnyG_done {listed : Array Bool} {a : Act} {w : World} (hr : Region.ready md ops listed = []) (h : Q .normal a w) :
    ∀ fuel, wpAnyG P md ops Q T st fuel listed a w
  | 0 => ⟨hr, h⟩
  | _ + 1 => ⟨fun _ => h, by rw [hr]; simp⟩
/-- Number i is the only one that may come up: it is carried out. -/
theorem wpAnyG_one {i : Nat} {o : Oper} {fuel : Nat} {listed : Array Bool} {a : Act} {w : World} (hr : Region.ready md ops listed = [i]) (ho : ops[i]? = some o)
    (h : ∀ K' : Act → World → Prop, Shut (∀ a w, (stOk st (listed.setIfInBounds i true) = true → T w) → ((stOk st (listed.setIfInBounds i true) = true → T w) → wpAnyG P md ops Q T st fuel (listed.setIfInBounds i true) a w) → K' a w) → if Region.wanted o (yielded ops a.tmps) = true then Oper.wp P o a w K' Q else K' (a.put o.dst undef) w) :
    wpAnyG P md ops Q T st (fuel + 1) listed a w :=
  by
  refine ⟨(fun h0 => by rw [hr] at h0; cases h0), fun j hj => ?_⟩
  rw [hr] at hj
  obtain rfl := List.mem_singleton.1 hj
  exact wpOp_step ho (fun K' hK => h K' (fun a w hS hW => hK a w ⟨hS, hW hS⟩))
/-- The beginning, at no fence; in a round. -/
theorem wp_heldG (T : World → Prop) (st : List Nat) {id : Nat} {a : Act} {w : World} (hm : P.follows .mixedOrders = true) (hT : T w.drew)
    (h : T w.drew → wpAnyG P .any ops Q T st ops.size (Array.replicate ops.size false) a w.drew) : (Code.region id ops true).wp P Q a w :=
  wp_region_any hm (wpAny_of_G _ _ _ _ (h hT))
theorem wpIn_heldG {n l : Nat} (T : World → Prop) (st : List Nat) {id : Nat} {a : Act} {w : World} (hm : P.follows .mixedOrders = true) (hd : noDefer ops = true) (hQ : ¬ LetsOut Q) (hT : T w.drew)
    (h : T w.drew → wpAnyG P .any ops Q T st ops.size (Array.replicate ops.size false) a w.drew) : (Code.region id ops true).wpIn (Fence.wide.inRound l) n P Q a w :=
  wpIn_region_any hm (wpAnyIn_of_plain hd hQ _ _ _ _ (wpAny_of_G _ _ _ _ (h hT)))
end
end Go.Proofs.Ythdapoipfnnaeaa.Rng
