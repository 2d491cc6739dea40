/- Linear algebra, plain: products; what the reduced form tells. -/
import Derived.Test.YthdapoipfnnaeaaMxRed
namespace Go.Proofs.Ythdapoipfnnaeaa.Mx
open Gf
set_option linter.unusedVariables false
set_option linter.unusedSectionVars false

theorem xsum_zero {n : Nat} {f : Nat → UInt8} (h : ∀ j, j < n → f j = 0) : xsum n f = 0 := by
  induction n with
  | zero => rfl
  | succ n ih => unfold xsum; rw [ih fun j hj => h j (by omega), h n (by omega)]; rfl
theorem xsum_xor (n : Nat) (f g : Nat → UInt8) : xsum n (fun j => f j ^^^ g j) = xsum n f ^^^ xsum n g := by
  induction n with
  | zero => show (0 : UInt8) = 0 ^^^ 0; decide
  | succ n ih => unfold xsum; rw [ih, Pl.xor4]
theorem mul_xsum (c : UInt8) (n : Nat) (f : Nat → UInt8) : mul c (xsum n f) = xsum n fun j => mul c (f j) := by
  induction n with
  | zero => exact mul_zero c
  | succ n ih => unfold xsum; rw [mul_xor, ih]
theorem xsum_mul (c : UInt8) (n : Nat) (f : Nat → UInt8) : mul (xsum n f) c = xsum n fun j => mul (f j) c := by
  rw [mul_comm, mul_xsum]; exact xsum_congr fun j _ => mul_comm _ _
theorem xsum_swap (m n : Nat) (f : Nat → Nat → UInt8) : xsum m (fun i => xsum n fun j => f i j) = xsum n fun j => xsum m fun i => f i j := by
  induction m with
  | zero => exact (xsum_zero fun j _ => rfl).symm
  | succ m ih =>
    show xsum m (fun i => xsum n fun j => f i j) ^^^ xsum n (fun j => f m j) = _
    rw [ih, ← xsum_xor]; rfl
theorem xsum_one {n k : Nat} (hk : k < n) {f : Nat → UInt8} (h : ∀ j, j < n → j ≠ k → f j = 0) : xsum n f = f k := by
  induction n with
  | zero => omega
  | succ n ih =>
    unfold xsum
    by_cases e : k = n
    · subst e
      rw [xsum_zero fun j hj => h j (by omega) (by omega), UInt8.zero_xor]
    · rw [ih (by omega) fun j hj hj2 => h j (by omega) hj2, h n (by omega) (by omega), UInt8.xor_zero]
theorem mulM_assoc (c d : Nat) (a b e : M) (i k : Nat) : mulM d (mulM c a b) e i k = mulM c a (mulM d b e) i k := by
  unfold mulM
  rw [xsum_congr fun j _ => xsum_mul (e j k) c fun l => mul (a i l) (b l j), xsum_swap]
  refine xsum_congr fun l _ => ?_
  rw [mul_xsum]
  exact xsum_congr fun j _ => mul_assoc _ _ _
def idm' : M := fun i k => if i = k then 1 else 0
theorem mulM_id {c k : Nat} (a : M) (i : Nat) (hk : k < c) : mulM c a idm' i k = a i k := by
  unfold mulM
  rw [xsum_one hk fun j _ hj => by unfold idm'; rw [if_neg hj, mul_zero]]
  unfold idm'; rw [if_pos rfl, mul_one]
theorem id_mulM {r i : Nat} (a : M) (hi : i < r) (k : Nat) : mulM r idm' a i k = a i k := by
  unfold mulM
  rw [xsum_one hi fun j _ hj => by unfold idm'; rw [if_neg (Ne.symm hj), zero_mul]]
  unfold idm'; rw [if_pos rfl, one_mul]
theorem mulM_turn (c : Nat) (a b : M) (i k : Nat) : mulM c a b k i = mulM c (fun x y => b y x) (fun x y => a y x) i k := xsum_congr fun j _ => mul_comm _ _

/-! Steps by rows. -/
section
variable {r c a b i k : Nat} {X X' : M}
theorem swap_iff (ha : a < r) (hb : b < r) : (∀ i, i < r → swapM X a b i k = swapM X' a b i k) ↔ ∀ i, i < r → X i k = X' i k := by
  unfold swapM
  constructor
  · intro h i hi
    by_cases e : i = b
    · have := h a ha
      rwa [if_pos rfl, if_pos rfl, ← e] at this
    · by_cases e2 : i = a
      · have := h b hb
        by_cases e3 : b = a
        · omega
        · rwa [if_neg e3, if_neg e3, if_pos rfl, if_pos rfl, ← e2] at this
      · have := h i hi
        rwa [if_neg e2, if_neg e2, if_neg e, if_neg e] at this
  · intro h i hi
    by_cases e : i = a
    · rw [if_pos e, if_pos e]; exact h b hb
    · rw [if_neg e, if_neg e]
      by_cases e2 : i = b
      · rw [if_pos e2, if_pos e2]; exact h a ha
      · rw [if_neg e2, if_neg e2]; exact h i hi
theorem scale_iff {v : UInt8} (hv : v ≠ 0) : (∀ i, i < r → scaleM X a v i k = scaleM X' a v i k) ↔ ∀ i, i < r → X i k = X' i k := by
  unfold scaleM
  constructor
  · intro h i hi
    have := h i hi
    by_cases e : i = a
    · rw [if_pos e, if_pos e] at this
      have h2 := congrArg (fun z => mul z (inv v)) this
      simpa only [mul_assoc, mul_inv hv, mul_one] using h2
    · rwa [if_neg e, if_neg e] at this
  · intro h i hi
    rw [h i hi]
theorem elim_iff (t : Nat → UInt8) (ha : a < r) : (∀ i, i < r → elim t X a i k = elim t X' a i k) ↔ ∀ i, i < r → X i k = X' i k := by
  unfold elim
  constructor
  · intro h i hi
    have h0 := h a ha
    rw [if_pos rfl, if_pos rfl] at h0
    have := h i hi
    by_cases e : i = a
    · rwa [if_pos e, if_pos e] at this
    · rw [if_neg e, if_neg e, h0] at this
      have h2 := congrArg (fun z => z ^^^ mul (X' a k) (t i)) this
      simpa only [UInt8.xor_assoc, UInt8.xor_self, UInt8.xor_zero] using h2
  · intro h i hi
    rw [h i hi, h a ha]
theorem step_iff (A : M) {f n : Nat} (ha : a < r) (hf : f < r) (h0 : A f n ≠ 0) : (∀ i, i < r → stepX A X a f n i k = stepX A X' a f n i k) ↔ ∀ i, i < r → X i k = X' i k :=
  (elim_iff _ ha).trans ((scale_iff (inv_ne h0)).trans (swap_iff ha hf))
theorem mulM_swap (X x : M) (a b : Nat) : mulM c (swapM X a b) x = swapM (mulM c X x) a b := by
  funext i k
  unfold mulM swapM
  by_cases e : i = a
  · simp only [if_pos e]
  · simp only [if_neg e]
    by_cases e2 : i = b
    · simp only [if_pos e2]
    · simp only [if_neg e2]
theorem mulM_scale (X x : M) (a : Nat) (v : UInt8) : mulM c (scaleM X a v) x = scaleM (mulM c X x) a v := by
  funext i k
  unfold mulM scaleM
  by_cases e : i = a
  · simp only [if_pos e]
    rw [xsum_mul]
    exact xsum_congr fun j _ => by rw [mul_assoc, mul_comm v, mul_assoc]
  · simp only [if_neg e]
theorem mulM_elim (t : Nat → UInt8) (X x : M) (a : Nat) : mulM c (elim t X a) x = elim t (mulM c X x) a := by
  funext i k
  unfold mulM elim
  by_cases e : i = a
  · simp only [if_pos e]
  · simp only [if_neg e]
    rw [xsum_mul, ← xsum_xor]
    exact xsum_congr fun j _ => by rw [xor_mul, mul_assoc, mul_assoc, mul_comm (t i)]
theorem step_mul (A X x : M) (a f n : Nat) : mulM c (stepX A X a f n) x = stepX A (mulM c X x) a f n := by
  unfold stepX pivB
  rw [mulM_elim, mulM_scale, mulM_swap]
theorem step_zero (A : M) (a f n : Nat) : stepX A (fun _ _ => 0) a f n = fun _ _ => 0 := by
  have h : pivB A (fun _ _ => 0) a f n = fun _ _ => 0 := by
    funext i k
    unfold pivB scaleM swapM
    simp only [ite_self, zero_mul]
  funext i k
  unfold stepX elim
  rw [h]
  simp only [zero_mul, UInt8.xor_zero, ite_self]
end
/-! The reduced form. -/
section
variable {A B B' : M} {r c n : Nat}
theorem redTo_A (A B B' : M) (r : Nat) : ∀ n, (redTo r A B n).A = (redTo r A B' n).A ∧ (redTo r A B n).at_ = (redTo r A B' n).at_
  | 0 => ⟨rfl, rfl⟩
  | n + 1 => by
    obtain ⟨h1, h2⟩ := redTo_A A B B' r n
    unfold redTo redStep
    rw [h1, h2]
    split
    · exact ⟨rfl, rfl⟩
    · exact ⟨h1, h2⟩
theorem redTo_iff (A B B' : M) (r k : Nat) : ∀ n, (∀ i, i < r → (redTo r A B n).B i k = (redTo r A B' n).B i k) ↔ ∀ i, i < r → B i k = B' i k
  | 0 => Iff.rfl
  | n + 1 => by
    obtain ⟨h1, h2⟩ := redTo_A A B B' r n
    have ih := redTo_iff A B B' r k n
    have ha := (redTo_at (A := A) (B := B') (r := r) n).1
    unfold redTo redStep
    rw [h1, h2]
    by_cases h : find (redTo r A B' n).A r n (redTo r A B' n).at_ < r
    · rw [if_pos h, if_pos h]
      have := find_ge (A := (redTo r A B' n).A) (r := r) (k := n) (i := (redTo r A B' n).at_)
      exact (step_iff _ (by omega) h (find_ne h)).trans ih
    · rw [if_neg h, if_neg h]; exact ih
theorem redTo_mul (A x : M) (r c : Nat) : ∀ n, mulM c (redTo r A B n).A x = (redTo r A (mulM c A x) n).B
  | 0 => rfl
  | n + 1 => by
    obtain ⟨h1, h2⟩ := redTo_A A B (mulM c A x) r n
    have ih := redTo_mul A x r c n
    unfold redTo redStep
    rw [h1, h2]
    rw [h1] at ih
    split
    · show mulM c (stepX _ _ _ _ _) x = stepX _ _ _ _ _
      rw [step_mul, ih]
    · rw [h1]; exact ih
theorem redTo_zero (A : M) (r : Nat) : ∀ n, (redTo r A (fun _ _ => 0) n).B = fun _ _ => 0
  | 0 => rfl
  | n + 1 => by
    have ih := redTo_zero A r n
    unfold redTo redStep
    rw [ih]
    split
    · exact step_zero _ _ _ _
    · exact ih
/-- What a step makes of its own columns. -/
theorem step_col {A : M} {a f n : Nat} (h0 : A f n ≠ 0) (i : Nat) : stepX A A a f n i n = if i = a then 1 else 0 := by
  have h1 : pivA A a f n a n = 1 := by
    unfold pivA scaleM swapM
    rw [if_pos rfl, if_pos rfl]; exact mul_inv h0
  unfold stepX elim
  by_cases e : i = a
  · rw [if_pos e, if_pos e, e]; exact h1
  · rw [if_neg e, if_neg e]
    show pivA A a f n i n ^^^ mul (pivA A a f n a n) (pivA A a f n i n) = 0
    rw [h1, one_mul, UInt8.xor_self]
theorem step_old {A : M} {a f n k : Nat} (h0 : A a k = 0) (hf : A f k = 0) (i : Nat) : stepX A A a f n i k = A i k := by
  have hs : ∀ i, swapM A a f i k = A i k := by
    intro i
    unfold swapM
    by_cases e : i = a
    · rw [if_pos e, e, h0, hf]
    · rw [if_neg e]
      by_cases e2 : i = f
      · rw [if_pos e2, e2, h0, hf]
      · rw [if_neg e2]
  have h1 : pivA A a f n a k = 0 := by
    unfold pivA scaleM
    rw [if_pos rfl, hs, h0, zero_mul]
  unfold stepX elim
  by_cases e : i = a
  · rw [if_pos e, e, h0]; exact h1
  · rw [if_neg e]
    show pivA A a f n i k ^^^ mul (pivA A a f n a k) _ = A i k
    rw [h1, zero_mul, UInt8.xor_zero]
    unfold pivA scaleM
    rw [if_neg e, hs]
structure Red (r n : Nat) (s : RS) : Prop where
  zero : ∀ i, s.at_ ≤ i → i < r → ∀ k, k < n → s.A i k = 0
  piv : ∀ j, j < s.at_ → ∃ k, k < n ∧ ∀ i, i < r → s.A i k = if i = j then 1 else 0
theorem red_any (A B : M) (r : Nat) : ∀ n, Red r n (redTo r A B n)
  | 0 => ⟨fun _ _ _ k hk => absurd hk (Nat.not_lt_zero _), fun j hj => absurd hj (Nat.not_lt_zero _)⟩
  | n + 1 => by
    have ih := red_any A B r n
    have ha := redTo_at (A := A) (B := B) (r := r) n
    unfold redTo redStep
    generalize redTo r A B n = s at ih ha
    by_cases h : find s.A r n s.at_ < r
    · rw [if_pos h]
      have hg := find_ge (A := s.A) (r := r) (k := n) (i := s.at_)
      have hne := find_ne h
      generalize find s.A r n s.at_ = f at h hg hne
      refine ⟨fun i hi hir k hk => ?_, fun j hj => ?_⟩
      · dsimp only at hi ⊢
        by_cases e : k = n
        · rw [e, step_col hne, if_neg (by omega)]
        · rw [step_old (ih.zero _ (Nat.le_refl _) (by omega) k (by omega)) (ih.zero _ hg h k (by omega))]
          exact ih.zero i (by omega) hir k (by omega)
      · dsimp only at hj ⊢
        by_cases e : j = s.at_
        · exact ⟨n, by omega, fun i _ => by rw [step_col hne, e]⟩
        · obtain ⟨k, hk, hd⟩ := ih.piv j (by omega)
          exact ⟨k, by omega, fun i hi => by rw [step_old (ih.zero _ (Nat.le_refl _) (by omega) k hk) (ih.zero _ hg h k hk)]; exact hd i hi⟩
    · rw [if_neg h]
      refine ⟨fun i hi hir k hk => ?_, fun j hj => ?_⟩
      · by_cases e : k = n
        · rw [e]; exact find_zero (A := s.A) (r := r) (k := n) hi (by omega)
        · exact ih.zero i hi hir k (by omega)
      · obtain ⟨k, hk, hd⟩ := ih.piv j hj
        exact ⟨k, by omega, hd⟩
/-- With a pivot in each column. -/
theorem red_diag (A B : M) (r : Nat) : ∀ n, (redTo r A B n).at_ = n → ∀ k, k < n → ∀ i, i < r → (redTo r A B n).A i k = if i = k then 1 else 0
  | 0 => fun _ k hk => absurd hk (Nat.not_lt_zero _)
  | n + 1 => by
    have ih := red_diag A B r n
    have hr := red_any A B r n
    have ha := redTo_at (A := A) (B := B) (r := r) n
    intro hat k hk i hi
    unfold redTo redStep at hat ⊢
    generalize redTo r A B n = s at ih ha hat hr
    by_cases h : find s.A r n s.at_ < r
    · rw [if_pos h] at hat ⊢
      have hat2 : s.at_ + 1 = n + 1 := hat
      have hg := find_ge (A := s.A) (r := r) (k := n) (i := s.at_)
      have hne := find_ne h
      generalize find s.A r n s.at_ = f at h hg hne
      dsimp only
      by_cases e : k = n
      · rw [e, step_col hne]
        rw [show s.at_ = n by omega]
      · rw [step_old (hr.zero _ (Nat.le_refl _) (by omega) k (by omega)) (hr.zero _ hg h k (by omega))]
        exact ih (by omega) k (by omega) i hi
    · rw [if_neg h] at hat
      omega
theorem at_mono {m n : Nat} (h : m ≤ n) : (redTo r A B m).at_ ≤ (redTo r A B n).at_ := by
  induction n with
  | zero => rw [show m = 0 by omega]; exact Nat.le_refl _
  | succ n ih =>
    by_cases e : m = n + 1
    · rw [e]; exact Nat.le_refl _
    · refine Nat.le_trans (ih (by omega)) ?_
      show _ ≤ (redStep r n (redTo r A B n)).at_
      unfold redStep
      split
      · exact Nat.le_succ _
      · exact Nat.le_refl _
/-- A row times a column. -/
def dot (c : Nat) (f y : Nat → UInt8) : UInt8 := xsum c fun j => mul (f j) (y j)
/-- Where fewer pivots are than columns something is sent to nought. -/
theorem ker_any (A : M) (r : Nat) : ∀ c, (redTo r A (fun _ _ => 0) c).at_ < c → ∃ y : Nat → UInt8, (∃ j, j < c ∧ y j ≠ 0) ∧ ∀ i, i < r → dot c (A i) y = 0
  | 0 => fun h => absurd h (Nat.not_lt_zero _)
  | c + 1 => by
    intro h
    have ih := ker_any A r c
    by_cases hc : (redTo r A (fun _ _ => 0) c).at_ < c
    · obtain ⟨y, ⟨j, hj, hy⟩, h0⟩ := ih hc
      refine ⟨fun k => if k < c then y k else 0, ⟨j, by omega, by dsimp only; rw [if_pos hj]; exact hy⟩, fun i hi => ?_⟩
      have h1 := h0 i hi
      unfold dot at h1 ⊢
      show xsum c _ ^^^ _ = 0
      dsimp only
      rw [xsum_congr (g := fun j => mul (A i j) (y j)) fun j hj => by rw [if_pos hj], h1, if_neg (by omega), mul_zero]; rfl
    · have ha := redTo_at (A := A) (B := fun _ _ => 0) (r := r) c
      have hd := red_diag A (fun _ _ => 0) r c (by omega)
      have hm := redTo_mul (B := fun _ _ => 0) A (fun j _ => if j = c then 1 else if j < c then (redTo r A (fun _ _ => 0) c).A j c else 0) r (c + 1) c
      have hi := redTo_iff A (mulM (c + 1) A (fun j _ => if j = c then 1 else if j < c then (redTo r A (fun _ _ => 0) c).A j c else 0)) (fun _ _ => 0) r 0 c
      rw [← hm, redTo_zero] at hi
      have hz : ∀ i, i < r → c ≤ i → (redTo r A (fun _ _ => 0) c).A i c = 0 := by
        intro i h1 h2
        unfold redTo redStep at h
        by_cases hf : find (redTo r A (fun _ _ => 0) c).A r c (redTo r A (fun _ _ => 0) c).at_ < r
        · rw [if_pos hf] at h
          have : (redTo r A (fun _ _ => 0) c).at_ + 1 < c + 1 := h
          omega
        · exact find_zero (A := (redTo r A (fun _ _ => 0) c).A) (r := r) (k := c) (i := (redTo r A (fun _ _ => 0) c).at_) (by omega) (by omega)
      clear hm ih h
      generalize redTo r A (fun _ _ => 0) c = s at ha hd hi hz
      refine ⟨fun j => if j = c then 1 else if j < c then s.A j c else 0, ⟨c, by omega, by (try dsimp only); rw [if_pos rfl]; decide⟩, fun i hir => hi.1 (fun i hir => ?_) i hir⟩
      show xsum c _ ^^^ _ = 0
      (try dsimp only)
      rw [if_pos rfl, mul_one]
      by_cases e : i < c
      · rw [xsum_one e fun j hj hne => by (try dsimp only); rw [hd j hj i hir, if_neg (Ne.symm hne), zero_mul]]
        (try dsimp only)
        rw [hd i e i hir, if_pos rfl, one_mul, if_neg (by omega), if_pos e, UInt8.xor_self]
      · rw [xsum_zero fun j hj => by (try dsimp only); rw [hd j hj i hir, if_neg (by omega), zero_mul], hz i hir (by omega)]; rfl
/-- More unknowns than equations. -/
theorem more_unknowns (C : M) {d t : Nat} (h : d < t) : ∃ y : Nat → UInt8, (∃ j, j < t ∧ y j ≠ 0) ∧ ∀ i, i < d → dot t (C i) y = 0 := by
  have := (redTo_at (A := C) (B := fun _ _ => 0) (r := d) t).1
  exact ker_any C d t (by omega)
theorem dot_sum (c t : Nat) (f : Nat → UInt8) (p : Nat → Nat) (z : Nat → UInt8) (hp : ∀ l, l < t → p l < c) : dot c f (fun k => xsum t fun l => if p l = k then z l else 0) = dot t (fun l => f (p l)) z := by
  unfold dot
  rw [xsum_congr fun k _ => mul_xsum (f k) t fun l => if p l = k then z l else 0, xsum_swap]
  refine xsum_congr fun l hl => ?_
  rw [xsum_one (hp l hl) fun k _ hk => by rw [if_neg (Ne.symm hk), mul_zero], if_pos rfl]
/-- Where d rows send to nought only what r rows do, there are no more pivots than d. -/
theorem rank_le {d : Nat} (A D : M) (r c : Nat) (h : ∀ y, (∀ i, i < d → dot c (D i) y = 0) → ∀ i, i < r → dot c (A i) y = 0) : (redTo r A (fun _ _ => 0) c).at_ ≤ d := by
  refine Nat.le_of_not_lt fun hlt => ?_
  have hr := red_any A (fun _ _ => 0) r c
  have ha := redTo_at (A := A) (B := fun _ _ => 0) (r := r) c
  have hmul := fun x => redTo_mul (B := fun _ _ => 0) A x r c c
  have hif := fun B => redTo_iff A B (fun _ _ => 0) r 0 c
  rw [redTo_zero] at hif
  generalize redTo r A (fun _ _ => 0) c = s at hlt hr ha hmul hif
  obtain ⟨p, hp⟩ : ∃ p : Nat → Nat, ∀ j, j < s.at_ → p j < c ∧ ∀ i, i < r → s.A i (p j) = if i = j then 1 else 0 := by
    refine ⟨fun j => if hj : j < s.at_ then (hr.piv j hj).choose else 0, fun j hj => ?_⟩
    (try dsimp only)
    rw [dif_pos hj]
    exact (hr.piv j hj).choose_spec
  obtain ⟨z, ⟨j, hj, hz⟩, h0⟩ := more_unknowns (fun i l => D i (p l)) hlt
  have h1 := h (fun k => xsum s.at_ fun l => if p l = k then z l else 0) fun i hi => by
    rw [dot_sum c s.at_ (D i) p z fun l hl => (hp l hl).1]; exact h0 i hi
  have h2 := (hif (mulM c A fun k _ => xsum s.at_ fun l => if p l = k then z l else 0)).2 fun i hi => h1 i hi
  rw [← hmul] at h2
  have h3 : dot c (s.A j) (fun k => xsum s.at_ fun l => if p l = k then z l else 0) = 0 := h2 j (by omega)
  rw [dot_sum c s.at_ (s.A j) p z fun l hl => (hp l hl).1] at h3
  unfold dot at h3
  rw [xsum_one hj fun l hl hne => by (try dsimp only); rw [(hp l hl).2 j (by omega), if_neg (Ne.symm hne), zero_mul]] at h3
  dsimp only at h3
  rw [(hp j hj).2 j (by omega), if_pos rfl, one_mul] at h3
  exact hz h3
/-- Solutions: what is found is one, and what is one is found. -/
theorem sol_unique {x : M} {k : Nat} (ha : (redTo r A B c).at_ = c) (h : ∀ i, i < r → mulM c A x i k = B i k) : (∀ i, i < c → (redTo r A B c).B i k = x i k) ∧ ∀ i, c ≤ i → i < r → (redTo r A B c).B i k = 0 := by
  have h1 := (redTo_iff A (mulM c A x) B r k c).2 h
  rw [← redTo_mul (B := B)] at h1
  have h2 := red_diag A B r c ha
  have h3 := redTo_at (A := A) (B := B) (r := r) c
  refine ⟨fun i hi => ?_, fun i hi hir => ?_⟩
  · rw [← h1 i (by omega)]
    unfold mulM
    rw [xsum_one hi fun j hj hne => by (try dsimp only); rw [h2 j hj i (by omega), if_neg (Ne.symm hne), zero_mul]]
    (try dsimp only)
    rw [h2 i hi i (by omega), if_pos rfl, one_mul]
  · rw [← h1 i hir]
    unfold mulM
    exact xsum_zero fun j hj => by rw [h2 j hj i hir, if_neg (by omega), zero_mul]
theorem sol_is {k : Nat} (ha : (redTo r A B c).at_ = c) (hz : ∀ i, c ≤ i → i < r → (redTo r A B c).B i k = 0) : ∀ i, i < r → mulM c A (redTo r A B c).B i k = B i k := by
  refine (redTo_iff A (mulM c A (redTo r A B c).B) B r k c).1 ?_
  rw [← redTo_mul (B := B)]
  have h2 := red_diag A B r c ha
  have h3 := redTo_at (A := A) (B := B) (r := r) c
  intro i hir
  unfold mulM
  by_cases e : i < c
  · rw [xsum_one e fun j hj hne => by (try dsimp only); rw [h2 j hj i (by omega), if_neg (Ne.symm hne), zero_mul]]
    (try dsimp only)
    rw [h2 i e i (by omega), if_pos rfl, one_mul]
  · rw [hz i (by omega) hir]
    exact xsum_zero fun j hj => by rw [h2 j hj i hir, if_neg (by omega), zero_mul]
end
end Go.Proofs.Ythdapoipfnnaeaa.Mx
