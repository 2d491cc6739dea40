/- Texts of a claim, one behind another. -/
import Derived.Test.YthdapoipfnnaeaaSq
import Derived.Test.YthdapoipfnnaeaaSq3
import Derived.Test.YthdapoipfnnaeaaQLawMatrixKnown2
import Derived.Test.YthdapoipfnnaeaaRng2
import Derived.Test.YthdapoipfnnaeaaFdRef
import Derived.Laws.CopyRow
import Derived.Deep.DeepCutAuto
set_option linter.unusedSimpArgs false
set_option linter.unusedVariables false
/- Linear algebra, plain: products; what the reduced form tells. -/
namespace Go.Proofs.Ythdapoipfnnaeaa.Mx
open Gf
set_option linter.unusedVariables false
set_option linter.unusedSectionVars false

theorem xsum_zero {n : Nat} {f : Nat → UInt8} (h : ∀ j, j < n → f j = 0) : xsum n f = 0 := by
 induction n with
 | zero => rfl
 | succ n ih => unfold xsum; rw [ih fun j hj => h j (by omega), h n (by omega)]; rfl
theorem xsum_xor (n : Nat) (f g : Nat → UInt8) : xsum n (fun j => f j ^^^ g j) = xsum n f ^^^ xsum n g := by
 induction n with
 | zero => show (0 : UInt8) = 0 ^^^ 0; decide
 | succ n ih => unfold xsum; rw [ih, Pl.xor4]
theorem mul_xsum (c : UInt8) (n : Nat) (f : Nat → UInt8) : mul c (xsum n f) = xsum n fun j => mul c (f j) := by
 induction n with
 | zero => exact mul_zero c
 | succ n ih => unfold xsum; rw [mul_xor, ih]
theorem xsum_mul (c : UInt8) (n : Nat) (f : Nat → UInt8) : mul (xsum n f) c = xsum n fun j => mul (f j) c := by
 rw [mul_comm, mul_xsum]; exact xsum_congr fun j _ => mul_comm _ _
theorem xsum_swap (m n : Nat) (f : Nat → Nat → UInt8) : xsum m (fun i => xsum n fun j => f i j) = xsum n fun j => xsum m fun i => f i j := by
 induction m with
 | zero => exact (xsum_zero fun j _ => rfl).symm
 | succ m ih =>
  show xsum m (fun i => xsum n fun j => f i j) ^^^ xsum n (fun j => f m j) = _
  rw [ih, ← xsum_xor]; rfl
theorem xsum_one {n k : Nat} (hk : k < n) {f : Nat → UInt8} (h : ∀ j, j < n → j ≠ k → f j = 0) : xsum n f = f k := by
 induction n with
 | zero => omega
 | succ n ih =>
  unfold xsum
  by_cases e : k = n
  ·subst e
   rw [xsum_zero fun j hj => h j (by omega) (by omega), UInt8.zero_xor]
  ·rw [ih (by omega) fun j hj hj2 => h j (by omega) hj2, h n (by omega) (by omega), UInt8.xor_zero]
theorem mulM_assoc (c d : Nat) (a b e : M) (i k : Nat) : mulM d (mulM c a b) e i k = mulM c a (mulM d b e) i k := by
 unfold mulM
 rw [xsum_congr fun j _ => xsum_mul (e j k) c fun l => mul (a i l) (b l j), xsum_swap]
 refine xsum_congr fun l _ => ?_
 rw [mul_xsum]
 exact xsum_congr fun j _ => mul_assoc _ _ _
def idm' : M := fun i k => if i = k then 1 else 0
theorem mulM_id {c k : Nat} (a : M) (i : Nat) (hk : k < c) : mulM c a idm' i k = a i k := by
 unfold mulM
 rw [xsum_one hk fun j _ hj => by unfold idm'; rw [if_neg hj, mul_zero]]
 unfold idm'; rw [if_pos rfl, mul_one]
theorem id_mulM {r i : Nat} (a : M) (hi : i < r) (k : Nat) : mulM r idm' a i k = a i k := by
 unfold mulM
 rw [xsum_one hi fun j _ hj => by unfold idm'; rw [if_neg (Ne.symm hj), zero_mul]]
 unfold idm'; rw [if_pos rfl, one_mul]
theorem mulM_turn (c : Nat) (a b : M) (i k : Nat) : mulM c a b k i = mulM c (fun x y => b y x) (fun x y => a y x) i k := xsum_congr fun j _ => mul_comm _ _

/-! Steps by rows. -/
section
variable {r c a b i k : Nat} {X X' : M}
theorem swap_iff (ha : a < r) (hb : b < r) : (∀ i, i < r → swapM X a b i k = swapM X' a b i k) ↔ ∀ i, i < r → X i k = X' i k := by
 unfold swapM
 constructor
 ·intro h i hi
  by_cases e : i = b
  ·have := h a ha
   rwa [if_pos rfl, if_pos rfl, ← e] at this
  ·by_cases e2 : i = a
   ·have := h b hb
    by_cases e3 : b = a
    ·omega
    ·rwa [if_neg e3, if_neg e3, if_pos rfl, if_pos rfl, ← e2] at this
   ·have := h i hi
    rwa [if_neg e2, if_neg e2, if_neg e, if_neg e] at this
 ·intro h i hi
  by_cases e : i = a
  ·rw [if_pos e, if_pos e]; exact h b hb
  ·rw [if_neg e, if_neg e]
   by_cases e2 : i = b
   ·rw [if_pos e2, if_pos e2]; exact h a ha
   ·rw [if_neg e2, if_neg e2]; exact h i hi
theorem scale_iff {v : UInt8} (hv : v ≠ 0) : (∀ i, i < r → scaleM X a v i k = scaleM X' a v i k) ↔ ∀ i, i < r → X i k = X' i k := by
 unfold scaleM
 constructor
 ·intro h i hi
  have := h i hi
  by_cases e : i = a
  ·rw [if_pos e, if_pos e] at this
   have h2 := congrArg (fun z => mul z (inv v)) this
   simpa only [mul_assoc, mul_inv hv, mul_one] using h2
  ·rwa [if_neg e, if_neg e] at this
 ·intro h i hi
  rw [h i hi]
theorem elim_iff (t : Nat → UInt8) (ha : a < r) : (∀ i, i < r → elim t X a i k = elim t X' a i k) ↔ ∀ i, i < r → X i k = X' i k := by
 unfold elim
 constructor
 ·intro h i hi
  have h0 := h a ha
  rw [if_pos rfl, if_pos rfl] at h0
  have := h i hi
  by_cases e : i = a
  ·rwa [if_pos e, if_pos e] at this
  ·rw [if_neg e, if_neg e, h0] at this
   have h2 := congrArg (fun z => z ^^^ mul (X' a k) (t i)) this
   simpa only [UInt8.xor_assoc, UInt8.xor_self, UInt8.xor_zero] using h2
 ·intro h i hi
  rw [h i hi, h a ha]
theorem step_iff (A : M) {f n : Nat} (ha : a < r) (hf : f < r) (h0 : A f n ≠ 0) : (∀ i, i < r → stepX A X a f n i k = stepX A X' a f n i k) ↔ ∀ i, i < r → X i k = X' i k :=
 (elim_iff _ ha).trans ((scale_iff (inv_ne h0)).trans (swap_iff ha hf))
theorem mulM_swap (X x : M) (a b : Nat) : mulM c (swapM X a b) x = swapM (mulM c X x) a b := by
 funext i k
 unfold mulM swapM
 by_cases e : i = a
 ·simp only [if_pos e]
 ·simp only [if_neg e]
  by_cases e2 : i = b
  ·simp only [if_pos e2]
  ·simp only [if_neg e2]
theorem mulM_scale (X x : M) (a : Nat) (v : UInt8) : mulM c (scaleM X a v) x = scaleM (mulM c X x) a v := by
 funext i k
 unfold mulM scaleM
 by_cases e : i = a
 ·simp only [if_pos e]
  rw [xsum_mul]
  exact xsum_congr fun j _ => by rw [mul_assoc, mul_comm v, mul_assoc]
 ·simp only [if_neg e]
theorem mulM_elim (t : Nat → UInt8) (X x : M) (a : Nat) : mulM c (elim t X a) x = elim t (mulM c X x) a := by
 funext i k
 unfold mulM elim
 by_cases e : i = a
 ·simp only [if_pos e]
 ·simp only [if_neg e]
  rw [xsum_mul, ← xsum_xor]
  exact xsum_congr fun j _ => by rw [xor_mul, mul_assoc, mul_assoc, mul_comm (t i)]
theorem step_mul (A X x : M) (a f n : Nat) : mulM c (stepX A X a f n) x = stepX A (mulM c X x) a f n := by
 unfold stepX pivB
 rw [mulM_elim, mulM_scale, mulM_swap]
theorem step_zero (A : M) (a f n : Nat) : stepX A (fun _ _ => 0) a f n = fun _ _ => 0 := by
 have h : pivB A (fun _ _ => 0) a f n = fun _ _ => 0 := by
  funext i k
  unfold pivB scaleM swapM
  simp only [ite_self, zero_mul]
 funext i k
 unfold stepX elim
 rw [h]
 simp only [zero_mul, UInt8.xor_zero, ite_self]
end
/-! The reduced form. -/
section
variable {A B B' : M} {r c n : Nat}
theorem redTo_A (A B B' : M) (r : Nat) : ∀ n, (redTo r A B n).A = (redTo r A B' n).A ∧ (redTo r A B n).at_ = (redTo r A B' n).at_
 | 0 => ⟨rfl, rfl⟩
 | n + 1 => by
  obtain ⟨h1, h2⟩ := redTo_A A B B' r n
  unfold redTo redStep
  rw [h1, h2]
  split
  ·exact ⟨rfl, rfl⟩
  ·exact ⟨h1, h2⟩
theorem redTo_iff (A B B' : M) (r k : Nat) : ∀ n, (∀ i, i < r → (redTo r A B n).B i k = (redTo r A B' n).B i k) ↔ ∀ i, i < r → B i k = B' i k
 | 0 => Iff.rfl
 | n + 1 => by
  obtain ⟨h1, h2⟩ := redTo_A A B B' r n
  have ih := redTo_iff A B B' r k n
  have ha := (redTo_at (A := A) (B := B') (r := r) n).1
  unfold redTo redStep
  rw [h1, h2]
  by_cases h : find (redTo r A B' n).A r n (redTo r A B' n).at_ < r
  ·rw [if_pos h, if_pos h]
   have := find_ge (A := (redTo r A B' n).A) (r := r) (k := n) (i := (redTo r A B' n).at_)
   exact (step_iff _ (by omega) h (find_ne h)).trans ih
  ·rw [if_neg h, if_neg h]; exact ih
theorem redTo_mul (A x : M) (r c : Nat) : ∀ n, mulM c (redTo r A B n).A x = (redTo r A (mulM c A x) n).B
 | 0 => rfl
 | n + 1 => by
  obtain ⟨h1, h2⟩ := redTo_A A B (mulM c A x) r n
  have ih := redTo_mul A x r c n
  unfold redTo redStep
  rw [h1, h2]
  rw [h1] at ih
  split
  ·show mulM c (stepX _ _ _ _ _) x = stepX _ _ _ _ _
   rw [step_mul, ih]
  ·rw [h1]; exact ih
theorem redTo_zero (A : M) (r : Nat) : ∀ n, (redTo r A (fun _ _ => 0) n).B = fun _ _ => 0
 | 0 => rfl
 | n + 1 => by
  have ih := redTo_zero A r n
  unfold redTo redStep
  rw [ih]
  split
  ·exact step_zero _ _ _ _
  ·exact ih
/-- What a step makes of its own columns. -/
theorem step_col {A : M} {a f n : Nat} (h0 : A f n ≠ 0) (i : Nat) : stepX A A a f n i n = if i = a then 1 else 0 := by
 have h1 : pivA A a f n a n = 1 := by
  unfold pivA scaleM swapM
  rw [if_pos rfl, if_pos rfl]; exact mul_inv h0
 unfold stepX elim
 by_cases e : i = a
 ·rw [if_pos e, if_pos e, e]; exact h1
 ·rw [if_neg e, if_neg e]
  show pivA A a f n i n ^^^ mul (pivA A a f n a n) (pivA A a f n i n) = 0
  rw [h1, one_mul, UInt8.xor_self]
theorem step_old {A : M} {a f n k : Nat} (h0 : A a k = 0) (hf : A f k = 0) (i : Nat) : stepX A A a f n i k = A i k := by
 have hs : ∀ i, swapM A a f i k = A i k := by
  intro i
  unfold swapM
  by_cases e : i = a
  ·rw [if_pos e, e, h0, hf]
  ·rw [if_neg e]
   by_cases e2 : i = f
   ·rw [if_pos e2, e2, h0, hf]
   ·rw [if_neg e2]
 have h1 : pivA A a f n a k = 0 := by
  unfold pivA scaleM
  rw [if_pos rfl, hs, h0, zero_mul]
 unfold stepX elim
 by_cases e : i = a
 ·rw [if_pos e, e, h0]; exact h1
 ·rw [if_neg e]
  show pivA A a f n i k ^^^ mul (pivA A a f n a k) _ = A i k
  rw [h1, zero_mul, UInt8.xor_zero]
  unfold pivA scaleM
  rw [if_neg e, hs]
structure Red (r n : Nat) (s : RS) : Prop where
 zero : ∀ i, s.at_ ≤ i → i < r → ∀ k, k < n → s.A i k = 0
 piv : ∀ j, j < s.at_ → ∃ k, k < n ∧ ∀ i, i < r → s.A i k = if i = j then 1 else 0
theorem red_any (A B : M) (r : Nat) : ∀ n, Red r n (redTo r A B n)
 | 0 => ⟨fun _ _ _ k hk => absurd hk (Nat.not_lt_zero _), fun j hj => absurd hj (Nat.not_lt_zero _)⟩
 | n + 1 => by
  have ih := red_any A B r n
  have ha := redTo_at (A := A) (B := B) (r := r) n
  unfold redTo redStep
  generalize redTo r A B n = s at ih ha
  by_cases h : find s.A r n s.at_ < r
  ·rw [if_pos h]
   have hg := find_ge (A := s.A) (r := r) (k := n) (i := s.at_)
   have hne := find_ne h
   generalize find s.A r n s.at_ = f at h hg hne
   refine ⟨fun i hi hir k hk => ?_, fun j hj => ?_⟩
   ·dsimp only at hi ⊢
    by_cases e : k = n
    ·rw [e, step_col hne, if_neg (by omega)]
    ·rw [step_old (ih.zero _ (Nat.le_refl _) (by omega) k (by omega)) (ih.zero _ hg h k (by omega))]
     exact ih.zero i (by omega) hir k (by omega)
   ·dsimp only at hj ⊢
    by_cases e : j = s.at_
    ·exact ⟨n, by omega, fun i _ => by rw [step_col hne, e]⟩
    ·obtain ⟨k, hk, hd⟩ := ih.piv j (by omega)
     exact ⟨k, by omega, fun i hi => by rw [step_old (ih.zero _ (Nat.le_refl _) (by omega) k hk) (ih.zero _ hg h k hk)]; exact hd i hi⟩
  ·rw [if_neg h]
   refine ⟨fun i hi hir k hk => ?_, fun j hj => ?_⟩
   ·by_cases e : k = n
    ·rw [e]; exact find_zero (A := s.A) (r := r) (k := n) hi (by omega)
    ·exact ih.zero i hi hir k (by omega)
   ·obtain ⟨k, hk, hd⟩ := ih.piv j hj
    exact ⟨k, by omega, hd⟩
/-- With a pivot in each column. -/
theorem red_diag (A B : M) (r : Nat) : ∀ n, (redTo r A B n).at_ = n → ∀ k, k < n → ∀ i, i < r → (redTo r A B n).A i k = if i = k then 1 else 0
 | 0 => fun _ k hk => absurd hk (Nat.not_lt_zero _)
 | n + 1 => by
  have ih := red_diag A B r n
  have hr := red_any A B r n
  have ha := redTo_at (A := A) (B := B) (r := r) n
  intro hat k hk i hi
  unfold redTo redStep at hat ⊢
  generalize redTo r A B n = s at ih ha hat hr
  by_cases h : find s.A r n s.at_ < r
  ·rw [if_pos h] at hat ⊢
   have hat2 : s.at_ + 1 = n + 1 := hat
   have hg := find_ge (A := s.A) (r := r) (k := n) (i := s.at_)
   have hne := find_ne h
   generalize find s.A r n s.at_ = f at h hg hne
   dsimp only
   by_cases e : k = n
   ·rw [e, step_col hne]
    rw [show s.at_ = n by omega]
   ·rw [step_old (hr.zero _ (Nat.le_refl _) (by omega) k (by omega)) (hr.zero _ hg h k (by omega))]
    exact ih (by omega) k (by omega) i hi
  ·rw [if_neg h] at hat
   omega
theorem at_mono {m n : Nat} (h : m ≤ n) : (redTo r A B m).at_ ≤ (redTo r A B n).at_ := by
 induction n with
 | zero => rw [show m = 0 by omega]; exact Nat.le_refl _
 | succ n ih =>
  by_cases e : m = n + 1
  ·rw [e]; exact Nat.le_refl _
  ·refine Nat.le_trans (ih (by omega)) ?_
   show _ ≤ (redStep r n (redTo r A B n)).at_
   unfold redStep
   split
   ·exact Nat.le_succ _
   ·exact Nat.le_refl _
/-- A row times a column. -/
def dot (c : Nat) (f y : Nat → UInt8) : UInt8 := xsum c fun j => mul (f j) (y j)
/-- Where fewer pivots are than columns something is sent to nought. -/
theorem ker_any (A : M) (r : Nat) : ∀ c, (redTo r A (fun _ _ => 0) c).at_ < c → ∃ y : Nat → UInt8, (∃ j, j < c ∧ y j ≠ 0) ∧ ∀ i, i < r → dot c (A i) y = 0
 | 0 => fun h => absurd h (Nat.not_lt_zero _)
 | c + 1 => by
  intro h
  have ih := ker_any A r c
  by_cases hc : (redTo r A (fun _ _ => 0) c).at_ < c
  ·obtain ⟨y, ⟨j, hj, hy⟩, h0⟩ := ih hc
   refine ⟨fun k => if k < c then y k else 0, ⟨j, by omega, by dsimp only; rw [if_pos hj]; exact hy⟩, fun i hi => ?_⟩
   have h1 := h0 i hi
   unfold dot at h1 ⊢
   show xsum c _ ^^^ _ = 0
   dsimp only
   rw [xsum_congr (g := fun j => mul (A i j) (y j)) fun j hj => by rw [if_pos hj], h1, if_neg (by omega), mul_zero]; rfl
  ·have ha := redTo_at (A := A) (B := fun _ _ => 0) (r := r) c
   have hd := red_diag A (fun _ _ => 0) r c (by omega)
   have hm := redTo_mul (B := fun _ _ => 0) A (fun j _ => if j = c then 1 else if j < c then (redTo r A (fun _ _ => 0) c).A j c else 0) r (c + 1) c
   have hi := redTo_iff A (mulM (c + 1) A (fun j _ => if j = c then 1 else if j < c then (redTo r A (fun _ _ => 0) c).A j c else 0)) (fun _ _ => 0) r 0 c
   rw [← hm, redTo_zero] at hi
   have hz : ∀ i, i < r → c ≤ i → (redTo r A (fun _ _ => 0) c).A i c = 0 := by
    intro i h1 h2
    unfold redTo redStep at h
    by_cases hf : find (redTo r A (fun _ _ => 0) c).A r c (redTo r A (fun _ _ => 0) c).at_ < r
    ·rw [if_pos hf] at h
     have : (redTo r A (fun _ _ => 0) c).at_ + 1 < c + 1 := h
     omega
    ·exact find_zero (A := (redTo r A (fun _ _ => 0) c).A) (r := r) (k := c) (i := (redTo r A (fun _ _ => 0) c).at_) (by omega) (by omega)
   clear hm ih h
   generalize redTo r A (fun _ _ => 0) c = s at ha hd hi hz
   refine ⟨fun j => if j = c then 1 else if j < c then s.A j c else 0, ⟨c, by omega, by (try dsimp only); rw [if_pos rfl]; decide⟩, fun i hir => hi.1 (fun i hir => ?_) i hir⟩
   show xsum c _ ^^^ _ = 0
   (try dsimp only)
   rw [if_pos rfl, mul_one]
   by_cases e : i < c
   ·rw [xsum_one e fun j hj hne => by (try dsimp only); rw [hd j hj i hir, if_neg (Ne.symm hne), zero_mul]]
    (try dsimp only)
    rw [hd i e i hir, if_pos rfl, one_mul, if_neg (by omega), if_pos e, UInt8.xor_self]
   ·rw [xsum_zero fun j hj => by (try dsimp only); rw [hd j hj i hir, if_neg (by omega), zero_mul], hz i hir (by omega)]; rfl
/-- More unknowns than equations. -/
theorem more_unknowns (C : M) {d t : Nat} (h : d < t) : ∃ y : Nat → UInt8, (∃ j, j < t ∧ y j ≠ 0) ∧ ∀ i, i < d → dot t (C i) y = 0 := by
 have := (redTo_at (A := C) (B := fun _ _ => 0) (r := d) t).1
 exact ker_any C d t (by omega)
theorem dot_sum (c t : Nat) (f : Nat → UInt8) (p : Nat → Nat) (z : Nat → UInt8) (hp : ∀ l, l < t → p l < c) : dot c f (fun k => xsum t fun l => if p l = k then z l else 0) = dot t (fun l => f (p l)) z := by
 unfold dot
 rw [xsum_congr fun k _ => mul_xsum (f k) t fun l => if p l = k then z l else 0, xsum_swap]
 refine xsum_congr fun l hl => ?_
 rw [xsum_one (hp l hl) fun k _ hk => by rw [if_neg (Ne.symm hk), mul_zero], if_pos rfl]
/-- Where d rows send to nought only what r rows do, there are no more pivots than d. -/
theorem rank_le {d : Nat} (A D : M) (r c : Nat) (h : ∀ y, (∀ i, i < d → dot c (D i) y = 0) → ∀ i, i < r → dot c (A i) y = 0) : (redTo r A (fun _ _ => 0) c).at_ ≤ d := by
 refine Nat.le_of_not_lt fun hlt => ?_
 have hr := red_any A (fun _ _ => 0) r c
 have ha := redTo_at (A := A) (B := fun _ _ => 0) (r := r) c
 have hmul := fun x => redTo_mul (B := fun _ _ => 0) A x r c c
 have hif := fun B => redTo_iff A B (fun _ _ => 0) r 0 c
 rw [redTo_zero] at hif
 generalize redTo r A (fun _ _ => 0) c = s at hlt hr ha hmul hif
 obtain ⟨p, hp⟩ : ∃ p : Nat → Nat, ∀ j, j < s.at_ → p j < c ∧ ∀ i, i < r → s.A i (p j) = if i = j then 1 else 0 := by
  refine ⟨fun j => if hj : j < s.at_ then (hr.piv j hj).choose else 0, fun j hj => ?_⟩
  (try dsimp only)
  rw [dif_pos hj]
  exact (hr.piv j hj).choose_spec
 obtain ⟨z, ⟨j, hj, hz⟩, h0⟩ := more_unknowns (fun i l => D i (p l)) hlt
 have h1 := h (fun k => xsum s.at_ fun l => if p l = k then z l else 0) fun i hi => by
  rw [dot_sum c s.at_ (D i) p z fun l hl => (hp l hl).1]; exact h0 i hi
 have h2 := (hif (mulM c A fun k _ => xsum s.at_ fun l => if p l = k then z l else 0)).2 fun i hi => h1 i hi
 rw [← hmul] at h2
 have h3 : dot c (s.A j) (fun k => xsum s.at_ fun l => if p l = k then z l else 0) = 0 := h2 j (by omega)
 rw [dot_sum c s.at_ (s.A j) p z fun l hl => (hp l hl).1] at h3
 unfold dot at h3
 rw [xsum_one hj fun l hl hne => by (try dsimp only); rw [(hp l hl).2 j (by omega), if_neg (Ne.symm hne), zero_mul]] at h3
 dsimp only at h3
 rw [(hp j hj).2 j (by omega), if_pos rfl, one_mul] at h3
 exact hz h3
/-- Solutions: what is found is one, and what is one is found. -/
theorem sol_unique {x : M} {k : Nat} (ha : (redTo r A B c).at_ = c) (h : ∀ i, i < r → mulM c A x i k = B i k) : (∀ i, i < c → (redTo r A B c).B i k = x i k) ∧ ∀ i, c ≤ i → i < r → (redTo r A B c).B i k = 0 := by
 have h1 := (redTo_iff A (mulM c A x) B r k c).2 h
 rw [← redTo_mul (B := B)] at h1
 have h2 := red_diag A B r c ha
 have h3 := redTo_at (A := A) (B := B) (r := r) c
 refine ⟨fun i hi => ?_, fun i hi hir => ?_⟩
 ·rw [← h1 i (by omega)]
  unfold mulM
  rw [xsum_one hi fun j hj hne => by (try dsimp only); rw [h2 j hj i (by omega), if_neg (Ne.symm hne), zero_mul]]
  (try dsimp only)
  rw [h2 i hi i (by omega), if_pos rfl, one_mul]
 ·rw [← h1 i hir]
  unfold mulM
  exact xsum_zero fun j hj => by rw [h2 j hj i hir, if_neg (by omega), zero_mul]
theorem sol_is {k : Nat} (ha : (redTo r A B c).at_ = c) (hz : ∀ i, c ≤ i → i < r → (redTo r A B c).B i k = 0) : ∀ i, i < r → mulM c A (redTo r A B c).B i k = B i k := by
 refine (redTo_iff A (mulM c A (redTo r A B c).B) B r k c).1 ?_
 rw [← redTo_mul (B := B)]
 have h2 := red_diag A B r c ha
 have h3 := redTo_at (A := A) (B := B) (r := r) c
 intro i hir
 unfold mulM
 by_cases e : i < c
 ·rw [xsum_one e fun j hj hne => by (try dsimp only); rw [h2 j hj i (by omega), if_neg (Ne.symm hne), zero_mul]]
  (try dsimp only)
  rw [h2 i e i (by omega), if_pos rfl, one_mul]
 ·rw [hz i (by omega) hir]
  exact xsum_zero fun j hj => by rw [h2 j hj i hir, if_neg (by omega), zero_mul]
end
end Go.Proofs.Ythdapoipfnnaeaa.Mx
/- Powers at places: how many pivots there are. -/
namespace Go.Proofs.Ythdapoipfnnaeaa.Mx
open Gf Pl
set_option linter.unusedVariables false
set_option linter.unusedSectionVars false

theorem pow_rp (a : UInt8) (n : Nat) : pow a (n : Int) = rp a n := by
 by_cases h : a = 0
 ·subst h
  cases n with
  | zero => rfl
  | succ n => rw [zero_pow (by omega)]; show 0 = mul (rp 0 n) 0; rw [mul_zero]
 ·rw [pow_pw h, rp_pw h]
  refine pw_cong ?_
  rw [show ((n : Int) % 255).toNat = n % 255 by omega, Nat.mul_mod, Nat.mod_mod, ← Nat.mul_mod]
theorem row_succ (n : Nat) (y : Nat → UInt8) : row (n + 1) y = row n y ++ [y n] := by unfold row; rw [List.range_succ, List.map_append]; rfl
theorem dot_ev (x : UInt8) (y : Nat → UInt8) : ∀ n, dot n (fun k => pow x (k : Int)) y = ev (row n y) x
 | 0 => rfl
 | n + 1 => by
  rw [row_succ, ev_snoc, ← dot_ev x y n, row_len, ← pow_rp, mul_comm]; rfl
/-- The unlike ones among the first m. -/
def unl (xs : List UInt8) : Nat → List UInt8
 | 0 => []
 | m + 1 => if xs.getD m 0 ∈ unl xs m then unl xs m else unl xs m ++ [xs.getD m 0]
theorem unl_len (xs : List UInt8) : ∀ m, (unl xs m).length ≤ m
 | 0 => Nat.le_refl _
 | m + 1 => by
  have := unl_len xs m
  unfold unl
  split
  ·omega
  ·rw [List.length_append, List.length_singleton]; omega
theorem unl_mem (xs : List UInt8) (x : UInt8) : ∀ m, x ∈ unl xs m ↔ ∃ i, i < m ∧ xs.getD i 0 = x
 | 0 => ⟨fun h => absurd h (by unfold unl; exact List.not_mem_nil), fun ⟨i, hi, _⟩ => absurd hi (Nat.not_lt_zero _)⟩
 | m + 1 => by
  have ih := unl_mem xs x m
  unfold unl
  constructor
  ·intro h
   split at h
   ·obtain ⟨i, hi, e⟩ := ih.1 h; exact ⟨i, by omega, e⟩
   ·rcases List.mem_append.1 h with h | h
    ·obtain ⟨i, hi, e⟩ := ih.1 h; exact ⟨i, by omega, e⟩
    ·exact ⟨m, by omega, (List.mem_singleton.1 h).symm⟩
  ·rintro ⟨i, hi, e⟩
   by_cases e2 : i = m
   ·subst e2
    split
    ·next h => rw [← e]; exact h
    ·rw [← e]; exact List.mem_append.2 (.inr (List.mem_singleton.2 rfl))
   ·have := ih.2 ⟨i, by omega, e⟩
    split
    ·exact this
    ·exact List.mem_append.2 (.inl this)
theorem unl_nodup (xs : List UInt8) : ∀ m, (unl xs m).Nodup
 | 0 => by unfold unl; exact List.nodup_nil
 | m + 1 => by
  have ih := unl_nodup xs m
  unfold unl
  split
  ·exact ih
  ·next h =>
   refine List.nodup_append.2 ⟨ih, by simp, fun a ha b hb => ?_⟩
   rw [List.mem_singleton.1 hb]
   exact fun e => h (e ▸ ha)
/-- Rows of powers have as many pivots as there are unlike places. -/
theorem van_rank (xs : List UInt8) (n : Nat) : (redTo n (fun i k => pow (xs.getD i 0) (k : Int)) (fun _ _ => 0) n).at_ = (unl xs n).length := by
 apply Nat.le_antisymm
 ·refine rank_le (d := (unl xs n).length) _ (fun i k => pow ((unl xs n).getD i 0) (k : Int)) n n fun y h i hi => ?_
  have hm : xs.getD i 0 ∈ unl xs n := (unl_mem xs _ n).2 ⟨i, hi, rfl⟩
  obtain ⟨j, hj, e⟩ := List.mem_iff_getElem.1 hm
  have h1 := h j hj
  (try dsimp only at h1)
  rw [List.getD_eq_getElem?_getD, List.getElem?_eq_getElem hj, Option.getD_some, e] at h1
  exact h1
 ·refine Nat.le_trans (Nat.le_of_not_lt fun hlt => ?_) (at_mono (unl_len xs n))
  obtain ⟨y, ⟨j, hj, hy⟩, h0⟩ := ker_any _ n _ hlt
  have hl : len (row (unl xs n).length y) ≠ 0 := fun e => hy (by
   have := len_zero.1 e j
   rwa [cf, List.getD_eq_getElem?_getD, row_get hj, Option.getD_some] at this)
  have h1 := roots_le (unl xs n) (row (unl xs n).length y) (unl_nodup xs n) hl fun x hx => by
   obtain ⟨i, hi, e⟩ := (unl_mem xs x n).1 hx
   rw [← dot_ev, ← e]
   exact h0 i hi
  have h2 := len_le (row (unl xs n).length y)
  rw [row_len] at h2
  omega
end Go.Proofs.Ythdapoipfnnaeaa.Mx
/- Matrices as a law holds them: rows of bytes, boxes, perhaps a field; what each call leaves of them. -/
namespace Go.Proofs.Ythdapoipfnnaeaa.MxW
open Go.RowKit Go.Shelf Mem Gf FdW Mx Rng
open PlW (In)
set_option linter.unusedVariables false
set_option linter.unusedSectionVars false

structure Rw where
 A : Option Addr
 l : List UInt8
 c : Nat
/-- Since w0 nothing that was there has turned; these rows are there, these boxes of matrices, this field. -/
structure MS (w0 : World) (p : Option Nat) (R : List Rw) (X : List (Nat × Array Value)) (w : World) : Prop where
 below : Below w0.heap.size w0 w
 fld : ∀ q, p = some q → w0.heap.size ≤ q ∧ Fld w q
 row : ∀ r ∈ R, Bytes w w.heap.size r.A r.l ∧ (∀ q, p = some q → ∀ b o, r.A = some ⟨b, o, none⟩ → 0 < r.l.length → b ≠ q) ∧ r.l.length ≤ r.c
 box : ∀ x ∈ X, (∃ T, Blk w x.1 T x.2) ∧ ∀ q, p = some q → x.1 ≠ q
def MatR (w0 : World) (p : Option Nat) (R : List Rw) (X : List (Nat × Array Value)) (r c : Int) (n : Nat) (l : List UInt8) (e : Ending) (w' : World) : Prop :=
 ∃ A cap, e = .returned (.tuple #[.agg #[.int .i64 r, .int .i64 c, .slice A n cap], .int .i64 0]) ∧ MS w0 p (⟨A, l, cap⟩ :: R) X w'
def MatO (w0 : World) (p : Option Nat) (R : List Rw) (X : List (Nat × Array Value)) (r c : Int) (n : Nat) (l : List UInt8) (e : Ending) (w' : World) : Prop :=
 ∃ A cap, e = .returned (.agg #[.int .i64 r, .int .i64 c, .slice A n cap]) ∧ MS w0 p (⟨A, l, cap⟩ :: R) X w'
def BytR (w0 : World) (p : Option Nat) (R : List Rw) (X : List (Nat × Array Value)) (n : Nat) (l : List UInt8) (e : Ending) (w' : World) : Prop :=
 ∃ A cap, e = .returned (.tuple #[.slice A n cap, .int .i64 0]) ∧ MS w0 p (⟨A, l, cap⟩ :: R) X w'
def SayM (w0 : World) (p : Option Nat) (R : List Rw) (X : List (Nat × Array Value)) (v : Value) (e : Ending) (w' : World) : Prop := e = .returned v ∧ MS w0 p R X w'
section
variable {w0 w w' : World} {p : Option Nat} {R : List Rw} {X : List (Nat × Array Value)}
theorem MS.start (w : World) : MS w none [] [] w := ⟨Below.refl _ _, fun _ h => (by cases h), fun _ h => (List.not_mem_nil h).elim, fun _ h => (List.not_mem_nil h).elim⟩
theorem MS.keep (h : MS w0 p R X w) (hb : Below w.heap.size w w') : MS w0 p R X w' :=
 ⟨h.below.trans (hb.mono h.below.size), fun q e => ⟨(h.fld q e).1, (h.fld q e).2.keep hb⟩, fun r hr => ⟨((h.row r hr).1.below hb).up hb.size, (h.row r hr).2⟩, fun x hx => ⟨(h.box x hx).1.imp fun _ k => k.keep hb, (h.box x hx).2⟩⟩
theorem MS.in_ {q : Nat} (h : MS w0 (some q) R X w) {r : Rw} (hr : r ∈ R) : In w q r.A r.l := ⟨(h.row r hr).1, (h.row r hr).2.1 q rfl⟩
theorem MS.fr {q : Nat} (h : MS w0 (some q) R X w) (hF : Fld w' q) (hf : Fr (fun k => k = q) w w') : MS w0 (some q) R X w' :=
 ⟨h.below.trans (hf.below h.below.size fun k hk => by rw [hk]; exact (h.fld q rfl).1), fun q' e => (by injection e with e; subst e; exact ⟨(h.fld q rfl).1, hF⟩),
  fun r hr => ⟨((h.in_ hr).field hf).1, (h.row r hr).2⟩, fun x hx => ⟨(h.box x hx).1.imp fun _ k => k.fr hf ((h.box x hx).2 q rfl), (h.box x hx).2⟩⟩
theorem MS.arg (h : MS w0 none R X w) {A : Option Addr} {l : List UInt8} {c : Nat} (hb : Bytes w0 w0.heap.size A l) (hc : l.length ≤ c) : MS w0 none (⟨A, l, c⟩ :: R) X w :=
 ⟨h.below, h.fld, fun r hr => by
  rcases List.mem_cons.1 hr with rfl | hr
  ·exact ⟨(hb.below h.below).up h.below.size, fun _ e => (by cases e), hc⟩
  ·exact h.row r hr, h.box⟩
/-- A new row. -/
theorem MS.new (h : MS w0 p R X w) {w1 : World} {A : Option Addr} {l : List UInt8} {c : Nat} (hn : Nw w1.heap.size w A l) (hq : ∀ q, p = some q → q < w1.heap.size) (hc : l.length ≤ c) : MS w0 p (⟨A, l, c⟩ :: R) X w :=
 ⟨h.below, h.fld, fun r hr => by
  rcases List.mem_cons.1 hr with rfl | hr
  ·exact ⟨hn.1, fun q e b o e2 hl => (by have := hn.2 b o e2 hl; have := hq q e; omega), hc⟩
  ·exact h.row r hr, h.box⟩
theorem MS.lt (h : MS w0 p R X w) : ∀ q, p = some q → q < w.heap.size := fun q e => (h.fld q e).2.lt
theorem MS.nilR (h : MS w0 p R X w) : MS w0 p (⟨none, [], 0⟩ :: R) X w := h.new (w1 := w) ⟨Bytes.nil, fun _ _ e => by cases e⟩ h.lt (Nat.le_refl _)
/-- A box more. -/
theorem MS.putT (h : MS w0 p R X w) (cs : Array Value) (T : TypeId) : MS w0 p R ((w.heap.size, cs) :: X) (w.alloc (.cells cs T)) := by
 have k := h.keep (nextA (Mem.start w) (.cells cs T))
 exact ⟨k.below, k.fld, k.row, fun x hx => by
  rcases List.mem_cons.1 hx with rfl | hx
  ·exact ⟨⟨T, Blk.new w _ _⟩, fun q e => by have := h.lt q e; dsimp only; omega⟩
  ·exact k.box x hx⟩
theorem MS.put (h : MS w0 p R X w) (cs : Array Value) : MS w0 p R ((w.heap.size, cs) :: X) (w.alloc (.cells cs 27)) := h.putT cs _
theorem MS.lit (h : MS w0 p R X w) (cs : Array Value) (l : List UInt8) (hm : cs.size ≤ maxLen) (e : cs.toList = l.map u8v) (c : Nat) (hc : l.length ≤ c) : MS w0 p (⟨some ⟨w.heap.size, 0, none⟩, l, c⟩ :: R) X (w.alloc (.cells cs 5)) := by
 have ho := own_made w cs 5 hm (base := w.heap.size) (Nat.le_refl _)
 rw [e] at ho
 exact (h.keep (nextA (Mem.start w) _)).new (w1 := w) (Nw.of_own ho) h.lt hc
theorem MS.cells (h : MS w0 p R X w) {g : Nat} {c0 c1 c2 : Value} (hx : (g, #[c0, c1, c2]) ∈ X) : w.cell? ⟨g, 0, none⟩ = some c0 ∧ w.cell? ⟨g, 1, none⟩ = some c1 ∧ w.cell? ⟨g, 2, none⟩ = some c2 := by
 obtain ⟨T, hb⟩ := (h.box _ hx).1
 exact (cells3 hb).1
theorem MS.blk (h : MS w0 p R X w) {g : Nat} {c0 c1 c2 : Value} (hx : (g, #[c0, c1, c2]) ∈ X) : (w.cell? ⟨g, 0, none⟩ = some c0 ∧ w.cell? ⟨g, 1, none⟩ = some c1 ∧ w.cell? ⟨g, 2, none⟩ = some c2) ∧ w.frozen? ⟨g, 0, none⟩ = false ∧ w.frozen? ⟨g, 1, none⟩ = false ∧ w.frozen? ⟨g, 2, none⟩ = false := by
 obtain ⟨T, hb⟩ := (h.box _ hx).1
 exact cells3 hb
theorem MS.out (h : MS w0 none R X w) (hb : Below w.heap.size w w') (q : Nat) (hF : Fld w' q) (hq : w.heap.size ≤ q) : MS w0 (some q) R X w' := by
 have k := h.keep hb
 refine ⟨k.below, fun q' e => (by injection e with e; subst e; exact ⟨Nat.le_trans h.below.size hq, hF⟩), fun r hr => ⟨(k.row r hr).1, fun q' e b o e2 hl => ?_, (k.row r hr).2.2⟩, fun x hx => ⟨(k.box x hx).1, fun q' e => ?_⟩⟩
 ·injection e with e
  obtain ⟨b', o', e', hlt, _⟩ := (h.row r hr).1 (by simpa using hl)
  rw [e2] at e'; injection e' with e'; injection e' with e' _
  omega
 ·injection e with e
  obtain ⟨T, hb⟩ := (h.box x hx).1
  have := hb.lt
  omega
/-- A box written. -/
theorem MS.set {g : Nat} {i0 i1 : Int} {B : Option Addr} {nn cc : Nat} (h : MS w0 p R ((g, #[.int .i64 i0, .int .i64 i1, .slice B nn cc]) :: X) w) (hg : w0.heap.size ≤ g) (hne : ∀ x ∈ X, x.1 ≠ g) (v0 v1 v2 : Value) :
    MS w0 p R ((g, #[v0, v1, v2]) :: X) (((w.setCell ⟨g, 0, none⟩ v0).setCell ⟨g, 1, none⟩ v1).setCell ⟨g, 2, none⟩ v2) := by
 obtain ⟨T, hb⟩ := (h.box _ mm0).1
 have hq := (h.box _ mm0).2
 obtain ⟨hb', hf⟩ := set3 hb v0 v1 v2
 refine ⟨h.below.trans (hf.below h.below.size fun k hk => by rw [hk]; exact hg), fun q e => ⟨(h.fld q e).1, (h.fld q e).2.fr hf (fun e2 => hq q e e2.symm)⟩, fun r hr => ⟨fun hl => ?_, (h.row r hr).2⟩, fun x hx => ?_⟩
 ·obtain ⟨b, off, e, hlt, hc⟩ := (h.row r hr).1 hl
  refine ⟨b, off, e, Nat.lt_of_lt_of_le hlt hf.size, fun j v hv => (World.cell?_of_block (hf.block b hlt fun e2 => ?_)).trans (hc j v hv)⟩
  dsimp only at e2
  subst e2
  have hl' : 0 < r.l.length := by simpa using hl
  have h1 := hc 0 (u8v r.l[0]) (by rw [List.getElem?_map, List.getElem?_eq_getElem hl']; rfl)
  obtain ⟨⟨k0, k1, k2⟩, _⟩ := cells3 hb
  rw [Nat.add_zero] at h1
  match off with
  | 0 => rw [k0] at h1; injection h1 with h1; injection h1 with h1 _; cases h1
  | 1 => rw [k1] at h1; injection h1 with h1; injection h1 with h1 _; cases h1
  | 2 => rw [k2] at h1; injection h1 with h1; cases h1
  | o + 3 => rw [hb.cell (o + 3), Array.getElem?_eq_none (by simp)] at h1; cases h1
 ·rcases List.mem_cons.1 hx with rfl | hx
  ·exact ⟨⟨T, hb'⟩, hq⟩
  ·exact ⟨(h.box x (.tail _ hx)).1.imp fun _ k => k.fr hf (hne x hx), (h.box x (.tail _ hx)).2⟩
theorem MS.far (h : MS w0 p R X w) : ∀ x ∈ X, x.1 ≠ w.heap.size := fun x hx => by obtain ⟨T, hb⟩ := (h.box x hx).1; have := hb.lt; omega
theorem newMx : NewRun Try.prog 27 #[.int .i64 0, .int .i64 0, .slice none 0 0] := fun w => by kernel_rfl
theorem newR (h : MS w0 none R X w) : Calls Try.prog 12 #[] w fun e w' => e = .returned (.pointer (some ⟨w.heap.size, 0, none⟩)) ∧ MS w0 (some w.heap.size) R X w' :=
 (newf_any w).mono fun e w' ⟨he, hF, hb, hs⟩ => ⟨he, h.out hb _ (.inl hF) (Nat.le_refl _)⟩
theorem right_dim {r c n : Nat} (h : r ≤ 100 ∧ c ≤ 100) (hn : n = r * c) : rightB r c n = true := by
 unfold rightB
 rw [decide_eq_true_iff]
 exact ⟨by omega, by omega, by omega, by omega, by rw [hn]; simp⟩
variable (h : MS w0 p R X w)
include h
section
variable {A B : Option Addr} {a b : List UInt8} {ca cb n m r c d : Nat} {ma mb : M} {R1 C1 R2 C2 : Int}
theorem smallR (t : Int) (ht : 0 ≤ t ∧ t ≤ 100) {v : Bool} (hv : smallB t R1 C1 n = v) : Calls Try.prog 16 #[.agg #[.int .i64 R1, .int .i64 C1, .slice A n ca], .int .i64 t] w (SayM w0 p R X (.bool v)) := by
 subst hv
 exact (small_any w t R1 C1 ht A n ca).mono fun e w' ⟨he, hb⟩ => ⟨he, h.keep hb⟩
theorem rightR {v : Bool} (hv : rightB R1 C1 n = v) : Calls Try.prog 26 #[.agg #[.int .i64 R1, .int .i64 C1, .slice A n ca]] w (SayM w0 p R X (.bool v)) := by
 subst hv
 exact (right_any w R1 C1 A n ca).mono fun e w' ⟨he, hb⟩ => ⟨he, h.keep hb⟩
theorem sameR (ha : ⟨A, a, ca⟩ ∈ R) (hn : a.length = n) (hb : ⟨B, b, cb⟩ ∈ R) (hm : b.length = m) {v : Bool} (hv : sameB R1 C1 R2 C2 a b = v) :
    Calls Try.prog 24 #[.agg #[.int .i64 R1, .int .i64 C1, .slice A n ca], .agg #[.int .i64 R2, .int .i64 C2, .slice B m cb]] w (SayM w0 p R X (.bool v)) := by
 subst hv
 exact (same_any w R1 C1 R2 C2 A B a b n ca m cb _ _ hn hm (Nat.le_refl _) (Nat.le_refl _) (h.row _ ha).1 (h.row _ hb).1).mono fun e w' ⟨he, hb⟩ => ⟨he, h.keep hb⟩
theorem sameBytesR (ha : ⟨A, a, ca⟩ ∈ R) (hn : a.length = n) (hb : ⟨B, b, cb⟩ ∈ R) (hm : b.length = m) {v : Bool} (hv : decide (a = b) = v) :
    Calls Try.prog 41 #[.slice A n ca, .slice B m cb] w fun e w' => e = .returned (.bool v) ∧ w = w' := by
 subst hv
 exact sameBytes_any w A B a b n ca m cb _ _ hn hm (h.row _ ha).1 (h.row _ hb).1
theorem turnR (ha : ⟨A, a, ca⟩ ∈ R) (hn : n = r * c) (hR : R1 = r ∧ C1 = c) (hd : r ≤ 100 ∧ c ≤ 100) (hA : a = flat r c ma) (Ro Co : Int) (no : Nat) (ho : Ro = c ∧ Co = r ∧ no = c * r) {l : List UInt8} (hl : flat c r (fun x y => ma y x) = l) :
    Calls Try.prog 34 #[.agg #[.int .i64 R1, .int .i64 C1, .slice A n ca]] w (MatR w0 p R X Ro Co no l) := by
 obtain ⟨rfl, rfl⟩ := hR; obtain ⟨rfl, rfl, rfl⟩ := ho
 subst hA; subst hl
 have hq : r * c ≤ 10000 := Nat.mul_le_mul hd.1 hd.2
 refine (turned_ok w r c A n ca ma hn (right_dim hd hn) (by have := (h.row _ ha).2.2; rw [hn]; simpa [flat_len] using this) (by omega) (h.row _ ha).1).mono fun e w' ⟨A', cap, he, hle, hnw, hb⟩ => ⟨A', cap, he, (h.keep hb).new hnw h.lt (by rw [flat_len]; exact hle)⟩
theorem turn0R (hv : rightB R1 C1 n = false) : Calls Try.prog 34 #[.agg #[.int .i64 R1, .int .i64 C1, .slice A n ca]] w (SayM w0 p R X (.tuple #[.agg #[.int .i64 0, .int .i64 0, .slice none 0 0], .int .i64 50])) :=
 (turned_bad w R1 C1 A n ca hv).mono fun e w' ⟨he, hb⟩ => ⟨he, h.keep hb⟩
theorem oneR (hR : R1 = r) (hd : r ≤ 100) (no : Nat) (ho : no = r * r) {l : List UInt8} (hl : flat r r idm = l) : Calls Try.prog 27 #[.int .i64 R1] w (MatO w0 p R X R1 R1 no l) := by
 subst hR; subst ho; subst hl
 exact (one_in w r (by omega)).mono fun e w' ⟨A', cap, he, hle, hnw, hb⟩ => ⟨A', cap, he, (h.keep hb).new hnw h.lt (by rw [flat_len]; exact hle)⟩
theorem packdR (ha : ⟨A, a, ca⟩ ∈ R) (hn : n = r * r) (hR : R1 = r ∧ C1 = r) (hd : r ≤ 100) (hA : a = flat r r ma) (hs : flat r r (fun x y => ma y x) = flat r r ma) (no : Nat) (ho : no = offS r r) {l : List UInt8} (hl : packS r ma r = l) :
    Calls Try.prog 39 #[.agg #[.int .i64 R1, .int .i64 C1, .slice A n ca]] w (BytR w0 p R X no l) := by
 obtain ⟨rfl, rfl⟩ := hR
 subst hA; subst hl; subst ho
 have hq : r * r ≤ 10000 := Nat.mul_le_mul hd hd
 refine (packed_ok w r A n ca ma hn (right_dim ⟨hd, hd⟩ hn) (by have := (h.row _ ha).2.2; rw [hn]; simpa [flat_len] using this) (by omega) (h.row _ ha).1 hs).mono fun e w' ⟨A', cap, he, hle, hnw, hb⟩ => ⟨A', cap, he, (h.keep hb).new hnw h.lt (by rw [packS_len]; exact hle)⟩
theorem symR (ha : ⟨A, b, ca⟩ ∈ R) (hcm : ca ≤ maxLen) (hn : b.length = n) (hR : R1 = r) (hd : r ≤ 100) (h2 : 2 * n = r * (r + 1)) (no : Nat) (ho : no = r * r) {l : List UInt8} (hl : flat r r (symM r b) = l) :
    Calls Try.prog 30 #[.int .i64 R1, .slice A n ca] w (MatR w0 p R X R1 R1 no l) := by
 subst hR; subst ho; subst hl
 exact (sym_ok w r hd A b n ca hn h2 (by have := (h.row _ ha).2.2; dsimp only at this; omega) hcm (h.row _ ha).1).mono fun e w' ⟨A', cap, he, hle, hnw, hb⟩ => ⟨A', cap, he, (h.keep hb).new hnw h.lt (by rw [flat_len]; exact hle)⟩
theorem sym0R (hR : 0 ≤ R1 ∧ R1 ≤ 100) (h2 : (n : Int) ≠ R1 * (R1 + 1) / 2) : Calls Try.prog 30 #[.int .i64 R1, .slice A n ca] w (SayM w0 p R X (.tuple #[.agg #[.int .i64 0, .int .i64 0, .slice none 0 0], .int .i64 50])) :=
 (sym_bad w R1 A n ca (by omega) (.inr (.inr ⟨by omega, by omega, h2⟩))).mono fun e w' ⟨he, hb⟩ => ⟨he, h.keep hb⟩
end
end
section
variable {w0 w w' : World} {q : Nat} {R : List Rw} {X : List (Nat × Array Value)}
variable (h : MS w0 (some q) R X w)
include h
variable {A B : Option Addr} {a b : List UInt8} {ca cb n m r c d : Nat} {ma mb : M} {R1 C1 R2 C2 : Int}
theorem mulR (ha : ⟨A, a, ca⟩ ∈ R) (hb : ⟨B, b, cb⟩ ∈ R) (hn : n = r * c) (hm : m = c * d) (hR : R1 = r ∧ C1 = c ∧ R2 = c ∧ C2 = d) (hd : r ≤ 100 ∧ c ≤ 100 ∧ d ≤ 100) (hA : a = flat r c ma) (hB : b = flat c d mb)
    (Ro Co : Int) (no : Nat) (ho : Ro = r ∧ Co = d ∧ no = r * d) {l : List UInt8} (hl : flat r d (mulM c ma mb) = l) :
    Calls Try.prog 18 #[fptr (some q), .agg #[.int .i64 R1, .int .i64 C1, .slice A n ca], .agg #[.int .i64 R2, .int .i64 C2, .slice B m cb]] w (MatR w0 (some q) R X Ro Co no l) := by
 obtain ⟨rfl, rfl, rfl, rfl⟩ := hR; obtain ⟨rfl, rfl, rfl⟩ := ho
 subst hA; subst hB; subst hl
 have k1 := (h.row _ ha).2.2; have k2 := (h.row _ hb).2.2
 dsimp only at k1 k2
 rw [flat_len] at k1 k2
 refine (mul_ok w q (h.fld q rfl).2 r c d A B n ca m cb ma mb (right_dim ⟨hd.1, hd.2.1⟩ hn) (right_dim ⟨hd.2.1, hd.2.2⟩ hm) hd ⟨by omega, by omega⟩ (h.in_ ha) (h.in_ hb)).mono fun e w' ⟨A', cap, he, hle, hnw, hF, hf⟩ => ⟨A', cap, he, (h.fr hF hf).new hnw h.lt (by rw [flat_len]; exact hle)⟩
theorem mul0R (hv : mulB R1 C1 n R2 C2 m = false) : Calls Try.prog 18 #[fptr (some q), .agg #[.int .i64 R1, .int .i64 C1, .slice A n ca], .agg #[.int .i64 R2, .int .i64 C2, .slice B m cb]] w (SayM w0 (some q) R X (.tuple #[.agg #[.int .i64 0, .int .i64 0, .slice none 0 0], .int .i64 50])) :=
 (mul_bad w q R1 C1 R2 C2 A B n ca m cb hv).mono fun e w' ⟨he, hb⟩ => ⟨he, h.keep hb⟩
theorem rankR (ha : ⟨A, a, ca⟩ ∈ R) (hn : n = r * c) (hR : R1 = r ∧ C1 = c) (hd : r ≤ 100 ∧ c ≤ 100) (hA : a = flat r c ma) (Ko : Int) (ho : Ko = rankM r c ma) :
    Calls Try.prog 14 #[fptr (some q), .agg #[.int .i64 R1, .int .i64 C1, .slice A n ca]] w (SayM w0 (some q) R X (.tuple #[.int .i64 Ko, .int .i64 0])) := by
 obtain ⟨rfl, rfl⟩ := hR
 subst hA; subst ho
 exact (rank_ok w q (h.fld q rfl).2 r c A n ca ma (right_dim hd hn) hd (h.in_ ha)).mono fun e w' ⟨he, hF, hf⟩ => ⟨he, h.fr hF hf⟩
theorem solveR (ha : ⟨A, a, ca⟩ ∈ R) (hb : ⟨B, b, cb⟩ ∈ R) (hn : n = r * c) (hm : m = r * d) (hR : R1 = r ∧ C1 = c ∧ R2 = r ∧ C2 = d) (hd : r ≤ 100 ∧ c ≤ 100 ∧ d ≤ 100) (hA : a = flat r c ma) (hB : b = flat r d mb) (hs : solves r c d ma mb = true)
    (Ro Co : Int) (no : Nat) (ho : Ro = c ∧ Co = d ∧ no = c * d) {l : List UInt8} (hl : flat c d (redTo r ma mb c).B = l) :
    Calls Try.prog 21 #[fptr (some q), .agg #[.int .i64 R1, .int .i64 C1, .slice A n ca], .agg #[.int .i64 R2, .int .i64 C2, .slice B m cb]] w (MatR w0 (some q) R X Ro Co no l) := by
 obtain ⟨rfl, rfl, rfl, rfl⟩ := hR; obtain ⟨rfl, rfl, rfl⟩ := ho
 subst hA; subst hB; subst hl
 refine (solve_ok w q (h.fld q rfl).2 r c d A B n ca m cb ma mb (right_dim ⟨hd.1, hd.2.1⟩ hn) (right_dim ⟨hd.1, hd.2.2⟩ hm) hd (h.in_ ha) (h.in_ hb) hs).mono fun e w' ⟨A', cap, he, hle, hnw, hF, hf⟩ => ⟨A', cap, he, (h.fr hF hf).new hnw h.lt (by rw [flat_len]; exact hle)⟩
theorem solve1R (ha : ⟨A, a, ca⟩ ∈ R) (hb : ⟨B, b, cb⟩ ∈ R) (hn : n = r * c) (hm : m = r * d) (hR : R1 = r ∧ C1 = c ∧ R2 = r ∧ C2 = d) (hd : r ≤ 100 ∧ c ≤ 100 ∧ d ≤ 100) (hA : a = flat r c ma) (hB : b = flat r d mb) (hs : solves r c d ma mb = false) :
    Calls Try.prog 21 #[fptr (some q), .agg #[.int .i64 R1, .int .i64 C1, .slice A n ca], .agg #[.int .i64 R2, .int .i64 C2, .slice B m cb]] w (SayM w0 (some q) R X (.tuple #[.agg #[.int .i64 0, .int .i64 0, .slice none 0 0], .int .i64 51])) := by
 obtain ⟨rfl, rfl, rfl, rfl⟩ := hR
 subst hA; subst hB
 exact (solve_no w q (h.fld q rfl).2 r c d A B n ca m cb ma mb (right_dim ⟨hd.1, hd.2.1⟩ hn) (right_dim ⟨hd.1, hd.2.2⟩ hm) hd (h.in_ ha) (h.in_ hb) hs).mono fun e w' ⟨he, hF, hf⟩ => ⟨he, h.fr hF hf⟩
theorem solve0R (F : Value) (hv : solB R1 C1 n R2 C2 m = false) : Calls Try.prog 21 #[F, .agg #[.int .i64 R1, .int .i64 C1, .slice A n ca], .agg #[.int .i64 R2, .int .i64 C2, .slice B m cb]] w (SayM w0 (some q) R X (.tuple #[.agg #[.int .i64 0, .int .i64 0, .slice none 0 0], .int .i64 50])) :=
 (solve_bad w F R1 C1 R2 C2 A B n ca m cb hv).mono fun e w' ⟨he, hb⟩ => ⟨he, h.keep hb⟩
theorem invR (ha : ⟨A, a, ca⟩ ∈ R) (hn : n = r * r) (hR : R1 = r ∧ C1 = r) (hd : r ≤ 100) (hA : a = flat r r ma) (hs : solves r r r ma idm = true) (Ro : Int) (no : Nat) (ho : Ro = r ∧ no = r * r) {l : List UInt8} (hl : flat r r (redTo r ma idm r).B = l) :
    Calls Try.prog 15 #[fptr (some q), .agg #[.int .i64 R1, .int .i64 C1, .slice A n ca]] w (MatR w0 (some q) R X Ro Ro no l) := by
 obtain ⟨rfl, rfl⟩ := hR; obtain ⟨rfl, rfl⟩ := ho
 subst hA; subst hl
 refine (inv_ok w q (h.fld q rfl).2 r A n ca ma (right_dim ⟨hd, hd⟩ hn) hd (h.in_ ha) hs).mono fun e w' ⟨A', cap, he, hle, hnw, hF, hf⟩ => ⟨A', cap, he, (h.fr hF hf).new hnw h.lt (by rw [flat_len]; exact hle)⟩
theorem inv1R (ha : ⟨A, a, ca⟩ ∈ R) (hn : n = r * r) (hR : R1 = r ∧ C1 = r) (hd : r ≤ 100) (hA : a = flat r r ma) (hs : solves r r r ma idm = false) :
    Calls Try.prog 15 #[fptr (some q), .agg #[.int .i64 R1, .int .i64 C1, .slice A n ca]] w (SayM w0 (some q) R X (.tuple #[.agg #[.int .i64 0, .int .i64 0, .slice none 0 0], .int .i64 51])) := by
 obtain ⟨rfl, rfl⟩ := hR
 subst hA
 exact (inv_no w q (h.fld q rfl).2 r A n ca ma (right_dim ⟨hd, hd⟩ hn) hd (h.in_ ha) hs).mono fun e w' ⟨he, hF, hf⟩ => ⟨he, h.fr hF hf⟩
theorem inv0R (F : Value) (hv : (rightB R1 C1 n && R1 == C1) = false) : Calls Try.prog 15 #[F, .agg #[.int .i64 R1, .int .i64 C1, .slice A n ca]] w (SayM w0 (some q) R X (.tuple #[.agg #[.int .i64 0, .int .i64 0, .slice none 0 0], .int .i64 50])) :=
 (inv_bad w F R1 C1 A n ca hv).mono fun e w' ⟨he, hb⟩ => ⟨he, h.keep hb⟩
theorem powR (ha : ⟨A, a, ca⟩ ∈ R) (hn : a.length = n) (hR : C1 = c) (hd : n ≤ 1000 ∧ c ≤ 1000) (Ro : Int) (no : Nat) (ho : Ro = n ∧ no = n * c) {l : List UInt8} (hl : flat n c (powM a) = l) :
    Calls Try.prog 13 #[fptr (some q), .slice A n ca, .int .i64 C1] w (MatO w0 (some q) R X Ro C1 no l) := by
 obtain ⟨rfl, rfl⟩ := ho
 subst hR; subst hl
 have k := pow_ok w q (h.fld q rfl).2 A a n ca hn c (h.in_ ha) hd
 exact k.mono fun e w' ⟨A', cap, he, hle, hnw, hF, hf⟩ => ⟨A', cap, he, (h.fr hF hf).new hnw h.lt (by rw [flat_len]; exact hle)⟩
end
theorem Mx_field2 (W : World) (a b : Int) (A : Option Addr) (n c : Nat) : (Instr.field 27 (.agg #[.int .i64 a, .int .i64 b, .slice A n c]) 2).run Try.prog W = .ok (.slice A n c) W := by kernel_rfl
theorem Mx_build1 (W : World) (a : Int) : (Instr.buildSlice 22 1 #[(0, .int .u8 a)]).run Try.prog W = .ok (.slice (some ⟨W.heap.size, 0, none⟩) 1 1) (W.alloc (.cells #[.int .u8 a] 5)) := by kernel_rfl
theorem Mx_build2 (W : World) (a b : Int) : (Instr.buildSlice 22 2 #[(0, .int .u8 a), (1, .int .u8 b)]).run Try.prog W = .ok (.slice (some ⟨W.heap.size, 0, none⟩) 2 2) (W.alloc (.cells #[.int .u8 a, .int .u8 b] 5)) := by kernel_rfl
theorem Mx_build3 (W : World) (a b c : Int) : (Instr.buildSlice 22 3 #[(0, .int .u8 a), (1, .int .u8 b), (2, .int .u8 c)]).run Try.prog W = .ok (.slice (some ⟨W.heap.size, 0, none⟩) 3 3) (W.alloc (.cells #[.int .u8 a, .int .u8 b, .int .u8 c] 5)) := by kernel_rfl
theorem Mx_build4 (W : World) (a b c d : Int) : (Instr.buildSlice 22 4 #[(0, .int .u8 a), (1, .int .u8 b), (2, .int .u8 c), (3, .int .u8 d)]).run Try.prog W = .ok (.slice (some ⟨W.heap.size, 0, none⟩) 4 4) (W.alloc (.cells #[.int .u8 a, .int .u8 b, .int .u8 c, .int .u8 d] 5)) := by kernel_rfl
theorem Mx_build6 (W : World) (a b c d e f : Int) : (Instr.buildSlice 22 6 #[(0, .int .u8 a), (1, .int .u8 b), (2, .int .u8 c), (3, .int .u8 d), (4, .int .u8 e), (5, .int .u8 f)]).run Try.prog W = .ok (.slice (some ⟨W.heap.size, 0, none⟩) 6 6) (W.alloc (.cells #[.int .u8 a, .int .u8 b, .int .u8 c, .int .u8 d, .int .u8 e, .int .u8 f] 5)) := by kernel_rfl
end Go.Proofs.Ythdapoipfnnaeaa.MxW
/- The document's functions: boxes, a matrix being written; One. -/
namespace Go.Proofs.Ythdapoipfnnaeaa.MxW
open Go.RowKit Go.Shelf Mem Gf FdW Mx Rng
open PlW (In)
set_option linter.unusedVariables false
set_option linter.unusedSectionVars false
attribute [local go_sem] Oper.semAt_some wide_fn

/-- Boxes since w0, and a matrix that is being written in block g. -/
structure WS (w0 : World) (Y : List (Nat × TypeId × Array Value)) (g cap r c : Nat) (m : M) (w : World) : Prop where
 below : Below w0.heap.size w0 w
 box : ∀ y ∈ Y, Blk w y.1 y.2.1 y.2.2 ∧ y.2.1 ≠ 5 ∧ w0.heap.size ≤ y.1
 row : Wm w w0.heap.size g cap r c m
/-- Boxes alone. -/
structure BS (w0 : World) (Y : List (Nat × TypeId × Array Value)) (w : World) : Prop where
 below : Below w0.heap.size w0 w
 box : ∀ y ∈ Y, Blk w y.1 y.2.1 y.2.2 ∧ y.2.1 ≠ 5 ∧ w0.heap.size ≤ y.1
section
variable {w0 w w' : World} {Y : List (Nat × TypeId × Array Value)} {g cap r c : Nat} {m m' : M}
theorem BS.start (w : World) : BS w [] w := ⟨Below.refl _ _, fun _ h => (List.not_mem_nil h).elim⟩
theorem BS.keep (h : BS w0 Y w) (hb : Below w.heap.size w w') : BS w0 Y w' := ⟨next h.below hb, fun y hy => ⟨(h.box y hy).1.keep hb, (h.box y hy).2⟩⟩
theorem BS.put (h : BS w0 Y w) (cs : Array Value) (T : TypeId) (hT : T ≠ 5) : BS w0 ((w.heap.size, T, cs) :: Y) (w.alloc (.cells cs T)) := by
 have k := h.keep (nextA (Mem.start w) (.cells cs T))
 exact ⟨k.below, fun y hy => by
  rcases List.mem_cons.1 hy with rfl | hy
  ·exact ⟨Blk.new w _ _, hT, h.below.size⟩
  ·exact k.box y hy⟩
theorem BS.cells (h : BS w0 Y w) {b : Nat} {T : TypeId} {c0 c1 c2 : Value} (hy : (b, T, #[c0, c1, c2]) ∈ Y) : (w.cell? ⟨b, 0, none⟩ = some c0 ∧ w.cell? ⟨b, 1, none⟩ = some c1 ∧ w.cell? ⟨b, 2, none⟩ = some c2) ∧ w.frozen? ⟨b, 0, none⟩ = false ∧ w.frozen? ⟨b, 1, none⟩ = false ∧ w.frozen? ⟨b, 2, none⟩ = false := cells3 (h.box _ hy).1
theorem BS.none_ (h : BS w0 Y w) (ho : Wm w' w0.heap.size g cap r c m) (hb : Below w.heap.size w w') : WS w0 Y g cap r c m w' := ⟨(h.keep hb).below, (h.keep hb).box, ho⟩
theorem WS.bs (h : WS w0 Y g cap r c m w) : BS w0 Y w := ⟨h.below, h.box⟩
theorem WS.keep (h : WS w0 Y g cap r c m w) (hb : Below w.heap.size w w') : WS w0 Y g cap r c m w' := ⟨(h.bs.keep hb).below, (h.bs.keep hb).box, h.row.keep hb⟩
theorem WS.put (h : WS w0 Y g cap r c m w) (cs : Array Value) (T : TypeId) (hT : T ≠ 5) : WS w0 ((w.heap.size, T, cs) :: Y) g cap r c m (w.alloc (.cells cs T)) :=
 ⟨(h.bs.put cs T hT).below, (h.bs.put cs T hT).box, h.row.keep (nextA (Mem.start w) _)⟩
theorem WS.cells (h : WS w0 Y g cap r c m w) {b : Nat} {T : TypeId} {c0 c1 c2 : Value} (hy : (b, T, #[c0, c1, c2]) ∈ Y) : (w.cell? ⟨b, 0, none⟩ = some c0 ∧ w.cell? ⟨b, 1, none⟩ = some c1 ∧ w.cell? ⟨b, 2, none⟩ = some c2) ∧ w.frozen? ⟨b, 0, none⟩ = false ∧ w.frozen? ⟨b, 1, none⟩ = false ∧ w.frozen? ⟨b, 2, none⟩ = false := h.bs.cells hy
theorem WS.set (h : WS w0 Y g cap r c m w) {i k : Nat} (hi : i < r) (hk : k < c) (x : UInt8) : WS w0 Y g cap r c (upd m i k x) (w.setCell ⟨g, i * c + k, none⟩ (.int .u8 (x.toNat : Int))) := by
 have hf := setF (p := g) w ⟨g, i * c + k, none⟩ rfl (.int .u8 (x.toNat : Int))
 refine ⟨h.below.trans (hf.below h.below.size fun k hk => by rw [hk]; exact h.row.form.1), fun y hy => ⟨(h.box y hy).1.fr hf fun e => ?_, (h.box y hy).2⟩, h.row.set hi hk x⟩
 exact (h.box y hy).1.ne_own h.row (h.box y hy).2.1 g rfl e.symm
theorem WS.congr (h : WS w0 Y g cap r c m w) (hm : ∀ i, i < r → ∀ k, k < c → m i k = m' i k) : WS w0 Y g cap r c m' w := ⟨h.below, h.box, h.row.congr hm⟩
theorem WS.at_ (h : WS w0 Y g cap r c m w) {i k : Nat} (hi : i < r) (hk : k < c) : w.cell? ⟨g, i * c + k, none⟩ = some (.int .u8 ((m i k).toNat : Int)) ∧ w.frozen? ⟨g, i * c + k, none⟩ = false := h.row.at_ hi hk
theorem WS.nw (h : WS w0 Y g cap r c m w) : Nw w0.heap.size w (some ⟨g, 0, none⟩) (flat r c m) := h.row.nw
end
/-- The result's box is written, nothing else. -/
theorem BS.end_ {w0 w : World} {Y : List (Nat × TypeId × Array Value)} (h : BS w0 Y w) {b : Nat} {T : TypeId} {c0 c1 c2 : Value} (hy : (b, T, #[c0, c1, c2]) ∈ Y) (v0 v1 v2 : Value) :
    let w' := (((w.setCell ⟨b, 0, none⟩ v0).setCell ⟨b, 1, none⟩ v1).setCell ⟨b, 2, none⟩ v2)
    Below w0.heap.size w0 w' ∧ Fr (fun k => k = b) w w' ∧ w'.cell? ⟨b, 0, none⟩ = some v0 ∧ w'.cell? ⟨b, 1, none⟩ = some v1 ∧ w'.cell? ⟨b, 2, none⟩ = some v2 := by
 obtain ⟨hb, hf⟩ := set3 (h.box _ hy).1 v0 v1 v2
 exact ⟨h.below.trans (hf.below h.below.size fun k hk => by rw [hk]; exact (h.box _ hy).2.2), hf, (cells3 hb).1⟩
theorem WS.end_ {w0 w : World} {Y : List (Nat × TypeId × Array Value)} {g cap r c : Nat} {m : M} (h : WS w0 Y g cap r c m w) {b : Nat} {T : TypeId} {c0 c1 c2 : Value} (hy : (b, T, #[c0, c1, c2]) ∈ Y) (v0 v1 v2 : Value) :
    let w' := (((w.setCell ⟨b, 0, none⟩ v0).setCell ⟨b, 1, none⟩ v1).setCell ⟨b, 2, none⟩ v2)
    Below w0.heap.size w0 w' ∧ Nw w0.heap.size w' (some ⟨g, 0, none⟩) (flat r c m) ∧ w'.cell? ⟨b, 0, none⟩ = some v0 ∧ w'.cell? ⟨b, 1, none⟩ = some v1 ∧ w'.cell? ⟨b, 2, none⟩ = some v2 := by
 obtain ⟨h1, h2, h3⟩ := h.bs.end_ hy v0 v1 v2
 refine ⟨h1, (h.row.fr h2 fun e => ?_).nw, h3⟩
 exact (h.box _ hy).1.ne_own h.row (h.box _ hy).2.1 g rfl e
def T5 : TypeId := 38
theorem oneM_next (j i k : Nat) : upd (oneM j) j j 1 i k = oneM (j + 1) i k := by
 unfold upd oneM
 by_cases h : i = j ∧ k = j
 ·rw [if_pos h, if_pos (by omega)]
 ·rw [if_neg h]
  by_cases h2 : i < j ∧ i = k
  ·rw [if_pos h2, if_pos (by omega)]
  ·rw [if_neg h2, if_neg (by omega)]
set_option maxRecDepth 100000 in
set_option maxHeartbeats 2000000 in
theorem rone_any (w : World) (n : Int) (r : Nat) (hn : max 0 n = (r : Int)) (hr : n ≤ 100) : Calls Try.prog 32 #[.int .i64 n] w (NewM w r r idm) := by
 have HN := Lib.hid (show n ≤ (r : Int) ∧ (0 ≤ n → n = r) ∧ (n < 0 → r = 0) ∧ r ≤ 100 from by omega)
 have m1 := fun W => run_max2 0 n r hn W
 have h4 : ¬ 4096 < n := by omega
 have H0 := Lib.hid (BS.start w)
 have H1 := Lib.hid (H0.out.put #[.int .i64 0, .int .i64 0, .slice none 0 0] 38 (by decide))
 go_enter Try.func32, Try.ntmps32
 go_wp2_with fail
 obtain ⟨g0, hg0⟩ : ∃ x, w.heap.size = x := ⟨_, rfl⟩
 generalize w.alloc (.cells #[.int .i64 0, .int .i64 0, .slice none 0 0] 38) = w1 at *
 rw [hg0] at H1 ⊢
 refine (rnone_any w1 r r (by have h1 : r * r ≤ 100 * 100 := Nat.mul_le_mul (by omega) (by omega); omega)).mono ?_
 rintro e w2 ⟨g, rfl, ho, hb⟩
 have H2 := Lib.hid (H1.out.none_ (g := g) (cap := r * r) (r := r) (c := r) (m := fun _ _ => 0) (show Wm w2 w.heap.size g (r * r) r r _ from ho.down H1.out.below.size) hb)
 clear ho hb m1 hn hr h4
 have H3 := Lib.hid (H2.out.put (mcells r r (some ⟨g, 0, none⟩) (r * r) (r * r)) 38 (by decide))
 go_wp2_with fail
 obtain ⟨gm, hgm⟩ : ∃ x, w2.heap.size = x := ⟨_, rfl⟩
 have HW := Lib.hid (show ∃ x : World, w2.alloc (.cells #[.int .i64 (r : Int), .int .i64 (r : Int), .slice (some ⟨g, 0, none⟩) (r * r) (r * r)] 38) = x from ⟨_, rfl⟩)
 obtain ⟨w3, hw3⟩ := HW.out
 have hw3' : w2.alloc (.cells (mcells r r (some ⟨g, 0, none⟩) (r * r) (r * r)) 38) = w3 := hw3
 rw [hw3'] at H3
 rw [hw3, hgm]
 rw [hgm] at H3
 clear hw3 hw3' HW hgm
 go_loopw [4] (fun i wr => ∃ j : Nat, i = .int .i64 (j : Int) ∧ j ≤ r ∧ WS w [(gm, 38, mcells r r (some ⟨g, 0, none⟩) (r * r) (r * r)), (g0, 38, #[.int .i64 0, .int .i64 0, .slice none 0 0])] g (r * r) r r (oneM j) wr) (fun i _ => r - (intOf i).toNat)
 case atStart => exact ⟨0, rfl, Nat.zero_le _, H3.out.congr fun i _ k _ => by unfold oneM; rw [if_neg (by omega)]⟩
 case round =>
  obtain ⟨j, rfl, hj, h⟩ := hrel
  have H4 := Lib.hid h
  clear h H3
  obtain ⟨w4, rfl⟩ : ∃ w4 : World, w4 = wr := ⟨_, rfl⟩
  have h9 := HN.out
  by_cases hjr : j < r
  ·have hnr : n = (r : Int) := by omega
   subst hnr
   obtain ⟨⟨c0, c1, c2⟩, _⟩ := H4.out.cells mm0
   obtain ⟨e0, e1⟩ := H4.out.at_ (i := j) (k := j) hjr hjr
   have hjr1 : (j : Int) < (r : Int) := by omega
   obtain ⟨p, hp⟩ : ∃ p, j * r = p := ⟨_, rfl⟩
   have hp1 : (j : Int) * (r : Int) = (p : Int) := by rw [← hp]; simp
   have hpl : p + j < r * r := by rw [← hp]; exact idx_lt hjr hjr
   have hrr : r * r ≤ 100 * 100 := Nat.mul_le_mul (by omega) (by omega)
   have hw1 : IntKind.i64.wrap ((j : Int) * (r : Int)) = (p : Int) := by rw [hp1, IntWalk.i64_in _ (by omega)]
   have hw2 : IntKind.i64.wrap ((p : Int) + (j : Int)) = ((p + j : Nat) : Int) := by rw [IntWalk.i64_in _ (by omega)]; omega
   have hw3 : IntKind.i64.wrap ((j : Int) + 1) = ((j + 1 : Nat) : Int) := by rw [IntWalk.i64_in _ (by omega)]; omega
   obtain ⟨q, hq⟩ : ∃ q, p + j = q := ⟨_, rfl⟩
   rw [hp, hq] at e0 e1
   rw [hq] at hw2
   have hq0 : (0 : Int) ≤ (q : Int) := by omega
   have hq1 : (q : Int) < ((r * r : Nat) : Int) := by omega
   have HQ := Lib.hid (show j * r + j = q from by rw [hp, hq])
   clear hp hq hpl hp1 hrr
   go_wp2_with fail
   go_roundw
   case rel =>
    refine ⟨j + 1, by simp, hjr, ?_⟩
    have h := (H4.out.set hjr hjr 1).congr (m' := oneM (j + 1)) fun i _ k _ => oneM_next j i k
    rw [HQ.out] at h
    exact h
   case measure => simp [intOf]; omega
  ·obtain rfl : r = j := by omega
   have hjn : ¬ (r : Int) < n := by omega
   obtain ⟨⟨c0, c1, c2⟩, _⟩ := H4.out.cells mm0
   obtain ⟨⟨d0, d1, d2⟩, f0, f1, f2⟩ := H4.out.cells mm1
   go_wp2_with fail
   obtain ⟨h1, h2, e0, e1, e2⟩ := H4.out.end_ mm1 (.int .i64 (r : Int)) (.int .i64 (r : Int)) (.slice (some ⟨g, 0, none⟩) (r * r) (r * r))
   refine bodyPost_ret (v := .agg #[.int .i64 (r : Int), .int .i64 (r : Int), .slice (some ⟨g, 0, none⟩) (r * r) (r * r)]) (by simp [results, Try.results32, go_sem, e0, e1, e2]) rfl ?_
   refine ⟨some ⟨g, 0, none⟩, r * r, rfl, Nat.le_refl _, ?_, h1⟩
   rw [flat_congr (m' := idm) fun i hi k _ => by unfold oneM idm; simp [hi]] at h2
   exact h2
end Go.Proofs.Ythdapoipfnnaeaa.MxW
/- The document's Symmetric. -/
namespace Go.Proofs.Ythdapoipfnnaeaa.MxW
open Go.RowKit Go.Shelf Mem Gf FdW Mx Rng
open PlW (In)
set_option linter.unusedVariables false
set_option linter.unusedSectionVars false
attribute [local go_sem] Oper.semAt_some wide_fn
set_option maxRecDepth 100000 in
set_option maxHeartbeats 40000000 in
theorem rsym_ok (w : World) (n : Nat) (hn : n ≤ 100) (A : Option Addr) (b : List UInt8) (l cap : Nat) (hl : b.length = l) (h2l : 2 * l = n * (n + 1)) (hA : Bytes w w.heap.size A b) :
    Calls Try.prog 31 #[.int .i64 (n : Int), .slice A l cap] w (NewT w n n (symM n b)) := by
 obtain ⟨P, hP⟩ : ∃ P : Int, (n : Int) * ((n : Int) + 1) = P := ⟨_, rfl⟩
 have hP2 : P = 2 * (l : Int) := by rw [← hP]; have : ((n * (n + 1) : Nat) : Int) = ((2 * l : Nat) : Int) := by rw [h2l]
                                    push_cast at this; omega
 have hl9 : (l : Int) ≤ 10000 := by have h1 : n * (n + 1) ≤ 100 * 101 := Nat.mul_le_mul hn (by omega)
                                    omega
 have q1 : IntKind.i64.wrap ((n : Int) + 1) = (n : Int) + 1 := by rw [IntWalk.i64_in _ (by omega)]
 have q2 : IntKind.i64.wrap P = P := by rw [IntWalk.i64_in _ (by omega)]
 have q3 : P.tdiv 2 = (l : Int) := by rw [Int.tdiv_eq_ediv_of_nonneg (by omega)]; omega
 have q4 : IntKind.i64.wrap (l : Int) = (l : Int) := by rw [IntWalk.i64_in _ (by omega)]
 have q5 : ¬ (n : Int) < 0 := by omega
 have q6 : ¬ (65536 : Int) < (n : Int) := by omega
 have HN := Lib.hid (show n ≤ 100 ∧ b.length = offS n n ∧ (l : Int) ≤ 10000 ∧ b.length = l from ⟨hn, by have := offS_len n; omega, hl9, hl⟩)
 have HA := Lib.hid hA
 have H0 := Lib.hid (BS.start w)
 have H1 := Lib.hid (H0.out.put #[.int .i64 0, .int .i64 0, .slice none 0 0] 38 (by decide))
 clear hP2 hl9 hA h2l hn
 go_enter Try.func31, Try.ntmps31
 go_wp2_with fail
 obtain ⟨g0, hg0⟩ : ∃ x, w.heap.size = x := ⟨_, rfl⟩
 generalize w.alloc (.cells #[.int .i64 0, .int .i64 0, .slice none 0 0] 38) = w1 at *
 rw [hg0] at H1 ⊢
 refine (rnone_any w1 (n) (n) (by have h1 : n * n ≤ 100 * 100 := Nat.mul_le_mul (HN.out.1) (HN.out.1); omega)).mono ?_
 rintro e w2 ⟨g, rfl, ho, hb⟩
 have H2 := Lib.hid (H1.out.none_ (g := g) (cap := n * n) (r := n) (c := n) (m := fun _ _ => 0) (show Wm w2 w.heap.size g (n * n) (n) (n) _ from ho.down H1.out.below.size) hb)
 clear ho hb q1 q2 q3 q4 q5 q6 hP hl
 have H3 := Lib.hid (H2.out.put (mcells (n) (n) (some ⟨g, 0, none⟩) (n * n) (n * n)) 38 (by decide))
 go_wp2_with fail
 obtain ⟨gm, hgm⟩ : ∃ x, w2.heap.size = x := ⟨_, rfl⟩
 obtain ⟨w3, hw3⟩ : ∃ x : World, w2.alloc (.cells #[.int .i64 (n : Int), .int .i64 (n : Int), .slice (some ⟨g, 0, none⟩) (n * n) (n * n)] 38) = x := ⟨_, rfl⟩
 have hw3' : w2.alloc (.cells (mcells (n) (n) (some ⟨g, 0, none⟩) (n * n) (n * n)) 38) = w3 := hw3
 rw [hw3', hgm] at H3
 rw [hw3, hgm]
 clear hw3 hw3' hgm
 go_loopw [7, 8] (fun a i wr => ∃ j : Nat, i = .int .i64 (j : Int) ∧ a = .int .i64 (offS n j : Int) ∧ j ≤ n ∧ WS w [(gm, 38, mcells n n (some ⟨g, 0, none⟩) (n * n) (n * n)), (g0, 38, #[.int .i64 0, .int .i64 0, .slice none 0 0])] g (n * n) n n (symUp n b j j) wr) (fun _ i _ => n - (intOf i).toNat)
 case atStart => exact ⟨0, rfl, rfl, Nat.zero_le _, H3.out.congr fun i _ k _ => by unfold symUp; rw [if_neg (by omega)]⟩
 case round =>
  obtain ⟨i, rfl, rfl, hi, h⟩ := hrel
  have H4 := Lib.hid h
  clear h H3
  obtain ⟨w4, rfl⟩ : ∃ w4 : World, w4 = wr := ⟨_, rfl⟩
  by_cases hin : i < n
  ·have hi1 : (i : Int) < (n : Int) := by omega
   have hwi : IntKind.i64.wrap ((i : Int) + 1) = ((i + 1 : Nat) : Int) := by have := HN.out.1; rw [IntWalk.i64_in _ (by omega)]; omega
   have HI := Lib.hid hin
   go_wp2_with fail
   go_loopw [7, 9] (fun a k wr => ∃ j : Nat, k = .int .i64 (j : Int) ∧ a = .int .i64 ((offS n i + (j - i) : Nat) : Int) ∧ i ≤ j ∧ j ≤ n ∧ WS w [(gm, 38, mcells n n (some ⟨g, 0, none⟩) (n * n) (n * n)), (g0, 38, #[.int .i64 0, .int .i64 0, .slice none 0 0])] g (n * n) n n (symUp n b i j) wr) (fun _ k _ => n - (intOf k).toNat)
   case atStart => exact ⟨i, rfl, by rw [Nat.sub_self, Nat.add_zero], Nat.le_refl _, hi, H4.out⟩
   case round =>
    obtain ⟨j, rfl, rfl, hij, hj, h⟩ := hrel
    have H5 := Lib.hid h
    clear h
    obtain ⟨w5, rfl⟩ : ∃ w5 : World, w5 = wr := ⟨_, rfl⟩
    by_cases hjn : j < n
    ·have hj1 : (j : Int) < (n : Int) := by omega
     have hj0 : (0 : Int) ≤ (j : Int) := by omega
     obtain ⟨at_, hat⟩ : ∃ at_, offS n i + (j - i) = at_ := ⟨_, rfl⟩
     have HAT := Lib.hid (show at_ < b.length ∧ (at_ : Int) < (l : Int) ∧ offS n i + (j - i) = at_ from by have h1 := offS_lt hin hij hjn; have h2 := HN.out; omega)
     rw [hat]
     have ha0 : (0 : Int) ≤ (at_ : Int) := by omega
     have ha1 : (at_ : Int) < (l : Int) := HAT.out.2.1
     obtain ⟨ab, ob, rfl, _, _⟩ := HA.out.at_ (k := at_) HAT.out.1
     obtain ⟨x, hx⟩ : ∃ x, b[at_]'HAT.out.1 = x := ⟨_, rfl⟩
     have HX := Lib.hid (show ∀ W : World, Below w.heap.size w W → W.cell? ⟨ab, ob + at_, none⟩ = some (.int .u8 (x.toNat : Int)) from fun W hW => by
      obtain ⟨b', o', e', _, hc⟩ := (HA.out.below hW).at_ (k := at_) HAT.out.1
      injection e' with e'; injection e' with e1 e2; subst e1; subst e2
      rw [hx] at hc; exact hc)
     have HXB := Lib.hid (show b.getD (offS n i + (j - i)) 0 = x from by rw [hat, List.getD_eq_getElem?_getD, List.getElem?_eq_getElem HAT.out.1, hx]; rfl)
     obtain ⟨q, hq⟩ : ∃ q, i * n + j = q := ⟨_, rfl⟩
     obtain ⟨s, hs⟩ : ∃ s, j * n + i = s := ⟨_, rfl⟩
     obtain ⟨p1, hp1⟩ : ∃ p1, i * n = p1 := ⟨_, rfl⟩
     obtain ⟨p2, hp2⟩ : ∃ p2, j * n = p2 := ⟨_, rfl⟩
     have HQ := Lib.hid hq
     have HS := Lib.hid hs
     have hql : q < n * n := by rw [← hq]; exact idx_lt hin hjn
     have hsl : s < n * n := by rw [← hs]; exact idx_lt hjn hin
     have hnn : n * n ≤ 100 * 100 := Nat.mul_le_mul HN.out.1 HN.out.1
     have hw1 : IntKind.i64.wrap ((i : Int) * (n : Int)) = (p1 : Int) := by rw [show (i : Int) * (n : Int) = (p1 : Int) by rw [← hp1]; simp, IntWalk.i64_in _ (by omega)]
     have hw2 : IntKind.i64.wrap ((p1 : Int) + (j : Int)) = (q : Int) := by rw [IntWalk.i64_in _ (by omega)]; omega
     have hw3 : IntKind.i64.wrap ((j : Int) * (n : Int)) = (p2 : Int) := by rw [show (j : Int) * (n : Int) = (p2 : Int) by rw [← hp2]; simp, IntWalk.i64_in _ (by omega)]
     have hw4 : IntKind.i64.wrap ((p2 : Int) + (i : Int)) = (s : Int) := by rw [IntWalk.i64_in _ (by omega)]; omega
     have hw5 : IntKind.i64.wrap ((at_ : Int) + 1) = ((at_ + 1 : Nat) : Int) := by have := HN.out.2.2.1; rw [IntWalk.i64_in _ (by omega)]; omega
     have hw6 : IntKind.i64.wrap ((j : Int) + 1) = ((j + 1 : Nat) : Int) := by have := HN.out.1; rw [IntWalk.i64_in _ (by omega)]; omega
     have hq0 : (0 : Int) ≤ (q : Int) := by omega
     have hq1 : (q : Int) < ((n * n : Nat) : Int) := by omega
     have hs0 : (0 : Int) ≤ (s : Int) := by omega
     have hs1 : (s : Int) < ((n * n : Nat) : Int) := by omega
     have HJ := Lib.hid (And.intro hjn hij)
     have hrr0 : (q : Int) < (n : Int) * (n : Int) := by have : ((n * n : Nat) : Int) = (n : Int) * (n : Int) := by simp
                                                         omega
     have hrr1 : (s : Int) < (n : Int) * (n : Int) := by have : ((n * n : Nat) : Int) = (n : Int) * (n : Int) := by simp
                                                         omega
     clear hq hs hp1 hp2 hx hat hql hsl hnn hij hj hq1 hs1
     go_wp2_with fail
     refine wp_region_noPanic ?_
     refine wp_heldG (fun w' => (w'.cell? ⟨gm, 0, none⟩ = some (.int .i64 (n : Int)) ∧ w'.cell? ⟨gm, 1, none⟩ = some (.int .i64 (n : Int)) ∧ w'.cell? ⟨gm, 2, none⟩ = some (.slice (some ⟨g, 0, none⟩) (n * n) (n * n))) ∧ w'.cell? ⟨ab, ob + at_, none⟩ = some (.int .u8 (x.toNat : Int))) [12] (by kernel_rfl) ?hs0 ?rg0
     case hs0 =>
      have h := H5.out.keep (nextN (Mem.start _) 1)
      exact ⟨(h.cells mm0).1, HX.out _ h.below⟩
     case rg0 =>
     intro hHeld
     refine pu 0 ?_
     refine tk 1 rfl (by intro w hSw; obtain ⟨⟨k0, k1, k2⟩, k3⟩ := hSw; go_simp; try with_reducible rfl) ?_
     refine pu 2 ?_
     refine pu 3 ?_
     refine pu 4 ?_
     refine pu 5 ?_
     refine pu 6 ?_
     refine pu 7 ?_
     refine pu 8 ?_
     refine pu 9 ?_
     refine tk 10 rfl (by intro w hSw; obtain ⟨⟨k0, k1, k2⟩, k3⟩ := hSw; go_simp; try with_reducible rfl) ?_
     refine pu 11 ?_
     refine on 12 rfl fun K hK => ?_
     obtain ⟨s3, s4⟩ := (show WS _ _ _ _ _ _ _ w5.drew from H5.out.keep (nextN (Mem.start _) 1)).at_ HI.out HJ.out.1
     rw [HQ.out] at s3 s4
     go_simp
     try dsimp only
     refine hK.out _ _ ?_ (fun hHeld => ?_)
     ·exact fun h => (st_no (by kernel_rfl) h).elim
     clear hK K
     try simp only [pU, pU0, pA, pB, pC]
     clear hHeld
     refine wpAnyG_done (by kernel_rfl) ?_ _
     refine NoPanic.normal ?_
     have h := H5.out.set HI.out HJ.out.1 x
     rw [HQ.out] at h
     have H6 := Lib.hid (show WS _ _ _ _ _ _ _ (w5.setCell ⟨g, q, none⟩ (.int .u8 (x.toNat : Int))).drew from h.keep (nextN (Mem.start _) 1))
     clear h
     clear hHeld
     generalize (w5.setCell ⟨g, q, none⟩ (.int .u8 (x.toNat : Int))).drew = w6 at *
     go_wp2_with fail
     refine wp_region_noPanic ?_
     refine wp_heldG (fun w' => (w'.cell? ⟨gm, 0, none⟩ = some (.int .i64 (n : Int)) ∧ w'.cell? ⟨gm, 1, none⟩ = some (.int .i64 (n : Int)) ∧ w'.cell? ⟨gm, 2, none⟩ = some (.slice (some ⟨g, 0, none⟩) (n * n) (n * n))) ∧ w'.cell? ⟨ab, ob + at_, none⟩ = some (.int .u8 (x.toNat : Int))) [12] (by kernel_rfl) ?hs0 ?rg0
     case hs0 =>
      have h := H6.out.keep (nextN (Mem.start _) 1)
      exact ⟨(h.cells mm0).1, HX.out _ h.below⟩
     case rg0 =>
     intro hHeld
     refine pu 0 ?_
     refine tk 1 rfl (by intro w hSw; obtain ⟨⟨k0, k1, k2⟩, k3⟩ := hSw; go_simp; try with_reducible rfl) ?_
     refine pu 2 ?_
     refine pu 3 ?_
     refine pu 4 ?_
     refine pu 5 ?_
     refine pu 6 ?_
     refine pu 7 ?_
     refine pu 8 ?_
     refine pu 9 ?_
     refine tk 10 rfl (by intro w hSw; obtain ⟨⟨k0, k1, k2⟩, k3⟩ := hSw; go_simp; try with_reducible rfl) ?_
     refine pu 11 ?_
     refine on 12 rfl fun K hK => ?_
     obtain ⟨s3, s4⟩ := (show WS _ _ _ _ _ _ _ w6.drew from H6.out.keep (nextN (Mem.start _) 1)).at_ HJ.out.1 HI.out
     rw [HS.out] at s3 s4
     go_simp
     try dsimp only
     refine hK.out _ _ ?_ (fun hHeld => ?_)
     ·exact fun h => (st_no (by kernel_rfl) h).elim
     clear hK K
     try simp only [pU, pU0, pA, pB, pC]
     clear hHeld
     refine wpAnyG_done (by kernel_rfl) ?_ _
     refine NoPanic.normal ?_
     have h := H6.out.set HJ.out.1 HI.out x
     rw [HS.out] at h
     have H7 := Lib.hid (show WS _ _ _ _ _ _ _ (w6.setCell ⟨g, s, none⟩ (.int .u8 (x.toNat : Int))).drew from h.keep (nextN (Mem.start _) 1))
     clear h
     clear hHeld
     generalize (w6.setCell ⟨g, s, none⟩ (.int .u8 (x.toNat : Int))).drew = w7 at *
     go_wp2_with fail
     go_roundw
     case rel =>
      refine ⟨j + 1, by simp, ?_, by have := HJ.out.2; omega, HJ.out.1, H7.out.congr fun a _ c _ => ?_⟩
      ·rw [show offS n i + (j + 1 - i) = at_ + 1 by have h1 := HAT.out.2.2; have h2 := HJ.out.2; omega]; simp
      ·have h := sym_step n b HJ.out.2 a c
       rw [HXB.out] at h
       exact h
     case measure => simp [intOf]; omega
    ·obtain rfl : n = j := by omega
     go_wp2_with fail
     go_roundw
     case rel => exact ⟨i + 1, by simp, rfl, hin, H5.out.congr fun a ha c hc => sym_next n b i a c ha hc⟩
     case measure => simp [intOf]; omega
  ·obtain rfl : n = i := by omega
   obtain ⟨⟨c0, c1, c2⟩, _⟩ := H4.out.cells mm0
   obtain ⟨⟨d0, d1, d2⟩, f0, f1, f2⟩ := H4.out.cells mm1
   go_wp2_with fail
   obtain ⟨h1, h2, e0, e1, e2⟩ := H4.out.end_ mm1 (.int .i64 (n : Int)) (.int .i64 (n : Int)) (.slice (some ⟨g, 0, none⟩) (n * n) (n * n))
   refine bodyPost_ret (v := .tuple #[.agg #[.int .i64 (n : Int), .int .i64 (n : Int), .slice (some ⟨g, 0, none⟩) (n * n) (n * n)], .int .i64 0]) (by simp [results, Try.results31, go_sem, e0, e1, e2]) rfl ?_
   refine ⟨some ⟨g, 0, none⟩, n * n, rfl, Nat.le_refl _, ?_, h1⟩
   rw [flat_congr (m' := symM n b) fun a ha c hc => by unfold symUp; rw [if_pos (.inl (by omega))]] at h2
   exact h2
set_option maxRecDepth 100000 in
set_option maxHeartbeats 40000000 in
theorem rsym_bad (w : World) (n : Int) (A : Option Addr) (l cap : Nat) (hn : -9223372036854775808 ≤ n ∧ n ≤ 9223372036854775807) (h : n < 0 ∨ 65536 < n ∨ (0 ≤ n ∧ n ≤ 65536 ∧ (l : Int) ≠ n * (n + 1) / 2)) :
    Calls Try.prog 31 #[.int .i64 n, .slice A l cap] w (ErrM w 50) := by
 have H0 := Lib.hid (BS.start w)
 have H1 := Lib.hid (H0.out.put #[.int .i64 0, .int .i64 0, .slice none 0 0] 38 (by decide))
 obtain ⟨⟨d0, d1, d2⟩, f0, f1, f2⟩ := H1.out.cells mm0
 rcases h with h | h | ⟨h1, h2, h3⟩
 ·skip
  go_enter Try.func31, Try.ntmps31
  go_wp2_with fail
  exact bodyPost_ret (v := .tuple #[.agg #[.int .i64 0, .int .i64 0, .slice none 0 0], .int .i64 50]) (by simp [results, Try.results31, go_sem, d0, d1, d2]) rfl ⟨rfl, H1.out.below⟩
 ·have h' : ¬ n < 0 := by omega
  skip
  go_enter Try.func31, Try.ntmps31
  go_wp2_with fail
  exact bodyPost_ret (v := .tuple #[.agg #[.int .i64 0, .int .i64 0, .slice none 0 0], .int .i64 50]) (by simp [results, Try.results31, go_sem, d0, d1, d2]) rfl ⟨rfl, H1.out.below⟩
 ·have h' : ¬ n < 0 := by omega
  have h2' : ¬ (65536 : Int) < n := by omega
  have q1 : IntKind.i64.wrap (n + 1) = n + 1 := by rw [IntWalk.i64_in _ (by omega)]
  obtain ⟨P, hP⟩ : ∃ P : Int, n * (n + 1) = P := ⟨_, rfl⟩
  have hP2 : 0 ≤ P ∧ P ≤ 4295032832 := by
   obtain ⟨k, rfl⟩ : ∃ k : Nat, n = (k : Int) := ⟨n.toNat, by omega⟩
   have h4 : k * (k + 1) ≤ 65536 * 65537 := Nat.mul_le_mul (by omega) (by omega)
   rw [← hP]
   have h5 : ((k * (k + 1) : Nat) : Int) = (k : Int) * ((k : Int) + 1) := by simp
   omega
  have q2 : IntKind.i64.wrap P = P := by rw [IntWalk.i64_in _ (by omega)]
  have q3 : P.tdiv 2 = P / 2 := Int.tdiv_eq_ediv_of_nonneg hP2.1
  have q4 : IntKind.i64.wrap (P / 2) = P / 2 := by rw [IntWalk.i64_in _ (by omega)]
  rw [hP] at h3
  obtain ⟨Q, hQ⟩ : ∃ Q, P / 2 = Q := ⟨_, rfl⟩
  rw [hQ] at q3 q4 h3
  have h3' : ((l : Int) != Q) = true := by rw [bne_iff_ne]; exact h3
  clear hQ hP2 h3
  go_enter Try.func31, Try.ntmps31
  go_wp2_with fail
  exact bodyPost_ret (v := .tuple #[.agg #[.int .i64 0, .int .i64 0, .slice none 0 0], .int .i64 50]) (by simp [results, Try.results31, go_sem, d0, d1, d2]) rfl ⟨rfl, H1.out.below⟩
end Go.Proofs.Ythdapoipfnnaeaa.MxW
/- The document's Powers. -/
namespace Go.Proofs.Ythdapoipfnnaeaa.MxW
open Go.RowKit Go.Shelf Mem Gf FdW Mx Rng
open PlW (In)
set_option linter.unusedVariables false
set_option linter.unusedSectionVars false
attribute [local go_sem] Oper.semAt_some wide_fn

/-- A matrix whose bytes are put one behind another: its box gm, its bytes. -/
structure AS (w0 : World) (Y : List (Nat × TypeId × Array Value)) (gm : Nat) (R C : Int) (A : Option Addr) (cap : Nat) (l : List UInt8) (w : World) : Prop where
 bs : BS w0 Y w
 var : Blk w gm 38 #[.int .i64 R, .int .i64 C, .slice A l.length cap]
 row : Mem.Own w w0.heap.size 5 A cap (l.map u8v)
 far : w0.heap.size ≤ gm ∧ ∀ y ∈ Y, y.1 ≠ gm
section
variable {w0 w w' : World} {Y : List (Nat × TypeId × Array Value)} {gm : Nat} {R C : Int} {A : Option Addr} {cap : Nat} {l : List UInt8}
theorem AS.keep (h : AS w0 Y gm R C A cap l w) (hb : Below w.heap.size w w') : AS w0 Y gm R C A cap l w' := ⟨h.bs.keep hb, h.var.keep hb, h.row.keep hb, h.far⟩
theorem AS.cells (h : AS w0 Y gm R C A cap l w) : (w.cell? ⟨gm, 0, none⟩ = some (.int .i64 R) ∧ w.cell? ⟨gm, 1, none⟩ = some (.int .i64 C) ∧ w.cell? ⟨gm, 2, none⟩ = some (.slice A l.length cap)) ∧ w.frozen? ⟨gm, 0, none⟩ = false ∧ w.frozen? ⟨gm, 1, none⟩ = false ∧ w.frozen? ⟨gm, 2, none⟩ = false := cells3 h.var
/-- Bytes put behind it, in another world; the box is still to be written. -/
structure AA (w0 : World) (Y : List (Nat × TypeId × Array Value)) (gm : Nat) (R C : Int) (A : Option Addr) (cap n : Nat) (A' : Option Addr) (cap' : Nat) (l' : List UInt8) (w : World) : Prop where
 bs : BS w0 Y w
 var : Blk w gm 38 #[.int .i64 R, .int .i64 C, .slice A n cap]
 row : Mem.Own w w0.heap.size 5 A' cap' (l'.map u8v)
 far : w0.heap.size ≤ gm ∧ ∀ y ∈ Y, y.1 ≠ gm
theorem AS.app (h : AS w0 Y gm R C A cap l w) {l' : List UInt8} {A' : Option Addr} {cap' : Nat} (ho : Mem.Own w' w0.heap.size 5 A' cap' (l'.map u8v)) (hb : Below w0.heap.size w w') (hg : w.grownBy w' (A.map (·.block))) : AA w0 Y gm R C A cap l.length A' cap' l' w' :=
 ⟨⟨h.bs.below.trans hb, fun y hy => ⟨(h.bs.box y hy).1.app h.row (h.bs.box y hy).2.1 hg, (h.bs.box y hy).2⟩⟩, h.var.app h.row (by decide) hg, ho, h.far⟩
theorem AA.keep {n : Nat} {A' : Option Addr} {cap' : Nat} {l' : List UInt8} (h : AA w0 Y gm R C A cap n A' cap' l' w) (hb : Below w.heap.size w w') : AA w0 Y gm R C A cap n A' cap' l' w' := ⟨h.bs.keep hb, h.var.keep hb, h.row.keep hb, h.far⟩
theorem AA.cells {n : Nat} {A' : Option Addr} {cap' : Nat} {l' : List UInt8} (h : AA w0 Y gm R C A cap n A' cap' l' w) : w.cell? ⟨gm, 2, none⟩ = some (.slice A n cap) ∧ w.frozen? ⟨gm, 2, none⟩ = false := ⟨(cells3 h.var).1.2.2, (cells3 h.var).2.2.2⟩
theorem AA.set {n : Nat} {A' : Option Addr} {cap' : Nat} {l' : List UInt8} (h : AA w0 Y gm R C A cap n A' cap' l' w) : AS w0 Y gm R C A' cap' l' (w.setCell ⟨gm, 2, none⟩ (.slice A' l'.length cap')) := by
 have hf := setF (p := gm) w ⟨gm, 2, none⟩ rfl (.slice A' l'.length cap')
 refine ⟨⟨h.bs.below.trans (hf.below h.bs.below.size fun k hk => by rw [hk]; exact h.far.1), fun y hy => ⟨(h.bs.box y hy).1.fr hf (h.far.2 y hy), (h.bs.box y hy).2⟩⟩, h.var.set_ 2 _, Own.fr h.row hf fun g e e2 => ?_, h.far⟩
 exact h.var.ne_own h.row (by decide) g e e2
theorem AS.start (h : BS w0 Y w) (R C : Int) : AS w0 Y w.heap.size R C none 0 [] (w.alloc (.cells #[.int .i64 R, .int .i64 C, .slice none 0 0] 38)) :=
 ⟨h.keep (nextA (Mem.start w) _), Blk.new w _ _, Mem.Own.nil, h.below.size, fun y hy => by have := (h.box y hy).1.lt; omega⟩
theorem AS.end_ (h : AS w0 Y gm R C A cap l w) {b : Nat} {c0 c1 c2 : Value} (hy : (b, 38, #[c0, c1, c2]) ∈ Y) (v0 v1 v2 : Value) :
    let w' := (((w.setCell ⟨b, 0, none⟩ v0).setCell ⟨b, 1, none⟩ v1).setCell ⟨b, 2, none⟩ v2)
    Below w0.heap.size w0 w' ∧ Nw w0.heap.size w' A l ∧ w'.cell? ⟨b, 0, none⟩ = some v0 ∧ w'.cell? ⟨b, 1, none⟩ = some v1 ∧ w'.cell? ⟨b, 2, none⟩ = some v2 := by
 obtain ⟨h1, h2, h3⟩ := h.bs.end_ hy v0 v1 v2
 refine ⟨h1, Nw.of_own (Own.fr h.row h2 fun g e e2 => ?_), h3⟩
 exact (h.bs.box _ hy).1.ne_own h.row (h.bs.box _ hy).2.1 g e e2
end
set_option maxRecDepth 100000 in
set_option maxHeartbeats 40000000 in
theorem rpow_any (w : World) (A : Option Addr) (xs : List UInt8) (n cap : Nat) (hn : xs.length = n) (cols : Int) (c : Nat) (hA : Bytes w w.heap.size A xs) (hr : n ≤ 1000) (hc : cols ≤ 1000) (hcc : max 0 cols = (c : Int)) :
    Calls Try.prog 33 #[.slice A n cap, .int .i64 cols] w (NewM w n c (powM xs)) := by
 obtain ⟨i0, hi0, hz0, hz1, hz2⟩ := info_parts u8info
 have HI0 := Lib.hid (And.intro hi0 (And.intro hz0 (And.intro hz1 hz2)))
 clear hi0 hz0 hz1 hz2
 have hc0 : 0 ≤ c ∧ c ≤ 1000 := by omega
 have HN := Lib.hid (show n ≤ 1000 ∧ c ≤ 1000 ∧ xs.length = n from ⟨hr, hc0.2, hn⟩)
 have HA := Lib.hid hA
 have H0 := Lib.hid (BS.start w)
 have H1 := Lib.hid (H0.out.put #[.int .i64 0, .int .i64 0, .slice none 0 0] 38 (by decide))
 have h1 : ¬ (65536 : Int) < (n : Int) := by omega
 have h2 : ¬ (65536 : Int) < cols := by omega
 clear hA hn
 go_enter Try.func33, Try.ntmps33
 by_cases hneg : cols < 0
 ·obtain rfl : c = 0 := by omega
  have hneg' : ¬ (16777216 : Int) < 0 := by omega
  go_wp2_with fail
  obtain ⟨w1, hw1⟩ : ∃ x : World, w.alloc (.cells #[.int .i64 0, .int .i64 0, .slice none 0 0] 38) = x := ⟨_, rfl⟩
  rw [hw1] at H1
  have HS1 := Lib.hid (show w1.heap.size = w.heap.size + 1 from by rw [← hw1, World.size_alloc])
  have H2 := Lib.hid (AS.start H1.out (n : Int) 0)
  rw [HS1.out] at H2
  rw [hw1]
  generalize w1.alloc (.cells #[.int .i64 (n : Int), .int .i64 0, .slice none 0 0] 38) = w2 at *
  clear hw1 H1 HS1
  obtain ⟨gm, hgm⟩ : ∃ x, w.heap.size + 1 = x := ⟨_, rfl⟩
  rw [hgm] at H2 ⊢
  clear hgm
  go_loopw [6] (fun i wr => ∃ (j : Nat) (A2 : Option Addr) (c2 : Nat), i = .int .i64 (j : Int) ∧ j ≤ n ∧ AS w [(w.heap.size, 38, #[.int .i64 0, .int .i64 0, .slice none 0 0])] gm (n : Int) 0 A2 c2 (flat j 0 (powM xs)) wr) (fun i _ => n - (intOf i).toNat)
  case atStart => exact ⟨0, none, 0, rfl, Nat.zero_le _, by rw [flat_nil]; exact H2.out⟩
  case round =>
   obtain ⟨j, A2, c2, rfl, hj, h⟩ := hrel
   have H4 := Lib.hid h
   clear h H2
   obtain ⟨w4, rfl⟩ : ∃ w4 : World, w4 = wr := ⟨_, rfl⟩
   by_cases hjn : j < n
   ·have hj1 : (j : Int) < (n : Int) := by omega
    have hj0 : (0 : Int) ≤ (j : Int) := by omega
    have hwj : IntKind.i64.wrap ((j : Int) + 1) = ((j + 1 : Nat) : Int) := by have := HN.out.1; rw [IntWalk.i64_in _ (by omega)]; omega
    have HJ := Lib.hid hjn
    obtain ⟨ab, ob, rfl, _, _⟩ := HA.out.at_ (k := j) (by rw [HN.out.2.2]; exact hjn)
    obtain ⟨x, hx⟩ : ∃ x, xs.getD j 0 = x := ⟨_, rfl⟩
    have HX := Lib.hid (show ∀ W : World, Below w.heap.size w W → W.cell? ⟨ab, ob + j, none⟩ = some (.int .u8 (x.toNat : Int)) from fun W hW => by
     obtain ⟨b', o', e', _, hc⟩ := (HA.out.below hW).at_ (k := j) (by rw [HN.out.2.2]; exact hjn)
     injection e' with e'; injection e' with e1 e2; subst e1; subst e2
     rw [← hx, List.getD_eq_getElem?_getD, List.getElem?_eq_getElem (by rw [HN.out.2.2]; exact hjn)]; exact hc)
    have HXE := Lib.hid hx
    clear hx
    go_wp2_with fail
    go_loopw [7, 8] (fun p k wr => ∃ (i : Nat) (A3 : Option Addr) (c3 : Nat), k = .int .i64 (i : Int) ∧ p = .int .u8 ((pow x (i : Int)).toNat : Int) ∧ i ≤ 0 ∧ AS w [(w.heap.size, 38, #[.int .i64 0, .int .i64 0, .slice none 0 0])] gm (n : Int) 0 A3 c3 (flat j 0 (powM xs) ++ row i (powM xs j)) wr) (fun _ k _ => 0 - (intOf k).toNat)
    case atStart => exact ⟨0, A2, c2, rfl, by rw [show ((0 : Nat) : Int) = 0 from rfl, pow_zero]; rfl, Nat.zero_le _, by rw [show row 0 (powM xs j) = [] from rfl, List.append_nil]; exact H4.out⟩
    case round =>
     obtain ⟨i, A3, c3, rfl, rfl, hi, h⟩ := hrel
     have H5 := Lib.hid h
     clear h
     obtain ⟨w5, rfl⟩ : ∃ w5 : World, w5 = wr := ⟨_, rfl⟩
     obtain rfl : i = 0 := by omega
     go_wp2_with fail
     go_roundw
     case rel => exact ⟨j + 1, A3, c3, by simp, HJ.out, by rw [flat_succ]; exact H5.out⟩
     case measure => simp [intOf]; omega
   ·obtain rfl : j = n := by omega
    obtain ⟨⟨c0, c1, c2'⟩, _⟩ := H4.out.cells
    obtain ⟨⟨d0, d1, d2⟩, f0, f1, f2⟩ := H4.out.bs.cells mm0
    obtain ⟨lq, hlq⟩ : ∃ lq, (flat j 0 (powM xs)).length = lq := ⟨_, rfl⟩
    rw [hlq] at c2'
    have hfin := H4.out.end_ mm0 (.int .i64 (j : Int)) (.int .i64 0) (.slice A2 lq c2)
    have HLQ := Lib.hid (hlq.symm.trans (flat_len _ _ _))
    have HL := Lib.hid (H4.out.row)
    go_wp2_with fail
    obtain ⟨h1, h2, e0, e1, e2⟩ := hfin
    refine bodyPost_ret (v := .agg #[.int .i64 (j : Int), .int .i64 0, .slice A2 lq c2]) (by simp [results, Try.results33, go_sem, e0, e1, e2]) rfl ?_
    have e9 := HLQ.out
    subst e9
    refine ⟨A2, c2, rfl, ?_, h2, h1⟩
    have h3 := HL.out.le
    rw [List.length_map, flat_len] at h3
    exact h3
 ·obtain rfl : cols = (c : Int) := by omega
  have h4 : n * c ≤ 1000 * 1000 := Nat.mul_le_mul hr hc0.2
  have h3 : ¬ (16777216 : Int) < ((n * c : Nat) : Int) := by omega
  have h5 : IntKind.i64.wrap ((n : Int) * (c : Int)) = ((n * c : Nat) : Int) := by
   rw [show (n : Int) * (c : Int) = ((n * c : Nat) : Int) by simp, IntWalk.i64_in _ (by omega)]
  clear h4
  obtain ⟨q, hq⟩ : ∃ q, n * c = q := ⟨_, rfl⟩
  rw [hq] at h3 h5
  clear hq
  go_wp2_with fail
  obtain ⟨w1, hw1⟩ : ∃ x : World, w.alloc (.cells #[.int .i64 0, .int .i64 0, .slice none 0 0] 38) = x := ⟨_, rfl⟩
  rw [hw1] at H1
  have HS1 := Lib.hid (show w1.heap.size = w.heap.size + 1 from by rw [← hw1, World.size_alloc])
  have H2 := Lib.hid (AS.start H1.out (n : Int) (c : Int))
  rw [HS1.out] at H2
  rw [hw1]
  generalize w1.alloc (.cells #[.int .i64 (n : Int), .int .i64 (c : Int), .slice none 0 0] 38) = w2 at *
  clear hw1 H1 HS1
  obtain ⟨gm, hgm⟩ : ∃ x, w.heap.size + 1 = x := ⟨_, rfl⟩
  rw [hgm] at H2 ⊢
  clear hgm
  go_loopw [6] (fun i wr => ∃ (j : Nat) (A2 : Option Addr) (c2 : Nat), i = .int .i64 (j : Int) ∧ j ≤ n ∧ AS w [(w.heap.size, 38, #[.int .i64 0, .int .i64 0, .slice none 0 0])] gm (n : Int) (c : Int) A2 c2 (flat j c (powM xs)) wr) (fun i _ => n - (intOf i).toNat)
  case atStart => exact ⟨0, none, 0, rfl, Nat.zero_le _, by rw [flat_nil]; exact H2.out⟩
  case round =>
   obtain ⟨j, A2, c2, rfl, hj, h⟩ := hrel
   have H4 := Lib.hid h
   clear h H2
   obtain ⟨w4, rfl⟩ : ∃ w4 : World, w4 = wr := ⟨_, rfl⟩
   by_cases hjn : j < n
   ·have hj1 : (j : Int) < (n : Int) := by omega
    have hj0 : (0 : Int) ≤ (j : Int) := by omega
    have hwj : IntKind.i64.wrap ((j : Int) + 1) = ((j + 1 : Nat) : Int) := by have := HN.out.1; rw [IntWalk.i64_in _ (by omega)]; omega
    have HJ := Lib.hid hjn
    obtain ⟨ab, ob, rfl, _, _⟩ := HA.out.at_ (k := j) (by rw [HN.out.2.2]; exact hjn)
    obtain ⟨x, hx⟩ : ∃ x, xs.getD j 0 = x := ⟨_, rfl⟩
    have HX := Lib.hid (show ∀ W : World, Below w.heap.size w W → W.cell? ⟨ab, ob + j, none⟩ = some (.int .u8 (x.toNat : Int)) from fun W hW => by
     obtain ⟨b', o', e', _, hc⟩ := (HA.out.below hW).at_ (k := j) (by rw [HN.out.2.2]; exact hjn)
     injection e' with e'; injection e' with e1 e2; subst e1; subst e2
     rw [← hx, List.getD_eq_getElem?_getD, List.getElem?_eq_getElem (by rw [HN.out.2.2]; exact hjn)]; exact hc)
    have HXE := Lib.hid hx
    clear hx
    go_wp2_with fail
    go_loopw [7, 8] (fun p k wr => ∃ (i : Nat) (A3 : Option Addr) (c3 : Nat), k = .int .i64 (i : Int) ∧ p = .int .u8 ((pow x (i : Int)).toNat : Int) ∧ i ≤ c ∧ AS w [(w.heap.size, 38, #[.int .i64 0, .int .i64 0, .slice none 0 0])] gm (n : Int) (c : Int) A3 c3 (flat j c (powM xs) ++ row i (powM xs j)) wr) (fun _ k _ => c - (intOf k).toNat)
    case atStart => exact ⟨0, A2, c2, rfl, by rw [show ((0 : Nat) : Int) = 0 from rfl, pow_zero]; rfl, Nat.zero_le _, by rw [show row 0 (powM xs j) = [] from rfl, List.append_nil]; exact H4.out⟩
    case round =>
     obtain ⟨i, A3, c3, rfl, rfl, hi, h⟩ := hrel
     have H5 := Lib.hid h
     clear h
     obtain ⟨w5, rfl⟩ : ∃ w5 : World, w5 = wr := ⟨_, rfl⟩
     by_cases hic : i < c
     ·have hi1 : (i : Int) < (c : Int) := by omega
      have hi0 : (0 : Int) ≤ (i : Int) := by omega
      have hwi : IntKind.i64.wrap ((i : Int) + 1) = ((i + 1 : Nat) : Int) := by have := HN.out.2.1; rw [IntWalk.i64_in _ (by omega)]; omega
      obtain ⟨p, hp⟩ : ∃ p, pow x (i : Int) = p := ⟨_, rfl⟩
      rw [hp]
      have HP := Lib.hid (show pow x ((i + 1 : Nat) : Int) = mul p x from by rw [Mx.pow_rp, ← hp, Mx.pow_rp]; rfl)
      have HPM := Lib.hid (show powM xs j i = p from by unfold powM; rw [HXE.out, hp])
      have HIC := Lib.hid hic
      clear hp
      obtain ⟨len, hlen⟩ : ∃ len, (flat j c (powM xs) ++ row i (powM xs j)).length = len := ⟨_, rfl⟩
      have HLN := Lib.hid (show len = ((flat j c (powM xs) ++ row i (powM xs j)).map u8v).length ∧ len ≤ 2000000 from by
       refine ⟨by rw [List.length_map, hlen], ?_⟩
       rw [← hlen, List.length_append, flat_len, row_len]
       have h4 : j * c ≤ 1000 * 1000 := Nat.mul_le_mul (by have := HN.out.1; have := HJ.out; omega) HN.out.2.1
       have := HN.out.2.1
       omega)
      have HLN2 := Lib.hid (show (flat j c (powM xs) ++ row (i + 1) (powM xs j)).length = len + 1 from by rw [← hlen, List.length_append, List.length_append, row_len, row_len]; omega)
      have HLN3 := Lib.hid hlen
      obtain ⟨⟨k0, k1, k2⟩, _⟩ := H5.out.cells
      rw [hlen] at k2
      have hb1 := Mx_build1 w5 (p.toNat : Int)
      have HCO := Lib.hid (cells_one w5 (.int .u8 (p.toNat : Int)) 5 (w5.heap.size + 1) (by omega))
      have H6 := Lib.hid (H5.out.keep (nextA (Mem.start w5) (.cells #[.int .u8 (p.toNat : Int)] 5)))
      obtain ⟨hi0, hz0, hz1, hz2⟩ := HI0.out
      go_wp2_with ((with_reducible show wpList _ _ _ ((⟨some 44, _, _, _, _, _⟩ : Oper) :: _) _ _); refine wpList_app _ rfl _ _ _ rfl w.heap.size 5 i0 _ 1 Try.underlying22 hi0 hz0 hz1 hz2 rfl A3 c3 _ ((flat j c (powM xs) ++ row i (powM xs j)).map u8v) rfl HLN.out.1 H6.out.row _ _ _ 1 [.int .u8 (p.toNat : Int)] rfl rfl HCO.out (by simp [Value.oneCell']) (by rw [← HLN.out.1]; have := HLN.out.2; simp [maxLen]; omega) (by rw [← HLN.out.1]; have := HLN.out.2; simp; omega) H6.out.bs.below.size (len + 1) rfl ?_; intro A4 c4 w6 ho hb hg _; have H7 := Lib.hid (H6.out.app (l' := flat j c (powM xs) ++ row (i + 1) (powM xs j)) (by rw [row_succ, HPM.out, ← List.append_assoc, List.map_append]; exact ho) hb hg); clear ho hb hg; have h8 := H7.out.set; rw [HLN2.out] at h8; have H8 := Lib.hid h8; clear h8; obtain ⟨k3, k4⟩ := H7.out.cells; rw [HLN3.out] at k3; have hx := HX.out _ H8.out.bs.below)
      refine (refMul_any _ _ p x rfl rfl _).mono ?_
      rintro e w' ⟨rfl, rfl⟩
      go_wp2_with fail
      go_roundw
      case rel => exact ⟨i + 1, A4, c4, by simp, by rw [HP.out], HIC.out, H8.out⟩
      case measure => simp [intOf]; omega
     ·obtain rfl : i = c := by omega
      go_wp2_with fail
      go_roundw
      case rel => exact ⟨j + 1, A3, c3, by simp, HJ.out, by rw [flat_succ]; exact H5.out⟩
      case measure => simp [intOf]; omega
   ·obtain rfl : j = n := by omega
    obtain ⟨⟨c0, c1, c2'⟩, _⟩ := H4.out.cells
    obtain ⟨⟨d0, d1, d2⟩, f0, f1, f2⟩ := H4.out.bs.cells mm0
    obtain ⟨lq, hlq⟩ : ∃ lq, (flat j c (powM xs)).length = lq := ⟨_, rfl⟩
    rw [hlq] at c2'
    have hfin := H4.out.end_ mm0 (.int .i64 (j : Int)) (.int .i64 (c : Int)) (.slice A2 lq c2)
    have HLQ := Lib.hid (hlq.symm.trans (flat_len _ _ _))
    have HL := Lib.hid (H4.out.row)
    go_wp2_with fail
    obtain ⟨h1, h2, e0, e1, e2⟩ := hfin
    refine bodyPost_ret (v := .agg #[.int .i64 (j : Int), .int .i64 (c : Int), .slice A2 lq c2]) (by simp [results, Try.results33, go_sem, e0, e1, e2]) rfl ?_
    have e9 := HLQ.out
    subst e9
    refine ⟨A2, c2, rfl, ?_, h2, h1⟩
    have h3 := HL.out.le
    rw [List.length_map, flat_len] at h3
    exact h3
end Go.Proofs.Ythdapoipfnnaeaa.MxW
/- Rows cut out of a matrix' bytes; the document's Pick. -/
namespace Go.Proofs.Ythdapoipfnnaeaa.MxW
open Go.RowKit Go.Shelf Mem Gf FdW Mx Rng
open PlW (In)
set_option linter.unusedVariables false
set_option linter.unusedSectionVars false
attribute [local go_sem] Oper.semAt_some wide_fn

def cutA (A : Option Addr) (cap lo : Nat) : Option Addr := if cap = lo then A else A.map (·.add lo)
theorem cut_run (W : World) (A : Option Addr) (n cap lo hi : Nat) (h : lo ≤ hi) (h2 : hi ≤ cap) (d e : Nat) (hd : hi - lo = d) (he : cap - lo = e) :
    (Instr.sliceAt 22 (.slice A n cap) (some (.int .i64 (lo : Int))) (some (.int .i64 (hi : Int))) none).run Try.prog W = .ok (.slice (cutA A cap lo) d e) W := by
 have a1 : (lo : Int) ≤ (hi : Int) := by omega
 have a2 : (hi : Int) ≤ (cap : Int) := by omega
 have a3 : (0 : Int) ≤ (lo : Int) := by omega
 have a4 : (0 : Int) ≤ (hi : Int) := by omega
 unfold cutA
 by_cases h3 : cap = lo
 ·have a5 : hi ≤ lo := by omega
  obtain rfl : e = 0 := by omega
  go_simp
 ·go_simp
theorem cut_bytes {w : World} {B : Nat} {A : Option Addr} {l : List UInt8} (h : Bytes w B A l) {cap lo k : Nat} (hl : lo + k ≤ l.length) (hc : l.length ≤ cap) : Bytes w B (cutA A cap lo) ((l.drop lo).take k) := by
 rcases Nat.eq_zero_or_pos k with rfl | hk
 ·rw [List.take_zero]; exact Bytes.nil
 ·obtain ⟨b, o, rfl, _⟩ := h.at_ (k := lo) (by omega)
  unfold cutA
  rw [if_neg (by omega), Option.map_some, addr_add]
  exact (h.drop lo).take k
theorem cut_row {w : World} {B r c i cap : Nat} {A : Option Addr} {m : M} (h : Bytes w B A (flat r c m)) (hi : i < r) (hc : r * c ≤ cap) : Bytes w B (cutA A cap (i * c)) (row c (m i)) := by
 rw [← flat_row hi]
 exact cut_bytes h (by rw [flat_len]; exact idx_le hi) (by rw [flat_len]; exact hc)
def i64v (v : Int) : Value := .int .i64 v
def allIn (r : Nat) (ks : List Int) : Bool := ks.all fun v => decide (0 ≤ v ∧ v < (r : Int))
def pickM (m : M) (ks : List Int) : M := fun i k => m (ks.getD i 0).toNat k
def PickOk (w : World) (n c : Nat) (m : M) (ok : Bool) (e : Ending) (w' : World) : Prop := (ok = true → NewT w n c m e w') ∧ (ok = false → ErrM w 2 e w')
set_option maxRecDepth 100000 in
set_option maxHeartbeats 40000000 in
theorem rpick_any (w : World) (r c : Nat) (A : Option Addr) (nn cap : Nat) (m : M) (K : Option Addr) (ks : List Int) (n ck : Nat) (hn : ks.length = n) (hnn : nn = r * c) (hd : r ≤ 100 ∧ c ≤ 100 ∧ n ≤ 100) (hcap : nn ≤ cap) (hA : Bytes w w.heap.size A (flat r c m)) (hK : Cells w w.heap.size K (ks.map i64v)) (h64 : ∀ v ∈ ks, -9223372036854775808 ≤ v ∧ v ≤ 9223372036854775807) :
    Calls Try.prog 29 #[.agg #[.int .i64 (r : Int), .int .i64 (c : Int), .slice A nn cap], .slice K n ck] w (PickOk w n c (pickM m ks) (allIn r ks)) := by
 obtain ⟨i0, hi0, hz0, hz1, hz2⟩ := info_parts u8info
 have HI0 := Lib.hid (And.intro hi0 (And.intro hz0 (And.intro hz1 hz2)))
 clear hi0 hz0 hz1 hz2
 have HN := Lib.hid (And.intro hd (And.intro hn (And.intro hnn hcap)))
 have HA := Lib.hid hA
 have HK := Lib.hid hK
 have H64 := Lib.hid h64
 have h1 : ¬ (65536 : Int) < (n : Int) := by omega
 have hnc : n * c ≤ 100 * 100 := Nat.mul_le_mul hd.2.2 hd.2.1
 obtain ⟨q, hq⟩ : ∃ q, n * c = q := ⟨_, rfl⟩
 have h2 : ¬ (16777216 : Int) < (q : Int) := by omega
 have h3 : IntKind.i64.wrap ((n : Int) * (c : Int)) = (q : Int) := by
  rw [show (n : Int) * (c : Int) = (q : Int) by rw [← hq]; simp, IntWalk.i64_in _ (by omega)]
 have HR := Lib.hid (show rightB (r : Int) (c : Int) nn = true from right_dim ⟨hd.1, hd.2.1⟩ hnn)
 have H0 := Lib.hid (((BS.start w).put (mcells r c A nn cap) 38 (by decide)).put #[.int .i64 0, .int .i64 0, .slice none 0 0] 38 (by decide))
 clear hA hK h64 hnc hq hn hnn hd hcap
 go_enter Try.func29, Try.ntmps29
 obtain ⟨⟨a0, a1, a2⟩, _⟩ := H0.out.cells mm1
 go_wp2_with fail
 clear a0 a1 a2
 obtain ⟨w1, hw1⟩ : ∃ x : World, (w.alloc (.cells #[.int .i64 (r : Int), .int .i64 (c : Int), .slice A nn cap] 38)).alloc (.cells #[.int .i64 0, .int .i64 0, .slice none 0 0] 38) = x := ⟨_, rfl⟩
 have hw1' : (w.alloc (.cells (mcells r c A nn cap) 38)).alloc (.cells #[.int .i64 0, .int .i64 0, .slice none 0 0] 38) = w1 := hw1
 rw [hw1', World.size_alloc] at H0
 rw [hw1]
 clear hw1 hw1'
 obtain ⟨ga, hga⟩ : ∃ x, w.heap.size = x := ⟨_, rfl⟩
 obtain ⟨g0, hg0⟩ : ∃ x, ga + 1 = x := ⟨_, rfl⟩
 rw [hga, hg0] at H0 ⊢
 refine (rright_any w1 _ _ A nn cap).mono ?_
 rintro e w2 ⟨rfl, hb⟩
 rw [HR.out]
 have H1 := Lib.hid (H0.out.keep hb)
 clear hb H0
 obtain ⟨⟨a0, a1, a2⟩, _⟩ := H1.out.cells mm1
 have H2 := Lib.hid (AS.start H1.out (n : Int) (c : Int))
 go_wp2_with fail
 clear a0 a1 a2 h1 h2 h3
 obtain ⟨gm, hgm⟩ : ∃ x, w2.heap.size = x := ⟨_, rfl⟩
 rw [hgm] at H2 ⊢
 clear hgm
 generalize w2.alloc (.cells #[.int .i64 (n : Int), .int .i64 (c : Int), .slice none 0 0] 38) = w3 at *
 go_loopw [7] (fun i wr => ∃ (j : Nat) (A2 : Option Addr) (c2 : Nat), i = .int .i64 (j : Int) ∧ j ≤ n ∧ (∀ i, i < j → 0 ≤ ks.getD i 0 ∧ ks.getD i 0 < (r : Int)) ∧ AS w [(g0, 38, #[.int .i64 0, .int .i64 0, .slice none 0 0]), (ga, 38, mcells r c A nn cap)] gm (n : Int) (c : Int) A2 c2 (flat j c (pickM m ks)) wr) (fun i _ => n - (intOf i).toNat)
 case atStart => exact ⟨0, none, 0, rfl, Nat.zero_le _, fun i hi => absurd hi (Nat.not_lt_zero _), by rw [flat_nil]; exact H2.out⟩
 case round =>
  obtain ⟨j, A2, c2, rfl, hj, hin, h⟩ := hrel
  have H4 := Lib.hid h
  have HIN := Lib.hid hin
  clear h H2 hin
  obtain ⟨w4, rfl⟩ : ∃ w4 : World, w4 = wr := ⟨_, rfl⟩
  by_cases hjn : j < n
  ·have hj1 : (j : Int) < (n : Int) := by omega
   have hj0 : (0 : Int) ≤ (j : Int) := by omega
   have hwj : IntKind.i64.wrap ((j : Int) + 1) = ((j + 1 : Nat) : Int) := by have := HN.out.1.2.2; rw [IntWalk.i64_in _ (by omega)]; omega
   have HJ := Lib.hid hjn
   have hjl : j < (ks.map i64v).length := by rw [List.length_map, HN.out.2.1]; exact hjn
   obtain ⟨kb, ko, rfl, -, -⟩ := HK.out.at_ (k := j) hjl
   obtain ⟨v, hv⟩ : ∃ v, ks.getD j 0 = v := ⟨_, rfl⟩
   have HV := Lib.hid (show ∀ W : World, Below w.heap.size w W → W.cell? ⟨kb, ko + j, none⟩ = some (.int .i64 v) from fun W hW => by
    obtain ⟨b', o', e', _, hc⟩ := (HK.out.below hW).at_ (k := j) hjl
    injection e' with e'; injection e' with e1 e2; subst e1; subst e2
    rw [hc, List.getElem_map, ← hv, List.getD_eq_getElem?_getD, List.getElem?_eq_getElem (by rw [HN.out.2.1]; exact hjn)]; rfl)
   have HVE := Lib.hid hv
   have HVM := Lib.hid (show v ∈ ks from by rw [← hv, List.getD_eq_getElem?_getD, List.getElem?_eq_getElem (by rw [HN.out.2.1]; exact hjn)]; exact List.getElem_mem _)
   clear hv hjl
   obtain ⟨⟨a0, a1, a2⟩, _⟩ := H4.out.bs.cells mm1
   have hv0 := HV.out _ H4.out.bs.below
   by_cases hvin : 0 ≤ v ∧ v < (r : Int)
   ·obtain ⟨k, rfl⟩ : ∃ k : Nat, v = (k : Int) := ⟨v.toNat, by omega⟩
    have hkr : k < r := by omega
    have hk0 : ¬ (k : Int) < 0 := by omega
    have hk1 : ¬ (r : Int) ≤ (k : Int) := by omega
    have HKR := Lib.hid hkr
    have HCR := Lib.hid (show r * c ≤ cap from by have := HN.out.2.2; omega)
    have hlo : k * c + c ≤ r * c := idx_le hkr
    have hrc : r * c ≤ 100 * 100 := Nat.mul_le_mul HN.out.1.1 HN.out.1.2.1
    obtain ⟨p, hp⟩ : ∃ p, k * c = p := ⟨_, rfl⟩
    obtain ⟨s, hs⟩ : ∃ s, p + c = s := ⟨_, rfl⟩
    have HP := Lib.hid (And.intro hp hs)
    have hw1 : IntKind.i64.wrap ((k : Int) * (c : Int)) = (p : Int) := by rw [show (k : Int) * (c : Int) = (p : Int) by rw [← hp]; simp, IntWalk.i64_in _ (by omega)]
    have hw2 : IntKind.i64.wrap ((p : Int) + (c : Int)) = (s : Int) := by rw [IntWalk.i64_in _ (by omega)]; omega
    have hcut := fun W => cut_run W A nn cap p s (by omega) (by have := HCR.out; omega) c (cap - p) (by omega) rfl
    rw [hp] at hlo
    have HCR2 := Lib.hid (show Bytes w w.heap.size A (flat r c m) → True from fun _ => trivial)
    obtain ⟨lj, hlj⟩ : ∃ lj, (flat j c (pickM m ks)).length = lj := ⟨_, rfl⟩
    have HLJ := Lib.hid (show (flat j c (pickM m ks)).length = lj ∧ lj ≤ 10000 from ⟨hlj, by
     rw [← hlj, flat_len]
     have h4 : j * c ≤ 100 * 100 := Nat.mul_le_mul (by have := HN.out.1.2.2; omega) HN.out.1.2.1
     omega⟩)
    have HMJ := Lib.hid (show pickM m ks j = m k from by unfold pickM; rw [HVE.out]; rfl)
    clear hp hs hlj hlo hrc hvin HCR2 hkr
    go_wp2_with fail
    go_quiet (fail)
    obtain ⟨w5, hw5⟩ : ∃ x : World, w4.drewN nq = x := ⟨_, rfl⟩
    have H5 := Lib.hid (show AS w [(g0, 38, #[.int .i64 0, .int .i64 0, .slice none 0 0]), (ga, 38, mcells r c A nn cap)] gm (n : Int) (c : Int) A2 c2 (flat j c (pickM m ks)) w5 from by rw [← hw5]; exact H4.out.keep (nextN (Mem.start w4) nq))
    rw [hw5]
    clear hw5 hv0 a0 a1 a2
    go_wp2_with fail
    have H4D := Lib.hid (show AS w [(g0, 38, #[.int .i64 0, .int .i64 0, .slice none 0 0]), (ga, 38, mcells r c A nn cap)] gm (n : Int) (c : Int) A2 c2 (flat j c (pickM m ks)) w5.drew from H5.out.keep (nextN (Mem.start w5) 1))
    obtain ⟨hi0, hz0, hz1, hz2⟩ := HI0.out
    refine wp_region_noPanic ?_
    refine wp_heldG (fun w' => w'.cell? ⟨gm, 2, none⟩ = some (.slice A2 lj c2) ∧ (w'.cell? ⟨ga, 0, none⟩ = some (.int .i64 (r : Int)) ∧ w'.cell? ⟨ga, 1, none⟩ = some (.int .i64 (c : Int)) ∧ w'.cell? ⟨ga, 2, none⟩ = some (.slice A nn cap)) ∧ w'.cell? ⟨kb, ko + j, none⟩ = some (.int .i64 (k : Int))) [24] (by kernel_rfl) ?hs0 ?rg0
    case hs0 =>
     have k2 := H4D.out.cells.1.2.2
     rw [HLJ.out.1] at k2
     exact ⟨k2, (H4D.out.bs.cells mm1).1, HV.out _ H4D.out.bs.below⟩
    case rg0 =>
    intro hHeld
    refine pu 0 ?_
    refine tk 1 rfl (by intro w hSw; obtain ⟨k3, ⟨k0, k1, k2⟩, k4⟩ := hSw; go_simp; try with_reducible rfl) ?_
    refine pu 2 ?_
    refine tk 3 rfl (by intro w hSw; obtain ⟨k3, ⟨k0, k1, k2⟩, k4⟩ := hSw; go_simp; try with_reducible rfl) ?_
    refine pu 4 ?_
    refine pu 5 ?_
    refine pu 6 ?_
    refine tk 7 rfl (by intro w hSw; obtain ⟨k3, ⟨k0, k1, k2⟩, k4⟩ := hSw; go_simp; try with_reducible rfl) ?_
    refine pu 8 ?_
    refine tk 9 rfl (by intro w hSw; obtain ⟨k3, ⟨k0, k1, k2⟩, k4⟩ := hSw; go_simp; try with_reducible rfl) ?_
    refine pu 10 ?_
    refine pu 11 ?_
    refine pu 12 ?_
    refine pu 13 ?_
    refine tk 14 rfl (by intro w hSw; obtain ⟨k3, ⟨k0, k1, k2⟩, k4⟩ := hSw; go_simp; try with_reducible rfl) ?_
    refine pu 15 ?_
    refine tk 16 rfl (by intro w hSw; obtain ⟨k3, ⟨k0, k1, k2⟩, k4⟩ := hSw; go_simp; try with_reducible rfl) ?_
    refine pu 17 ?_
    refine pu 18 ?_
    refine tk 19 rfl (by intro w hSw; obtain ⟨k3, ⟨k0, k1, k2⟩, k4⟩ := hSw; go_simp; try with_reducible rfl) ?_
    refine pu 20 ?_
    refine pu 21 ?_
    refine on 22 rfl fun K hK => ?_
    refine step_app _ rfl _ _ _ rfl w.heap.size 5 i0 _ 1 Try.underlying22 hi0 hz0 hz1 hz2 rfl A2 c2 lj ((flat j c (pickM m ks)).map u8v) rfl (by rw [List.length_map, HLJ.out.1]) (H4D.out.row) w.heap.size (cutA A cap p) (cap - p) c ((row c (m k)).map u8v) rfl (by rw [List.length_map, row_len]) (by have h := cut_row (HA.out.below H4D.out.bs.below) HKR.out HCR.out; rw [HP.out.1] at h; exact h) u8v_one (by rw [List.length_map, List.length_map, HLJ.out.1, row_len]; have := HLJ.out.2; have := HN.out.1; simp [maxLen]; omega) (by rw [List.length_map, List.length_map, HLJ.out.1, row_len]; have := HLJ.out.2; have := HN.out.1; omega) H4D.out.bs.below.size (lj + c) rfl ?_
    intro A5 c5 w7 ho7 hb7 hg7 _
    have H7 := Lib.hid (H4D.out.app (l' := flat (j + 1) c (pickM m ks)) (by rw [flat_succ, HMJ.out, List.map_append]; exact ho7) hb7 hg7)
    clear ho7 hb7 hg7
    rw [HLJ.out.1] at H7
    try dsimp only
    refine hK.out _ _ (fun _ => ⟨H7.out.cells.1, (H7.out.bs.cells mm1).1, HV.out _ H7.out.bs.below⟩) fun hHeld => ?_
    clear hK K
    try simp only [pU, pU0, pA, pB, pC]
    have hHeld := hHeld (by kernel_rfl)
    refine pu 23 ?_
    refine on 24 rfl fun K hK => ?_
    obtain ⟨s3, s4⟩ := H7.out.cells
    go_simp
    try dsimp only
    refine hK.out _ _ ?_ (fun hHeld => ?_)
    ·exact fun h => (st_no (by kernel_rfl) h).elim
    clear hK K
    try simp only [pU, pU0, pA, pB, pC]
    clear hHeld
    refine wpAnyG_done (by kernel_rfl) ?_ _
    refine NoPanic.normal ?_
    have h8 := H7.out.set
    rw [show (flat (j + 1) c (pickM m ks)).length = lj + c from by rw [flat_succ, List.length_append, HLJ.out.1, row_len]] at h8
    have H8 := Lib.hid h8
    clear h8 hHeld
    go_wp2_with fail
    go_roundw
    case rel =>
     refine ⟨j + 1, A5, c5, by simp, HJ.out, fun i hi => ?_, H8.out⟩
     by_cases e : i = j
     ·subst e
      rw [HVE.out]; have := HKR.out; omega
     ·exact HIN.out i (by omega)
    case measure => simp [intOf]; omega
   ·have HBAD := Lib.hid (show allIn r ks = false from by
     unfold allIn
     rw [List.all_eq_false]
     exact ⟨v, HVM.out, by simp only [decide_eq_true_eq]; exact hvin⟩)
    by_cases hv1 : v < 0
    ·clear hvin
     go_wp2_with fail
     go_quiet (fail)
     obtain ⟨⟨d0, d1, d2⟩, f0, f1, f2⟩ := (H4.out.keep (nextN (Mem.start w4) nq)).bs.cells mm0
     have hfin := (H4.out.keep (nextN (Mem.start w4) nq)).bs.end_ mm0 (.int .i64 0) (.int .i64 0) (.slice none 0 0)
     go_wp2_with fail
     obtain ⟨h1, h2, e0, e1, e2⟩ := hfin
     refine bodyPost_ret (v := .tuple #[.agg #[.int .i64 0, .int .i64 0, .slice none 0 0], .int .i64 2]) (by simp [results, Try.results29, go_sem, e0, e1, e2]) rfl ?_
     exact ⟨fun h => (by rw [HBAD.out] at h; cases h), fun _ => ⟨rfl, h1⟩⟩
    ·have hv2 : (r : Int) ≤ v := by omega
     clear hvin
     go_wp2_with fail
     go_quiet (fail)
     obtain ⟨⟨d0, d1, d2⟩, f0, f1, f2⟩ := (H4.out.keep (nextN (Mem.start w4) nq)).bs.cells mm0
     have hfin := (H4.out.keep (nextN (Mem.start w4) nq)).bs.end_ mm0 (.int .i64 0) (.int .i64 0) (.slice none 0 0)
     go_wp2_with fail
     obtain ⟨h1, h2, e0, e1, e2⟩ := hfin
     refine bodyPost_ret (v := .tuple #[.agg #[.int .i64 0, .int .i64 0, .slice none 0 0], .int .i64 2]) (by simp [results, Try.results29, go_sem, e0, e1, e2]) rfl ?_
     exact ⟨fun h => (by rw [HBAD.out] at h; cases h), fun _ => ⟨rfl, h1⟩⟩
  ·obtain rfl : n = j := by omega
   have HOK := Lib.hid (show allIn r ks = true from by
    unfold allIn
    rw [List.all_eq_true]
    intro v hv
    obtain ⟨i, hi, e⟩ := List.mem_iff_getElem.1 hv
    have h := HIN.out i (by rw [← HN.out.2.1]; exact hi)
    rw [List.getD_eq_getElem?_getD, List.getElem?_eq_getElem hi, Option.getD_some, e] at h
    exact decide_eq_true h)
   obtain ⟨⟨c0, c1, c2'⟩, _⟩ := H4.out.cells
   obtain ⟨⟨d0, d1, d2⟩, f0, f1, f2⟩ := H4.out.bs.cells mm0
   obtain ⟨lq, hlq⟩ : ∃ lq, (flat n c (pickM m ks)).length = lq := ⟨_, rfl⟩
   rw [hlq] at c2'
   have hfin := H4.out.end_ mm0 (.int .i64 (n : Int)) (.int .i64 (c : Int)) (.slice A2 lq c2)
   have HLQ := Lib.hid (hlq.symm.trans (flat_len _ _ _))
   have HL := Lib.hid (H4.out.row)
   go_wp2_with fail
   obtain ⟨h1, h2, e0, e1, e2⟩ := hfin
   refine bodyPost_ret (v := .tuple #[.agg #[.int .i64 (n : Int), .int .i64 (c : Int), .slice A2 lq c2], .int .i64 0]) (by simp [results, Try.results29, go_sem, e0, e1, e2]) rfl ?_
   have e9 := HLQ.out
   subst e9
   refine ⟨fun _ => ⟨A2, c2, rfl, ?_, h2, h1⟩, fun h => ?_⟩
   ·have h3 := HL.out.le
    rw [List.length_map, flat_len] at h3
    exact h3
   ·rw [HOK.out] at h; cases h
end Go.Proofs.Ythdapoipfnnaeaa.MxW
/- Bytes copied into a row that is there. -/
namespace Go.Proofs.Ythdapoipfnnaeaa.MxW
open Go.RowKit Go.Shelf Mem Gf FdW Mx Rng
set_option linter.unusedVariables false
set_option linter.unusedSectionVars false

theorem u1info : (Try.prog.info? 5).map (·.size) = some 1 := by kernel_rfl
theorem blkRow {w : World} {g : Nat} {T : TypeId} {old : Array Value} (h : Blk w g T old) (cs : Array Value) : Blk (w.setRow g cs) g T cs := setRow_heap w g old cs T (0, 0) h
theorem frRow {S : Nat → Prop} {w w' : World} {g : Nat} (h : Fr S w w') (hg : g < w.heap.size → S g) (cs : Array Value) : Fr S w (w'.setRow g cs) :=
 ⟨h.os, h.tape, h.output, by unfold World.setRow; simpa using h.size, fun k hk hn => by
  have hne : g ≠ k := fun e => hn (by rw [← e]; exact hg (by omega))
  have : (w'.setRow g cs).heap[k]? = w'.heap[k]? := by unfold World.setRow; simp [Array.getElem?_modify, hne]
  exact this.trans (h.block k hk hn)⟩
theorem step_copyin {ops : Array Oper} {o : Oper} {a : Act} {R : Act → World → Prop} {Q : Exit → Act → World → Prop} {E : Prop} (w : World) (hgd : o.guard = none) (d s : Operand) (ho : o.op = .call { callee := .builtin .copy, args := #[d, s], argTypes := #[22, 22] })
    (g off n n' : Nat) (A : Option Addr) (m c : Nat) (l : List UInt8) (T : TypeId) (cur : Array Value) (hd : a.eval d = .slice (some ⟨g, off, none⟩) n n') (hs : a.eval s = .slice A m c) (hl : l.length = Nat.min m n)
    (hB : Blk w g T cur) (hfit : off + l.length ≤ cur.size) (hA : Bytes w w.heap.size A l)
    (h : ∀ w' k, Blk w' g T (cur.toList.take off ++ l.map u8v ++ cur.toList.drop (off + l.length)).toArray → Fr (fun k => k = g) w w' → w'.heap.size = w.heap.size → R (a.put o.dst (.int .i64 k)) w') : if Region.wanted o (yielded ops a.tmps) = true then Oper.wp Try.prog o a w R Q else E := by
 rw [if_pos (by simp [Region.wanted, hgd])]
 unfold Oper.wp execOp
 by_cases hz : l.length = 0
 ·have hrun := run_copy_none (P := Try.prog) w 22 22 o.type 5 (some ⟨g, off, none⟩) A n n' m c Try.underlying22 u1info (by rw [← hl]; exact hz)
  simp only [ho, resolve, invoke, builtin, Sem.run_bind, Sem.run_pure, Result.andThen_ok, List.map_toArray, List.map_cons, List.map_nil, hd, hs, hrun]
  refine h w 0 ?_ (Fr.refl _ w) rfl
  obtain rfl : l = [] := List.eq_nil_of_length_eq_zero hz
  simp only [List.map_nil, List.append_nil, List.length_nil, Nat.add_zero, List.take_append_drop, Array.toArray_toList]
  exact hB
 ·obtain ⟨b, o2, rfl, _, hc⟩ := hA (by rw [List.length_map]; omega)
  have hrun := run_copy_row (P := Try.prog) w 22 22 o.type 5 g off n n' ⟨b, o2, none⟩ m c cur T (l.map u8v) Try.underlying22 u1info hB (by rw [List.length_map]; exact hl) (fun j v hv => by rw [Addr.add_lit]; exact hc j v hv) (by rw [List.length_map]; exact hfit) (u8v_one (l := l))
  simp only [ho, resolve, invoke, builtin, Sem.run_bind, Sem.run_pure, Result.andThen_ok, List.map_toArray, List.map_cons, List.map_nil, hd, hs, hrun]
  rw [List.length_map]
  exact h _ _ (blkRow hB _) (frRow (Fr.refl (fun k => k = g) w) (fun _ => rfl) _) (by unfold World.setRow; simp)
theorem own_blk {w : World} {base g c : Nat} {T : TypeId} {xs : List Value} (h : Mem.Own w base T (some ⟨g, 0, none⟩) c xs) (hl : xs.length = c) : Blk w g T xs.toArray ∧ base ≤ g ∧ c ≤ maxLen := by
 rcases h.2 with ⟨hv, _⟩ | ⟨g', cap, cur, hv, hb, hg, hn, hm, hcs, ht⟩
 ·injection hv with h1; cases h1
 ·injection hv with h1 _ h3
  injection h1 with h1
  have := congrArg Addr.block h1
  dsimp only at this
  subst this; subst h3
  refine ⟨?_, hb, hm⟩
  have e : cur.toList = xs := by
   rw [← ht, List.take_of_length_le]
   rw [Array.length_toList, hcs, hl]; exact Nat.le_refl _
  have : cur = xs.toArray := by rw [← e]
  rw [← this]; exact hg
theorem blk_own {w : World} {base g : Nat} {T : TypeId} {xs : List Value} (h : Blk w g T xs.toArray) (hb : base ≤ g) (hm : xs.length ≤ maxLen) : Mem.Own w base T (some ⟨g, 0, none⟩) xs.length xs :=
 ⟨by simp, .inr ⟨g, xs.length, xs.toArray, by simp, hb, h, by simp, hm, by simp, by simp [List.take_of_length_le]⟩⟩
/-- A row copied over row j. -/
theorem flat_copy {n c j : Nat} {M' : M} {f : Nat → UInt8} (hj : j < n) : (flat n c M').take (j * c) ++ row c f ++ (flat n c M').drop (j * c + c) = flat n c (fun x y => if x = j then f y else M' x y) := by
 have hle := idx_le (c := c) hj
 refine flat_ext (by rw [List.length_append, List.length_append, List.length_take, List.length_drop, row_len, flat_len]; omega) fun i hi k hk => ?_
 by_cases h1 : i < j
 ·have := idx_le (c := c) h1
  rw [List.getElem?_append_left (by rw [List.length_append, List.length_take, row_len, flat_len]; omega), List.getElem?_append_left (by rw [List.length_take, flat_len]; omega), List.getElem?_take, if_pos (by omega), flat_get hi hk, if_neg (by omega)]
 ·by_cases h2 : i = j
  ·subst h2
   rw [List.getElem?_append_left (by rw [List.length_append, List.length_take, row_len, flat_len]; omega), List.getElem?_append_right (by rw [List.length_take, flat_len]; omega), List.length_take, flat_len, Nat.min_eq_left (by omega), Nat.add_sub_cancel_left, row_get hk, if_pos rfl]
  ·have := idx_le (c := c) (show j < i by omega)
   rw [List.getElem?_append_right (by rw [List.length_append, List.length_take, row_len, flat_len]; omega), List.length_append, List.length_take, row_len, flat_len, Nat.min_eq_left (by omega), List.getElem?_drop, show j * c + c + (i * c + k - (j * c + c)) = i * c + k by omega, flat_get hi hk, if_neg h2]
end Go.Proofs.Ythdapoipfnnaeaa.MxW
/- The program's Pick. -/
namespace Go.Proofs.Ythdapoipfnnaeaa.MxW
open Go.RowKit Go.Shelf Mem Gf FdW Mx Rng
open PlW (In)
set_option linter.unusedVariables false
set_option linter.unusedSectionVars false
attribute [local go_sem] Oper.semAt_some wide_fn

def pickUp (m : M) (ks : List Int) (j : Nat) : M := fun x y => if x < j then pickM m ks x y else 0
theorem pickUp_next {n c j k : Nat} {m : M} {ks : List Int} (h : pickM m ks j = m k) (hj : j < n) : (flat n c (pickUp m ks j)).take (j * c) ++ row c (m k) ++ (flat n c (pickUp m ks j)).drop (j * c + c) = flat n c (pickUp m ks (j + 1)) := by
 rw [flat_copy hj]
 refine flat_congr fun x hx y hy => ?_
 unfold pickUp
 by_cases e : x = j
 ·subst e; rw [if_pos rfl, if_pos (by omega), h]
 ·rw [if_neg e]
  by_cases e2 : x < j
  ·rw [if_pos e2, if_pos (by omega)]
  ·rw [if_neg e2, if_neg (by omega)]
theorem rowA_at {g c j : Nat} : rowA (some ⟨g, 0, none⟩) c j = some ⟨g, j * c, none⟩ := by
 by_cases h : c = 0
 ·subst h; rw [rowA_zero, Nat.mul_zero]
 ·rw [rowA_some (by omega), Nat.zero_add]
theorem rowB {w : World} {B r c k : Nat} {A : Option Addr} {m : M} (h : Bytes w B A (flat r c m)) (hk : k < r) : Bytes w B (rowA A c k) (row c (m k)) := by
 by_cases h0 : c = 0
 ·subst h0; exact Bytes.nil
 ·obtain ⟨b, o, rfl, _⟩ := h.at_ (k := k * c) (by rw [flat_len]; have := idx_le (c := c) hk; omega)
  rw [rowA_some (by omega), ← flat_row hk]
  exact (h.drop (k * c)).take c
theorem WS.copied {w0 w w' : World} {Y : List (Nat × TypeId × Array Value)} {g r c : Nat} {m m' : M} (h : WS w0 Y g (r * c) r c m w) (hf : Fr (fun k => k = g) w w') (hb : Blk w' g 5 ((flat r c m').map u8v).toArray) : WS w0 Y g (r * c) r c m' w' := by
 have hob := own_blk h.row (by rw [List.length_map, flat_len])
 refine ⟨h.below.trans (hf.below h.below.size fun k hk => by rw [hk]; exact hob.2.1), fun y hy => ⟨(h.box y hy).1.fr hf fun e => ?_, (h.box y hy).2⟩, ?_⟩
 ·exact (h.box y hy).1.ne_own h.row (h.box y hy).2.1 g rfl e.symm
 ·have := blk_own hb hob.2.1 (by rw [List.length_map, flat_len]; exact hob.2.2)
  rw [List.length_map, flat_len] at this
  exact this
set_option maxRecDepth 100000 in
set_option maxHeartbeats 40000000 in
theorem pick_wide (w : World) (r c : Nat) (A : Option Addr) (nn cap : Nat) (m : M) (K : Option Addr) (ks : List Int) (n ck : Nat) (hn : ks.length = n) (hnn : nn = r * c) (hd : r ≤ 100 ∧ c ≤ 100 ∧ n ≤ 256 ^ 2) (hcap : nn ≤ cap) (hA : Bytes w w.heap.size A (flat r c m)) (hK : Cells w w.heap.size K (ks.map i64v)) :
    Calls Try.prog 28 #[.agg #[.int .i64 (r : Int), .int .i64 (c : Int), .slice A nn cap], .slice K n ck] w (PickOk w n c (pickM m ks) (allIn r ks)) := by
 have HN := Lib.hid (And.intro hd (And.intro hn (And.intro hnn hcap)))
 have HA := Lib.hid hA
 have HK := Lib.hid hK
 have h1 : decide ((65536 : Int) < (n : Int)) = false := decide_eq_false (by omega)
 have HR := Lib.hid (show rightB (r : Int) (c : Int) nn = true from right_dim ⟨hd.1, hd.2.1⟩ hnn)
 have H0 := Lib.hid (((BS.start w).put (mcells r c A nn cap) 27 (by decide)).put #[.int .i64 0, .int .i64 0, .slice none 0 0] 27 (by decide))
 clear hA hK hn hnn hcap
 go_enter Try.func28, Try.ntmps28
 obtain ⟨⟨a0, a1, a2⟩, _⟩ := H0.out.cells mm1
 go_wp2_with fail
 clear a0 a1 a2
 obtain ⟨w1, hw1⟩ : ∃ x : World, (w.alloc (.cells #[.int .i64 (r : Int), .int .i64 (c : Int), .slice A nn cap] 27)).alloc (.cells #[.int .i64 0, .int .i64 0, .slice none 0 0] 27) = x := ⟨_, rfl⟩
 have hw1' : (w.alloc (.cells (mcells r c A nn cap) 27)).alloc (.cells #[.int .i64 0, .int .i64 0, .slice none 0 0] 27) = w1 := hw1
 rw [hw1', World.size_alloc] at H0
 rw [hw1]
 clear hw1 hw1'
 obtain ⟨ga, hga⟩ : ∃ x, w.heap.size = x := ⟨_, rfl⟩
 obtain ⟨g0, hg0⟩ : ∃ x, ga + 1 = x := ⟨_, rfl⟩
 rw [hga, hg0] at H0 ⊢
 refine (right_any w1 _ _ A nn cap).mono ?_
 rintro e w2 ⟨rfl, hb⟩
 rw [HR.out]
 have H1 := Lib.hid (H0.out.keep hb)
 clear hb H0
 by_cases hc0 : (0 : Int) < (c : Int)
 ·have hcz : ((c : Int) == 0) = false := by simp; omega
  obtain ⟨qd, hqd⟩ : ∃ q, IntKind.i64.wrap ((16777216 : Int).tdiv (c : Int)) = q := ⟨_, rfl⟩
  have hdv : decide (qd < (n : Int)) = false := by
   refine decide_eq_false ?_
   have k1 : (16777216 : Int) / (c : Int) ≥ 65536 := Int.le_ediv_of_mul_le hc0 (by omega)
   have k2 : (16777216 : Int) / (c : Int) ≤ 16777216 := Int.ediv_le_self _ (by decide)
   rw [Int.tdiv_eq_ediv_of_nonneg (by decide), IntWalk.i64_in _ (by omega)] at hqd
   omega
  have hcn : ¬ c = 0 := by omega
  clear hd
  obtain ⟨⟨a0, a1, a2⟩, _⟩ := H1.out.cells mm1
  go_wp2_with fail
  clear a0 a1 a2
  refine (none_any w2 n c (by have h1 : n * c ≤ 256 ^ 2 * 100 := Nat.mul_le_mul HN.out.1.2.2 HN.out.1.2.1; omega)).mono ?_
  rintro e w3 ⟨g, rfl, ho, hb⟩
  have H2 := Lib.hid (H1.out.none_ (g := g) (cap := n * c) (r := n) (c := c) (m := fun _ _ => 0) (show Wm w3 w.heap.size g (n * c) n c _ from ho.down H1.out.below.size) hb)
  clear ho hb
  have H3 := Lib.hid (H2.out.put (mcells n c (some ⟨g, 0, none⟩) (n * c) (n * c)) 27 (by decide))
  go_wp2_with fail
  obtain ⟨gm, hgm⟩ : ∃ x, w3.heap.size = x := ⟨_, rfl⟩
  obtain ⟨w4, hw4⟩ : ∃ x : World, w3.alloc (.cells #[.int .i64 (n : Int), .int .i64 (c : Int), .slice (some ⟨g, 0, none⟩) (n * c) (n * c)] 27) = x := ⟨_, rfl⟩
  have hw4' : w3.alloc (.cells (mcells n c (some ⟨g, 0, none⟩) (n * c) (n * c)) 27) = w4 := hw4
  rw [hw4', hgm] at H3
  rw [hw4, hgm]
  clear hw4 hw4' hgm
  go_loopw [38] (fun i wr => ∃ j : Nat, i = .int .i64 (j : Int) ∧ j ≤ n ∧ (∀ i, i < j → 0 ≤ ks.getD i 0 ∧ ks.getD i 0 < (r : Int)) ∧ WS w [(gm, 27, mcells n c (some ⟨g, 0, none⟩) (n * c) (n * c)), (g0, 27, #[.int .i64 0, .int .i64 0, .slice none 0 0]), (ga, 27, mcells r c A nn cap)] g (n * c) n c (pickUp m ks j) wr) (fun i _ => n - (intOf i).toNat)
  case atStart => exact ⟨0, rfl, Nat.zero_le _, fun i hi => absurd hi (Nat.not_lt_zero _), H3.out.congr fun x _ y _ => by unfold pickUp; rw [if_neg (by omega)]⟩
  case round =>
   obtain ⟨j, rfl, hj, hin, h⟩ := hrel
   have H4 := Lib.hid h
   have HIN := Lib.hid hin
   clear h H3 hin
   obtain ⟨w5, rfl⟩ : ∃ w5 : World, w5 = wr := ⟨_, rfl⟩
   by_cases hjn : j < n
   ·have hj1 : (j : Int) < (n : Int) := by omega
    have hj0 : (0 : Int) ≤ (j : Int) := by omega
    have hwj : IntKind.i64.wrap ((j : Int) + 1) = ((j + 1 : Nat) : Int) := by have := HN.out.1.2.2; rw [IntWalk.i64_in _ (by omega)]; omega
    have HJ := Lib.hid hjn
    have hjl : j < (ks.map i64v).length := by rw [List.length_map, HN.out.2.1]; exact hjn
    obtain ⟨kb, ko, rfl, -, -⟩ := HK.out.at_ (k := j) hjl
    obtain ⟨v, hv⟩ : ∃ v, ks.getD j 0 = v := ⟨_, rfl⟩
    have HV := Lib.hid (show ∀ W : World, Below w.heap.size w W → W.cell? ⟨kb, ko + j, none⟩ = some (.int .i64 v) from fun W hW => by
     obtain ⟨b', o', e', _, hc⟩ := (HK.out.below hW).at_ (k := j) hjl
     injection e' with e'; injection e' with e1 e2; subst e1; subst e2
     rw [hc, List.getElem_map, ← hv, List.getD_eq_getElem?_getD, List.getElem?_eq_getElem (by rw [HN.out.2.1]; exact hjn)]; rfl)
    have HVE := Lib.hid hv
    have HVM := Lib.hid (show v ∈ ks from by rw [← hv, List.getD_eq_getElem?_getD, List.getElem?_eq_getElem (by rw [HN.out.2.1]; exact hjn)]; exact List.getElem_mem _)
    clear hv hjl
    obtain ⟨⟨a0, a1, a2⟩, _⟩ := H4.out.cells mm2
    have hv0 := HV.out _ H4.out.below
    by_cases hvin : 0 ≤ v ∧ v < (r : Int)
    ·obtain ⟨k, rfl⟩ : ∃ k : Nat, v = (k : Int) := ⟨v.toNat, by omega⟩
     have hkr : k < r := by omega
     have hk0 : ¬ (k : Int) < 0 := by omega
     have hk1 : ¬ (r : Int) ≤ (k : Int) := by omega
     have HKR := Lib.hid hkr
     have HMJ := Lib.hid (show pickM m ks j = m k from by unfold pickM; rw [HVE.out]; rfl)
     clear hvin hkr
     go_wp2_with fail
     clear a0 a1 a2 hv0
     refine wp_region_noPanic ?_
     refine wp_heldG (fun w' => (w'.cell? ⟨gm, 0, none⟩ = some (.int .i64 (n : Int)) ∧ w'.cell? ⟨gm, 1, none⟩ = some (.int .i64 (c : Int)) ∧ w'.cell? ⟨gm, 2, none⟩ = some (.slice (some ⟨g, 0, none⟩) (n * c) (n * c))) ∧ (w'.cell? ⟨ga, 0, none⟩ = some (.int .i64 (r : Int)) ∧ w'.cell? ⟨ga, 1, none⟩ = some (.int .i64 (c : Int)) ∧ w'.cell? ⟨ga, 2, none⟩ = some (.slice A nn cap))) [] (by kernel_rfl) ?hs0 ?rg0
     case hs0 =>
      have h := H4.out.keep (nextN (Mem.start w5) 1)
      exact ⟨(h.cells mm0).1, (h.cells mm2).1⟩
     case rg0 =>
     intro hHeld
     refine tk 0 rfl (by intro w hSw; obtain ⟨⟨k0, k1, k2⟩, ⟨l0, l1, l2⟩⟩ := hSw; go_simp; try with_reducible rfl) ?_
     refine pu 1 (hv := by intro w hSw; obtain ⟨⟨k0, k1, k2⟩, ⟨l0, l1, l2⟩⟩ := hSw; go_simp; try with_reducible rfl) ?_
     refine tk 3 rfl (by intro w hSw; obtain ⟨⟨k0, k1, k2⟩, ⟨l0, l1, l2⟩⟩ := hSw; go_simp; try with_reducible rfl) ?_
     refine pu 4 (hv := by intro w hSw; obtain ⟨⟨k0, k1, k2⟩, ⟨l0, l1, l2⟩⟩ := hSw; go_simp; try with_reducible rfl) ?_
     refine on 2 rfl fun K hK => ?_
     have H5 := Lib.hid (show WS w [(gm, 27, mcells n c (some ⟨g, 0, none⟩) (n * c) (n * c)), (g0, 27, #[.int .i64 0, .int .i64 0, .slice none 0 0]), (ga, 27, mcells r c A nn cap)] g (n * c) n c (pickUp m ks j) w5.drew from H4.out.keep (nextN (Mem.start w5) 1))
     go_simp
     refine (row_any _ n c j (some ⟨g, 0, none⟩) (n * c) (n * c) HJ.out (by have := HN.out.1.2.2; omega) rfl (by have h1 : n * c ≤ 256 ^ 2 * 100 := Nat.mul_le_mul HN.out.1.2.2 HN.out.1.2.1; omega) (Nat.le_refl _)).mono ?_
     rintro e w6 ⟨rfl, hb⟩
     have H6 := Lib.hid (H5.out.keep hb)
     clear hb
     rw [rowA_at]
     try dsimp only
     refine hK.out _ _ (fun _ => ⟨(H6.out.cells mm0).1, (H6.out.cells mm2).1⟩) fun hHeld => ?_
     clear hK K
     try simp only [pU, pU0, pA, pB, pC]
     have hHeld := hHeld (by kernel_rfl)
     refine on 5 rfl fun K hK => ?_
     go_simp
     refine (row_any _ r c k A nn cap HKR.out (by have := HN.out.1.1; omega) HN.out.2.2.1 (by have h1 : r * c ≤ 100 * 100 := Nat.mul_le_mul HN.out.1.1 HN.out.1.2.1; have := HN.out.2.2.1; omega) HN.out.2.2.2).mono ?_
     rintro e w8 ⟨rfl, hb⟩
     have H8 := Lib.hid (H6.out.keep hb)
     clear hb
     try dsimp only
     refine hK.out _ _ (fun _ => ⟨(H8.out.cells mm0).1, (H8.out.cells mm2).1⟩) fun hHeld => ?_
     clear hK K
     try simp only [pU, pU0, pA, pB, pC]
     have hHeld := hHeld (by kernel_rfl)
     refine on 6 rfl fun K hK => ?_
     have hob := own_blk H8.out.row (by rw [List.length_map, flat_len])
     refine step_copyin w8 rfl _ _ rfl g (j * c) c c (rowA A c k) c c (row c (m k)) 5 _ rfl rfl (by rw [row_len]; exact (Nat.min_self c).symm) hob.1 (by rw [row_len]; simp [flat_len]; exact idx_le HJ.out) ((rowB (HA.out.below H8.out.below) HKR.out).up H8.out.below.size) ?_
     intro w9 kk hblk hfr hsz
     have H7 := Lib.hid (show WS w [(gm, 27, mcells n c (some ⟨g, 0, none⟩) (n * c) (n * c)), (g0, 27, #[.int .i64 0, .int .i64 0, .slice none 0 0]), (ga, 27, mcells r c A nn cap)] g (n * c) n c (pickUp m ks (j + 1)) w9 from H8.out.copied hfr (by
      have h := hblk
      rw [row_len] at h
      have e : ((((flat n c (pickUp m ks j)).map u8v).toArray.toList.take (j * c) ++ (row c (m k)).map u8v ++ ((flat n c (pickUp m ks j)).map u8v).toArray.toList.drop (j * c + c)).toArray : Array Value) = ((flat n c (pickUp m ks (j + 1))).map u8v).toArray := by
       rw [← pickUp_next HMJ.out HJ.out, List.map_append, List.map_append, List.map_take, List.map_drop]
      rw [e] at h
      exact h))
     clear hblk hfr hsz hob
     try dsimp only
     refine hK.out _ _ (fun _ => ⟨(H7.out.cells mm0).1, (H7.out.cells mm2).1⟩) fun hHeld => ?_
     clear hK K
     try simp only [pU, pU0, pA, pB, pC]
     have hHeld := hHeld (by kernel_rfl)
     refine wpAnyG_done (by kernel_rfl) ?_ _
     refine NoPanic.normal ?_
     clear hHeld
     go_wp2_with fail
     go_roundw
     case rel =>
      refine ⟨j + 1, by simp, HJ.out, fun i hi => ?_, H7.out⟩
      by_cases e : i = j
      ·subst e
       rw [HVE.out]; have := HKR.out; omega
      ·exact HIN.out i (by omega)
     case measure => simp [intOf]; omega
    ·have HBAD := Lib.hid (show allIn r ks = false from by
      unfold allIn
      rw [List.all_eq_false]
      exact ⟨v, HVM.out, by simp only [decide_eq_true_eq]; exact hvin⟩)
     by_cases hv1 : v < 0
     ·clear hvin
      obtain ⟨⟨d0, d1, d2⟩, f0, f1, f2⟩ := H4.out.cells mm1
      have hfin := H4.out.bs.end_ mm1 (.int .i64 0) (.int .i64 0) (.slice none 0 0)
      go_wp2_with fail
      obtain ⟨h1, h2, e0, e1, e2⟩ := hfin
      refine bodyPost_ret (v := .tuple #[.agg #[.int .i64 0, .int .i64 0, .slice none 0 0], .int .i64 2]) (by simp [results, Try.results28, go_sem, e0, e1, e2]) rfl ?_
      exact ⟨fun h => (by rw [HBAD.out] at h; cases h), fun _ => ⟨rfl, h1⟩⟩
     ·have hv2 : (r : Int) ≤ v := by omega
      clear hvin
      obtain ⟨⟨d0, d1, d2⟩, f0, f1, f2⟩ := H4.out.cells mm1
      have hfin := H4.out.bs.end_ mm1 (.int .i64 0) (.int .i64 0) (.slice none 0 0)
      go_wp2_with fail
      obtain ⟨h1, h2, e0, e1, e2⟩ := hfin
      refine bodyPost_ret (v := .tuple #[.agg #[.int .i64 0, .int .i64 0, .slice none 0 0], .int .i64 2]) (by simp [results, Try.results28, go_sem, e0, e1, e2]) rfl ?_
      exact ⟨fun h => (by rw [HBAD.out] at h; cases h), fun _ => ⟨rfl, h1⟩⟩
   ·obtain rfl : n = j := by omega
    have HOK := Lib.hid (show allIn r ks = true from by
     unfold allIn
     rw [List.all_eq_true]
     intro v hv
     obtain ⟨i, hi, e⟩ := List.mem_iff_getElem.1 hv
     have h := HIN.out i (by rw [← HN.out.2.1]; exact hi)
     rw [List.getD_eq_getElem?_getD, List.getElem?_eq_getElem hi, Option.getD_some, e] at h
     exact decide_eq_true h)
    obtain ⟨⟨c0, c1, c2'⟩, _⟩ := H4.out.cells mm0
    obtain ⟨⟨d0, d1, d2⟩, f0, f1, f2⟩ := H4.out.cells mm1
    have hfin := H4.out.end_ mm1 (.int .i64 (n : Int)) (.int .i64 (c : Int)) (.slice (some ⟨g, 0, none⟩) (n * c) (n * c))
    go_wp2_with fail
    obtain ⟨h1, h2, e0, e1, e2⟩ := hfin
    refine bodyPost_ret (v := .tuple #[.agg #[.int .i64 (n : Int), .int .i64 (c : Int), .slice (some ⟨g, 0, none⟩) (n * c) (n * c)], .int .i64 0]) (by simp [results, Try.results28, go_sem, e0, e1, e2]) rfl ?_
    refine ⟨fun _ => ⟨some ⟨g, 0, none⟩, n * c, rfl, Nat.le_refl _, ?_, h1⟩, fun h => ?_⟩
    ·rw [flat_congr (m' := pickM m ks) fun a ha b hb => by unfold pickUp; rw [if_pos ha]] at h2
     exact h2
    ·rw [HOK.out] at h; cases h
 ·clear hd
  obtain ⟨⟨a0, a1, a2⟩, _⟩ := H1.out.cells mm1
  go_wp2_with fail
  clear a0 a1 a2
  refine (none_any w2 n c (by have h1 : n * c ≤ 256 ^ 2 * 100 := Nat.mul_le_mul HN.out.1.2.2 HN.out.1.2.1; omega)).mono ?_
  rintro e w3 ⟨g, rfl, ho, hb⟩
  have H2 := Lib.hid (H1.out.none_ (g := g) (cap := n * c) (r := n) (c := c) (m := fun _ _ => 0) (show Wm w3 w.heap.size g (n * c) n c _ from ho.down H1.out.below.size) hb)
  clear ho hb
  have H3 := Lib.hid (H2.out.put (mcells n c (some ⟨g, 0, none⟩) (n * c) (n * c)) 27 (by decide))
  go_wp2_with fail
  obtain ⟨gm, hgm⟩ : ∃ x, w3.heap.size = x := ⟨_, rfl⟩
  obtain ⟨w4, hw4⟩ : ∃ x : World, w3.alloc (.cells #[.int .i64 (n : Int), .int .i64 (c : Int), .slice (some ⟨g, 0, none⟩) (n * c) (n * c)] 27) = x := ⟨_, rfl⟩
  have hw4' : w3.alloc (.cells (mcells n c (some ⟨g, 0, none⟩) (n * c) (n * c)) 27) = w4 := hw4
  rw [hw4', hgm] at H3
  rw [hw4, hgm]
  clear hw4 hw4' hgm
  go_loopw [38] (fun i wr => ∃ j : Nat, i = .int .i64 (j : Int) ∧ j ≤ n ∧ (∀ i, i < j → 0 ≤ ks.getD i 0 ∧ ks.getD i 0 < (r : Int)) ∧ WS w [(gm, 27, mcells n c (some ⟨g, 0, none⟩) (n * c) (n * c)), (g0, 27, #[.int .i64 0, .int .i64 0, .slice none 0 0]), (ga, 27, mcells r c A nn cap)] g (n * c) n c (pickUp m ks j) wr) (fun i _ => n - (intOf i).toNat)
  case atStart => exact ⟨0, rfl, Nat.zero_le _, fun i hi => absurd hi (Nat.not_lt_zero _), H3.out.congr fun x _ y _ => by unfold pickUp; rw [if_neg (by omega)]⟩
  case round =>
   obtain ⟨j, rfl, hj, hin, h⟩ := hrel
   have H4 := Lib.hid h
   have HIN := Lib.hid hin
   clear h H3 hin
   obtain ⟨w5, rfl⟩ : ∃ w5 : World, w5 = wr := ⟨_, rfl⟩
   by_cases hjn : j < n
   ·have hj1 : (j : Int) < (n : Int) := by omega
    have hj0 : (0 : Int) ≤ (j : Int) := by omega
    have hwj : IntKind.i64.wrap ((j : Int) + 1) = ((j + 1 : Nat) : Int) := by have := HN.out.1.2.2; rw [IntWalk.i64_in _ (by omega)]; omega
    have HJ := Lib.hid hjn
    have hjl : j < (ks.map i64v).length := by rw [List.length_map, HN.out.2.1]; exact hjn
    obtain ⟨kb, ko, rfl, -, -⟩ := HK.out.at_ (k := j) hjl
    obtain ⟨v, hv⟩ : ∃ v, ks.getD j 0 = v := ⟨_, rfl⟩
    have HV := Lib.hid (show ∀ W : World, Below w.heap.size w W → W.cell? ⟨kb, ko + j, none⟩ = some (.int .i64 v) from fun W hW => by
     obtain ⟨b', o', e', _, hc⟩ := (HK.out.below hW).at_ (k := j) hjl
     injection e' with e'; injection e' with e1 e2; subst e1; subst e2
     rw [hc, List.getElem_map, ← hv, List.getD_eq_getElem?_getD, List.getElem?_eq_getElem (by rw [HN.out.2.1]; exact hjn)]; rfl)
    have HVE := Lib.hid hv
    have HVM := Lib.hid (show v ∈ ks from by rw [← hv, List.getD_eq_getElem?_getD, List.getElem?_eq_getElem (by rw [HN.out.2.1]; exact hjn)]; exact List.getElem_mem _)
    clear hv hjl
    obtain ⟨⟨a0, a1, a2⟩, _⟩ := H4.out.cells mm2
    have hv0 := HV.out _ H4.out.below
    by_cases hvin : 0 ≤ v ∧ v < (r : Int)
    ·obtain ⟨k, rfl⟩ : ∃ k : Nat, v = (k : Int) := ⟨v.toNat, by omega⟩
     have hkr : k < r := by omega
     have hk0 : ¬ (k : Int) < 0 := by omega
     have hk1 : ¬ (r : Int) ≤ (k : Int) := by omega
     have HKR := Lib.hid hkr
     have HMJ := Lib.hid (show pickM m ks j = m k from by unfold pickM; rw [HVE.out]; rfl)
     clear hvin hkr
     go_wp2_with fail
     clear a0 a1 a2 hv0
     refine wp_region_noPanic ?_
     refine wp_heldG (fun w' => (w'.cell? ⟨gm, 0, none⟩ = some (.int .i64 (n : Int)) ∧ w'.cell? ⟨gm, 1, none⟩ = some (.int .i64 (c : Int)) ∧ w'.cell? ⟨gm, 2, none⟩ = some (.slice (some ⟨g, 0, none⟩) (n * c) (n * c))) ∧ (w'.cell? ⟨ga, 0, none⟩ = some (.int .i64 (r : Int)) ∧ w'.cell? ⟨ga, 1, none⟩ = some (.int .i64 (c : Int)) ∧ w'.cell? ⟨ga, 2, none⟩ = some (.slice A nn cap))) [] (by kernel_rfl) ?hs0 ?rg0
     case hs0 =>
      have h := H4.out.keep (nextN (Mem.start w5) 1)
      exact ⟨(h.cells mm0).1, (h.cells mm2).1⟩
     case rg0 =>
     intro hHeld
     refine tk 0 rfl (by intro w hSw; obtain ⟨⟨k0, k1, k2⟩, ⟨l0, l1, l2⟩⟩ := hSw; go_simp; try with_reducible rfl) ?_
     refine pu 1 (hv := by intro w hSw; obtain ⟨⟨k0, k1, k2⟩, ⟨l0, l1, l2⟩⟩ := hSw; go_simp; try with_reducible rfl) ?_
     refine tk 3 rfl (by intro w hSw; obtain ⟨⟨k0, k1, k2⟩, ⟨l0, l1, l2⟩⟩ := hSw; go_simp; try with_reducible rfl) ?_
     refine pu 4 (hv := by intro w hSw; obtain ⟨⟨k0, k1, k2⟩, ⟨l0, l1, l2⟩⟩ := hSw; go_simp; try with_reducible rfl) ?_
     refine on 2 rfl fun K hK => ?_
     have H5 := Lib.hid (show WS w [(gm, 27, mcells n c (some ⟨g, 0, none⟩) (n * c) (n * c)), (g0, 27, #[.int .i64 0, .int .i64 0, .slice none 0 0]), (ga, 27, mcells r c A nn cap)] g (n * c) n c (pickUp m ks j) w5.drew from H4.out.keep (nextN (Mem.start w5) 1))
     go_simp
     refine (row_any _ n c j (some ⟨g, 0, none⟩) (n * c) (n * c) HJ.out (by have := HN.out.1.2.2; omega) rfl (by have h1 : n * c ≤ 256 ^ 2 * 100 := Nat.mul_le_mul HN.out.1.2.2 HN.out.1.2.1; omega) (Nat.le_refl _)).mono ?_
     rintro e w6 ⟨rfl, hb⟩
     have H6 := Lib.hid (H5.out.keep hb)
     clear hb
     rw [rowA_at]
     try dsimp only
     refine hK.out _ _ (fun _ => ⟨(H6.out.cells mm0).1, (H6.out.cells mm2).1⟩) fun hHeld => ?_
     clear hK K
     try simp only [pU, pU0, pA, pB, pC]
     have hHeld := hHeld (by kernel_rfl)
     refine on 5 rfl fun K hK => ?_
     go_simp
     refine (row_any _ r c k A nn cap HKR.out (by have := HN.out.1.1; omega) HN.out.2.2.1 (by have h1 : r * c ≤ 100 * 100 := Nat.mul_le_mul HN.out.1.1 HN.out.1.2.1; have := HN.out.2.2.1; omega) HN.out.2.2.2).mono ?_
     rintro e w8 ⟨rfl, hb⟩
     have H8 := Lib.hid (H6.out.keep hb)
     clear hb
     try dsimp only
     refine hK.out _ _ (fun _ => ⟨(H8.out.cells mm0).1, (H8.out.cells mm2).1⟩) fun hHeld => ?_
     clear hK K
     try simp only [pU, pU0, pA, pB, pC]
     have hHeld := hHeld (by kernel_rfl)
     refine on 6 rfl fun K hK => ?_
     have hob := own_blk H8.out.row (by rw [List.length_map, flat_len])
     refine step_copyin w8 rfl _ _ rfl g (j * c) c c (rowA A c k) c c (row c (m k)) 5 _ rfl rfl (by rw [row_len]; exact (Nat.min_self c).symm) hob.1 (by rw [row_len]; simp [flat_len]; exact idx_le HJ.out) ((rowB (HA.out.below H8.out.below) HKR.out).up H8.out.below.size) ?_
     intro w9 kk hblk hfr hsz
     have H7 := Lib.hid (show WS w [(gm, 27, mcells n c (some ⟨g, 0, none⟩) (n * c) (n * c)), (g0, 27, #[.int .i64 0, .int .i64 0, .slice none 0 0]), (ga, 27, mcells r c A nn cap)] g (n * c) n c (pickUp m ks (j + 1)) w9 from H8.out.copied hfr (by
      have h := hblk
      rw [row_len] at h
      have e : ((((flat n c (pickUp m ks j)).map u8v).toArray.toList.take (j * c) ++ (row c (m k)).map u8v ++ ((flat n c (pickUp m ks j)).map u8v).toArray.toList.drop (j * c + c)).toArray : Array Value) = ((flat n c (pickUp m ks (j + 1))).map u8v).toArray := by
       rw [← pickUp_next HMJ.out HJ.out, List.map_append, List.map_append, List.map_take, List.map_drop]
      rw [e] at h
      exact h))
     clear hblk hfr hsz hob
     try dsimp only
     refine hK.out _ _ (fun _ => ⟨(H7.out.cells mm0).1, (H7.out.cells mm2).1⟩) fun hHeld => ?_
     clear hK K
     try simp only [pU, pU0, pA, pB, pC]
     have hHeld := hHeld (by kernel_rfl)
     refine wpAnyG_done (by kernel_rfl) ?_ _
     refine NoPanic.normal ?_
     clear hHeld
     go_wp2_with fail
     go_roundw
     case rel =>
      refine ⟨j + 1, by simp, HJ.out, fun i hi => ?_, H7.out⟩
      by_cases e : i = j
      ·subst e
       rw [HVE.out]; have := HKR.out; omega
      ·exact HIN.out i (by omega)
     case measure => simp [intOf]; omega
    ·have HBAD := Lib.hid (show allIn r ks = false from by
      unfold allIn
      rw [List.all_eq_false]
      exact ⟨v, HVM.out, by simp only [decide_eq_true_eq]; exact hvin⟩)
     by_cases hv1 : v < 0
     ·clear hvin
      obtain ⟨⟨d0, d1, d2⟩, f0, f1, f2⟩ := H4.out.cells mm1
      have hfin := H4.out.bs.end_ mm1 (.int .i64 0) (.int .i64 0) (.slice none 0 0)
      go_wp2_with fail
      obtain ⟨h1, h2, e0, e1, e2⟩ := hfin
      refine bodyPost_ret (v := .tuple #[.agg #[.int .i64 0, .int .i64 0, .slice none 0 0], .int .i64 2]) (by simp [results, Try.results28, go_sem, e0, e1, e2]) rfl ?_
      exact ⟨fun h => (by rw [HBAD.out] at h; cases h), fun _ => ⟨rfl, h1⟩⟩
     ·have hv2 : (r : Int) ≤ v := by omega
      clear hvin
      obtain ⟨⟨d0, d1, d2⟩, f0, f1, f2⟩ := H4.out.cells mm1
      have hfin := H4.out.bs.end_ mm1 (.int .i64 0) (.int .i64 0) (.slice none 0 0)
      go_wp2_with fail
      obtain ⟨h1, h2, e0, e1, e2⟩ := hfin
      refine bodyPost_ret (v := .tuple #[.agg #[.int .i64 0, .int .i64 0, .slice none 0 0], .int .i64 2]) (by simp [results, Try.results28, go_sem, e0, e1, e2]) rfl ?_
      exact ⟨fun h => (by rw [HBAD.out] at h; cases h), fun _ => ⟨rfl, h1⟩⟩
   ·obtain rfl : n = j := by omega
    have HOK := Lib.hid (show allIn r ks = true from by
     unfold allIn
     rw [List.all_eq_true]
     intro v hv
     obtain ⟨i, hi, e⟩ := List.mem_iff_getElem.1 hv
     have h := HIN.out i (by rw [← HN.out.2.1]; exact hi)
     rw [List.getD_eq_getElem?_getD, List.getElem?_eq_getElem hi, Option.getD_some, e] at h
     exact decide_eq_true h)
    obtain ⟨⟨c0, c1, c2'⟩, _⟩ := H4.out.cells mm0
    obtain ⟨⟨d0, d1, d2⟩, f0, f1, f2⟩ := H4.out.cells mm1
    have hfin := H4.out.end_ mm1 (.int .i64 (n : Int)) (.int .i64 (c : Int)) (.slice (some ⟨g, 0, none⟩) (n * c) (n * c))
    go_wp2_with fail
    obtain ⟨h1, h2, e0, e1, e2⟩ := hfin
    refine bodyPost_ret (v := .tuple #[.agg #[.int .i64 (n : Int), .int .i64 (c : Int), .slice (some ⟨g, 0, none⟩) (n * c) (n * c)], .int .i64 0]) (by simp [results, Try.results28, go_sem, e0, e1, e2]) rfl ?_
    refine ⟨fun _ => ⟨some ⟨g, 0, none⟩, n * c, rfl, Nat.le_refl _, ?_, h1⟩, fun h => ?_⟩
    ·rw [flat_congr (m' := pickM m ks) fun a ha b hb => by unfold pickUp; rw [if_pos ha]] at h2
     exact h2
    ·rw [HOK.out] at h; cases h
theorem pick_any (w : World) (r c : Nat) (A : Option Addr) (nn cap : Nat) (m : M) (K : Option Addr) (ks : List Int) (n ck : Nat) (hn : ks.length = n) (hnn : nn = r * c) (hd : r ≤ 100 ∧ c ≤ 100 ∧ n ≤ 100) (hcap : nn ≤ cap) (hA : Bytes w w.heap.size A (flat r c m)) (hK : Cells w w.heap.size K (ks.map i64v)) :
    Calls Try.prog 28 #[.agg #[.int .i64 (r : Int), .int .i64 (c : Int), .slice A nn cap], .slice K n ck] w (PickOk w n c (pickM m ks) (allIn r ks)) :=
 pick_wide w r c A nn cap m K ks n ck hn hnn ⟨hd.1, hd.2.1, by omega⟩ hcap hA hK
end Go.Proofs.Ythdapoipfnnaeaa.MxW
/- What the calls of chapter 05 answer, plain: solutions, inverses, symmetric matrices. -/
namespace Go.Proofs.Ythdapoipfnnaeaa.MxW
open Gf FdW Mx Mem Rng
open Go.RowKit
set_option linter.unusedVariables false
set_option linter.unusedSectionVars false

theorem nz_false {l : List UInt8} (h : anyNz l = false) : ∀ x ∈ l, x = 0 := fun x hx => by
 unfold anyNz at h
 have := (List.any_eq_false.1 h) x hx
 unfold nz at this
 simpa using this
theorem drop_zero {r c d : Nat} {B : M} : anyNz ((flat r d B).drop (c * d)) = false ↔ ∀ i, c ≤ i → i < r → ∀ k, k < d → B i k = 0 := by
 constructor
 ·intro h i hi hir k hk
  have h1 := flat_get (m := B) hir hk
  have hle : c * d ≤ i * d := Nat.mul_le_mul_right d hi
  refine nz_false h _ (List.mem_of_getElem? (i := i * d + k - c * d) ?_)
  rw [List.getElem?_drop, show c * d + (i * d + k - c * d) = i * d + k by omega]
  exact h1
 ·intro h
  unfold anyNz
  refine List.any_eq_false.2 fun x hx => ?_
  obtain ⟨j, hj⟩ := List.mem_iff_getElem?.1 hx
  rw [List.getElem?_drop] at hj
  have hl : c * d + j < r * d := by
   have := (List.getElem?_eq_some_iff.1 hj).1
   rwa [flat_len] at this
  obtain ⟨i, k, hi, hk, e⟩ := idx_of hl
  rw [e, flat_get hi hk] at hj
  injection hj with hj
  rw [← hj, h i (Nat.le_of_not_lt fun hlt => by have := idx_lt hlt hk; omega) hi k hk]
  decide
section
variable {r c d : Nat} {a b x : M}
theorem rank_eq (r c : Nat) (a b : M) : (redTo r a b c).at_ = rankM r c a := (Mx.redTo_A a b (fun _ _ => 0) r c).2
theorem rank_min (r c : Nat) (a : M) : rankM r c a ≤ r ∧ rankM r c a ≤ c := redTo_at c
theorem solve_rank (h : solves r c d a b = true) : rankM r c a = c := by
 unfold solves at h
 rw [Bool.and_eq_true, decide_eq_true_iff, rank_eq] at h
 exact h.1
theorem solve_less (h : rankM r c a ≠ c) : solves r c d a b = false := by
 cases hs : solves r c d a b with
 | false => rfl
 | true => exact absurd (solve_rank hs) h
theorem solve_is (h : solves r c d a b = true) : flat r d (mulM c a (redTo r a b c).B) = flat r d b := by
 have hr := solve_rank h
 unfold solves at h
 rw [Bool.and_eq_true, Bool.not_eq_true', drop_zero] at h
 exact flat_congr fun i hi k hk => sol_is (by rw [rank_eq]; exact hr) (fun i h1 h2 => h.2 i h1 h2 k hk) i hi
theorem solve_full (hr : rankM r c a = c) : solves r c d a (mulM c a x) = true ∧ flat c d (redTo r a (mulM c a x) c).B = flat c d x := by
 have hk := fun k => sol_unique (A := a) (B := mulM c a x) (r := r) (c := c) (x := x) (k := k) (by rw [rank_eq]; exact hr) fun i _ => rfl
 refine ⟨?_, flat_congr fun i hi k _ => (hk k).1 i hi⟩
 unfold solves
 rw [Bool.and_eq_true, decide_eq_true_iff, Bool.not_eq_true', drop_zero, rank_eq]
 exact ⟨hr, fun i h1 h2 k _ => (hk k).2 i h1 h2⟩
theorem solve_sq (hr : rankM r r a = r) : solves r r d a b = true := by
 unfold solves
 rw [Bool.and_eq_true, decide_eq_true_iff, Bool.not_eq_true', drop_zero, rank_eq]
 exact ⟨hr, fun i h1 h2 => by omega⟩
theorem inv_right (h : solves r r r a idm = true) : flat r r (mulM r a (redTo r a idm r).B) = flat r r idm := solve_is h
theorem inv_left (h : solves r r r a idm = true) : flat r r (mulM r (redTo r a idm r).B a) = flat r r idm := by
 have hr := solve_rank h
 have h1 := inv_right h
 generalize (redTo r a idm r).B = v at h1 ⊢
 refine flat_congr fun i hi k hk => ?_
 have h2 := sol_unique (A := a) (B := a) (r := r) (c := r) (x := mulM r v a) (k := k) (by rw [rank_eq]; exact hr) fun i hi => by
  rw [← mulM_assoc]
  rw [mulM_congr (a' := idm') (b' := a) (fun j hj => flat_inj h1 hi hj) fun j _ => rfl]
  exact id_mulM a hi k
 have h3 := sol_unique (A := a) (B := a) (r := r) (c := r) (x := idm') (k := k) (by rw [rank_eq]; exact hr) fun i hi => mulM_id a i hk
 rw [← h2.1 i hi, h3.1 i hi]; rfl
end
theorem symM_turn (n : Nat) (b : List UInt8) (x y : Nat) : symM n b y x = symM n b x y := by
 unfold symM
 by_cases h : x ≤ y
 ·by_cases h2 : y ≤ x
  ·obtain rfl : x = y := by omega
   rfl
  ·rw [if_neg h2, if_pos h]
 ·rw [if_pos (by omega), if_neg h]
theorem packS_sym {n : Nat} {b : List UInt8} (hb : b.length = offS n n) : ∀ k, k ≤ n → packS n (symM n b) k = b.take (offS n k)
 | 0 => fun _ => rfl
 | k + 1 => by
  intro hk
  have h1 : offS n k + (n - k) ≤ offS n n := by have := offS_mono (n := n) (show k + 1 ≤ n from hk); exact this
  rw [packS_succ, packS_sym hb k (by omega), show offS n (k + 1) = offS n k + (n - k) from rfl, List.take_add]
  congr 1
  apply List.ext_getElem?
  intro j
  by_cases hj : j < n - k
  ·rw [List.getElem?_take, if_pos hj, List.getElem?_drop]
   unfold packR
   rw [List.getElem?_map, List.getElem?_range hj, Option.map_some]
   unfold symM
   rw [if_pos (by omega), show k + j - k = j by omega, List.getD_eq_getElem?_getD, List.getElem?_eq_getElem (by omega)]; rfl
  ·rw [List.getElem?_take, if_neg hj, List.getElem?_eq_none (by rw [packR_len]; omega)]
theorem packS_back {n : Nat} {b : List UInt8} (hb : b.length = offS n n) : packS n (symM n b) n = b := by
 rw [packS_sym hb n (Nat.le_refl _), ← hb, List.take_length]
theorem gram_sym (c r : Nat) (m : M) : flat r r (fun x y => mulM c m (fun x y => m y x) y x) = flat r r (mulM c m fun x y => m y x) :=
 flat_congr fun i _ k _ => by unfold mulM; exact xsum_congr fun j _ => mul_comm _ _
theorem mul_nat {R C R' C' : Int} {n n' : Nat} (h : mulB R C n R' C' n' = true) : ∃ r s t : Nat, R = r ∧ C = s ∧ R' = s ∧ C' = t ∧ n = r * s ∧ n' = s * t := by
 unfold mulB at h
 rw [Bool.and_eq_true, Bool.and_eq_true] at h
 obtain ⟨r, s, rfl, rfl, _, _, e1⟩ := right_nat h.1.1
 obtain ⟨s', t, rfl, rfl, _, _, e2⟩ := right_nat h.1.2
 have e3 : s = s' := by have := h.2; simp at this; omega
 subst e3
 exact ⟨r, s, t, rfl, rfl, rfl, rfl, e1, e2⟩
theorem sameB_self (R C : Int) (a : List UInt8) : sameB R C R C a a = true := by unfold sameB; exact decide_eq_true ⟨rfl, rfl, rfl⟩
end Go.Proofs.Ythdapoipfnnaeaa.MxW
/- The examples of chapter 05 hold. -/
namespace Go.Proofs.Ythdapoipfnnaeaa.MxW
open Go.RowKit Go.Shelf Mem Gf FdW Mx Rng
open PlW (In)
set_option linter.unusedVariables false
set_option linter.unusedSectionVars false
attribute [local go_sem] Oper.semAt_some wide_fn
set_option maxRecDepth 100000 in
set_option maxHeartbeats 40000000 in
theorem works_any (w : World) : Calls Try.prog 11 #[] w fun e w' => e = .returned (.bool true) ∧ Below w.heap.size w w' := by
 have H0 := Lib.hid (MS.start w)
 go_enter Try.func11, Try.ntmps11
 go_wp2_with fail
 refine (newR H0.out).mono ?_
 rintro e w1 ⟨rfl, h⟩
 have H1 := Lib.hid h
 clear h
 have hb1 := Mx_build4 w1 1 2 0 1
 have L1 := Lib.hid (H1.out.lit #[.int .u8 1, .int .u8 2, .int .u8 0, .int .u8 1] [1, 2, 0, 1] (by simp [maxLen]) rfl 4 (by decide))
 have hb2 := Mx_build2 (w1.alloc (.cells #[.int .u8 1, .int .u8 2, .int .u8 0, .int .u8 1] 5)) 3 4
 have L2 := Lib.hid (show MS _ _ (⟨some ⟨w1.heap.size + 1, 0, none⟩, [3, 4], 2⟩ :: _) _ ((w1.alloc (.cells #[.int .u8 1, .int .u8 2, .int .u8 0, .int .u8 1] 5)).alloc (.cells #[.int .u8 3, .int .u8 4] 5)) from by have h := L1.out.lit #[.int .u8 3, .int .u8 4] [3, 4] (by simp [maxLen]) rfl 2 (by decide); (try simp only [World.size_alloc] at h); exact h)
 go_wp2_with fail
 clear hb1 hb2
 have H2 := L2
 clear L1 L2
 generalize ((w1.alloc (.cells #[.int .u8 1, .int .u8 2, .int .u8 0, .int .u8 1] 5)).alloc (.cells #[.int .u8 3, .int .u8 4] 5)) = w2 at *
 refine (mulR H2.out (r := 2) (c := 2) (d := 1) mm1 mm0 rfl rfl ⟨rfl, rfl, rfl, rfl⟩ (by decide) ((flat_ent rfl).symm) ((flat_ent rfl).symm) 2 1 2 ⟨rfl, rfl, rfl⟩ (l := [11, 4]) (by decide +kernel)).mono ?_
 rintro e w3 ⟨A3, c3, rfl, h⟩
 have H3 := Lib.hid h
 clear h
 have L3 := Lib.hid (H3.out.put #[.int .i64 2, .int .i64 1, .slice A3 2 c3])
 have hb4 := Mx_build4 (w3.alloc (.cells #[.int .i64 2, .int .i64 1, .slice A3 2 c3] 27)) 1 1 1 1
 have L4 := Lib.hid (show MS _ _ (⟨some ⟨w3.heap.size + 1, 0, none⟩, [1, 1, 1, 1], 4⟩ :: _) _ ((w3.alloc (.cells #[.int .i64 2, .int .i64 1, .slice A3 2 c3] 27)).alloc (.cells #[.int .u8 1, .int .u8 1, .int .u8 1, .int .u8 1] 5)) from by have h := L3.out.lit #[.int .u8 1, .int .u8 1, .int .u8 1, .int .u8 1] [1, 1, 1, 1] (by simp [maxLen]) rfl 4 (by decide); (try simp only [World.size_alloc] at h); exact h)
 go_wp2_with fail
 clear hb4
 have H4 := L4
 clear L3 L4
 generalize ((w3.alloc (.cells #[.int .i64 2, .int .i64 1, .slice A3 2 c3] 27)).alloc (.cells #[.int .u8 1, .int .u8 1, .int .u8 1, .int .u8 1] 5)) = w4 at *
 refine (rankR H4.out (r := 2) (c := 2) mm0 rfl ⟨rfl, rfl⟩ (by decide) ((flat_ent rfl).symm) 1 (by decide +kernel)).mono ?_
 rintro e w5 ⟨rfl, h⟩
 have H5 := Lib.hid h
 clear h
 have hb5 := Mx_build4 w5 1 1 1 1
 have L5 := Lib.hid (H5.out.lit #[.int .u8 1, .int .u8 1, .int .u8 1, .int .u8 1] [1, 1, 1, 1] (by simp [maxLen]) rfl 4 (by decide))
 go_wp2_with fail
 clear hb5
 have H6 := L5
 clear L5
 generalize (w5.alloc (.cells #[.int .u8 1, .int .u8 1, .int .u8 1, .int .u8 1] 5)) = w6 at *
 refine (inv1R H6.out (r := 2) mm0 rfl ⟨rfl, rfl⟩ (by decide) ((flat_ent rfl).symm) (by decide +kernel)).mono ?_
 rintro e w7 ⟨rfl, h⟩
 have H7 := Lib.hid h
 clear h
 have L6 := Lib.hid (H7.out.put #[.int .i64 0, .int .i64 0, .slice none 0 0])
 have hb7 := Mx_build4 (w7.alloc (.cells #[.int .i64 0, .int .i64 0, .slice none 0 0] 27)) 1 1 0 1
 have L7 := Lib.hid (show MS _ _ (⟨some ⟨w7.heap.size + 1, 0, none⟩, [1, 1, 0, 1], 4⟩ :: _) _ ((w7.alloc (.cells #[.int .i64 0, .int .i64 0, .slice none 0 0] 27)).alloc (.cells #[.int .u8 1, .int .u8 1, .int .u8 0, .int .u8 1] 5)) from by have h := L6.out.lit #[.int .u8 1, .int .u8 1, .int .u8 0, .int .u8 1] [1, 1, 0, 1] (by simp [maxLen]) rfl 4 (by decide); (try simp only [World.size_alloc] at h); exact h)
 go_wp2_with fail
 clear hb7
 have H8 := L7
 clear L6 L7
 generalize ((w7.alloc (.cells #[.int .i64 0, .int .i64 0, .slice none 0 0] 27)).alloc (.cells #[.int .u8 1, .int .u8 1, .int .u8 0, .int .u8 1] 5)) = w8 at *
 refine (invR H8.out (r := 2) mm0 rfl ⟨rfl, rfl⟩ (by decide) ((flat_ent rfl).symm) (by decide +kernel) 2 4 ⟨rfl, rfl⟩ (l := [1, 1, 0, 1]) (by decide +kernel)).mono ?_
 rintro e w9 ⟨A9, c9, rfl, h⟩
 have H9 := Lib.hid h
 clear h
 have L8 := Lib.hid (H9.out.put #[.int .i64 2, .int .i64 2, .slice A9 4 c9])
 have hb9 := Mx_build3 (w9.alloc (.cells #[.int .i64 2, .int .i64 2, .slice A9 4 c9] 27)) 1 2 3
 have L9 := Lib.hid (show MS _ _ (⟨some ⟨w9.heap.size + 1, 0, none⟩, [1, 2, 3], 3⟩ :: _) _ ((w9.alloc (.cells #[.int .i64 2, .int .i64 2, .slice A9 4 c9] 27)).alloc (.cells #[.int .u8 1, .int .u8 2, .int .u8 3] 5)) from by have h := L8.out.lit #[.int .u8 1, .int .u8 2, .int .u8 3] [1, 2, 3] (by simp [maxLen]) rfl 3 (by decide); (try simp only [World.size_alloc] at h); exact h)
 go_wp2_with fail
 clear hb9
 have H10 := L9
 clear L8 L9
 generalize ((w9.alloc (.cells #[.int .i64 2, .int .i64 2, .slice A9 4 c9] 27)).alloc (.cells #[.int .u8 1, .int .u8 2, .int .u8 3] 5)) = w10 at *
 refine (symR H10.out (r := 2) mm0 (by simp [maxLen]) rfl rfl (by decide) rfl 4 rfl (l := [1, 2, 2, 3]) (by decide +kernel)).mono ?_
 rintro e w11 ⟨A11, c11, rfl, h⟩
 have H11 := Lib.hid h
 clear h
 have L10 := Lib.hid (H11.out.put #[.int .i64 2, .int .i64 2, .slice A11 4 c11])
 have hb11 := Mx_build2 (w11.alloc (.cells #[.int .i64 2, .int .i64 2, .slice A11 4 c11] 27)) 1 1
 have L11 := Lib.hid (show MS _ _ (⟨some ⟨w11.heap.size + 1, 0, none⟩, [1, 1], 2⟩ :: _) _ ((w11.alloc (.cells #[.int .i64 2, .int .i64 2, .slice A11 4 c11] 27)).alloc (.cells #[.int .u8 1, .int .u8 1] 5)) from by have h := L10.out.lit #[.int .u8 1, .int .u8 1] [1, 1] (by simp [maxLen]) rfl 2 (by decide); (try simp only [World.size_alloc] at h); exact h)
 have L12 := Lib.hid (show MS _ _ _ ((w11.heap.size + 1 + 1, #[.int .i64 2, .int .i64 1, .slice (some ⟨w11.heap.size + 1, 0, none⟩) 2 2]) :: _) (((w11.alloc (.cells #[.int .i64 2, .int .i64 2, .slice A11 4 c11] 27)).alloc (.cells #[.int .u8 1, .int .u8 1] 5)).alloc (.cells #[.int .i64 2, .int .i64 1, .slice (some ⟨w11.heap.size + 1, 0, none⟩) 2 2] 27)) from by have h := L11.out.put #[.int .i64 2, .int .i64 1, .slice (some ⟨w11.heap.size + 1, 0, none⟩) 2 2]; (try simp only [World.size_alloc] at h); exact h)
 obtain ⟨a13, b13, d13⟩ := L12.out.cells mm0
 have hb14 := Mx_build2 (((w11.alloc (.cells #[.int .i64 2, .int .i64 2, .slice A11 4 c11] 27)).alloc (.cells #[.int .u8 1, .int .u8 1] 5)).alloc (.cells #[.int .i64 2, .int .i64 1, .slice (some ⟨w11.heap.size + 1, 0, none⟩) 2 2] 27)) 5 5
 have L14 := Lib.hid (show MS _ _ (⟨some ⟨w11.heap.size + 1 + 1 + 1, 0, none⟩, [5, 5], 2⟩ :: _) _ ((((w11.alloc (.cells #[.int .i64 2, .int .i64 2, .slice A11 4 c11] 27)).alloc (.cells #[.int .u8 1, .int .u8 1] 5)).alloc (.cells #[.int .i64 2, .int .i64 1, .slice (some ⟨w11.heap.size + 1, 0, none⟩) 2 2] 27)).alloc (.cells #[.int .u8 5, .int .u8 5] 5)) from by have h := L12.out.lit #[.int .u8 5, .int .u8 5] [5, 5] (by simp [maxLen]) rfl 2 (by decide); (try simp only [World.size_alloc] at h); exact h)
 go_wp2_with fail
 clear hb11 a13 b13 d13 hb14
 have H12 := L14
 clear L10 L11 L12 L14
 generalize ((((w11.alloc (.cells #[.int .i64 2, .int .i64 2, .slice A11 4 c11] 27)).alloc (.cells #[.int .u8 1, .int .u8 1] 5)).alloc (.cells #[.int .i64 2, .int .i64 1, .slice (some ⟨w11.heap.size + 1, 0, none⟩) 2 2] 27)).alloc (.cells #[.int .u8 5, .int .u8 5] 5)) = w12 at *
 refine (solveR H12.out (r := 2) (c := 1) (d := 1) mm1 mm0 rfl rfl ⟨rfl, rfl, rfl, rfl⟩ (by decide) ((flat_ent rfl).symm) ((flat_ent rfl).symm) (by decide +kernel) 1 1 1 ⟨rfl, rfl, rfl⟩ (l := [5]) (by decide +kernel)).mono ?_
 rintro e w13 ⟨A13, c13, rfl, h⟩
 have H13 := Lib.hid h
 clear h
 have L15 := Lib.hid (H13.out.put #[.int .i64 1, .int .i64 1, .slice A13 1 c13])
 obtain ⟨a16, b16, d16⟩ := L15.out.cells mm1
 have hb17 := Mx_build2 (w13.alloc (.cells #[.int .i64 1, .int .i64 1, .slice A13 1 c13] 27)) 5 6
 have L17 := Lib.hid (show MS _ _ (⟨some ⟨w13.heap.size + 1, 0, none⟩, [5, 6], 2⟩ :: _) _ ((w13.alloc (.cells #[.int .i64 1, .int .i64 1, .slice A13 1 c13] 27)).alloc (.cells #[.int .u8 5, .int .u8 6] 5)) from by have h := L15.out.lit #[.int .u8 5, .int .u8 6] [5, 6] (by simp [maxLen]) rfl 2 (by decide); (try simp only [World.size_alloc] at h); exact h)
 go_wp2_with fail
 clear a16 b16 d16 hb17
 have H14 := L17
 clear L15 L17
 generalize ((w13.alloc (.cells #[.int .i64 1, .int .i64 1, .slice A13 1 c13] 27)).alloc (.cells #[.int .u8 5, .int .u8 6] 5)) = w14 at *
 refine (solve1R H14.out (r := 2) (c := 1) (d := 1) mm3 mm0 rfl rfl ⟨rfl, rfl, rfl, rfl⟩ (by decide) ((flat_ent rfl).symm) ((flat_ent rfl).symm) (by decide +kernel)).mono ?_
 rintro e w15 ⟨rfl, h⟩
 have H15 := Lib.hid h
 clear h
 have L18 := Lib.hid (H15.out.put #[.int .i64 0, .int .i64 0, .slice none 0 0])
 obtain ⟨a19, b19, d19⟩ := L18.out.cells mm6
 have hb20 := Mx_build2 (w15.alloc (.cells #[.int .i64 0, .int .i64 0, .slice none 0 0] 27)) 11 4
 have L20 := Lib.hid (show MS _ _ (⟨some ⟨w15.heap.size + 1, 0, none⟩, [11, 4], 2⟩ :: _) _ ((w15.alloc (.cells #[.int .i64 0, .int .i64 0, .slice none 0 0] 27)).alloc (.cells #[.int .u8 11, .int .u8 4] 5)) from by have h := L18.out.lit #[.int .u8 11, .int .u8 4] [11, 4] (by simp [maxLen]) rfl 2 (by decide); (try simp only [World.size_alloc] at h); exact h)
 go_wp2_with fail
 clear a19 b19 d19 hb20
 have H16 := L20
 clear L18 L20
 generalize ((w15.alloc (.cells #[.int .i64 0, .int .i64 0, .slice none 0 0] 27)).alloc (.cells #[.int .u8 11, .int .u8 4] 5)) = w16 at *
 refine (sameBytesR H16.out mm11 rfl mm0 rfl (v := true) (by decide)).mono ?_
 rintro e w' ⟨rfl, rfl⟩
 obtain ⟨a21, b21, d21⟩ := H16.out.cells mm4
 have hb22 := Mx_build4 w16 1 1 0 1
 have L22 := Lib.hid (H16.out.lit #[.int .u8 1, .int .u8 1, .int .u8 0, .int .u8 1] [1, 1, 0, 1] (by simp [maxLen]) rfl 4 (by decide))
 go_wp2_with fail
 clear a21 b21 d21 hb22
 have H17 := L22
 clear L22
 generalize (w16.alloc (.cells #[.int .u8 1, .int .u8 1, .int .u8 0, .int .u8 1] 5)) = w17 at *
 refine (sameBytesR H17.out mm8 rfl mm0 rfl (v := true) (by decide)).mono ?_
 rintro e w' ⟨rfl, rfl⟩
 have hb23 := Mx_build2 w17 1 2
 have L23 := Lib.hid (H17.out.lit #[.int .u8 1, .int .u8 2] [1, 2] (by simp [maxLen]) rfl 2 (by decide))
 go_wp2_with fail
 clear hb23
 have H18 := L23
 clear L23
 generalize (w17.alloc (.cells #[.int .u8 1, .int .u8 2] 5)) = w18 at *
 refine (powR H18.out (c := 3) mm0 rfl rfl (by decide) 2 6 ⟨rfl, rfl⟩ (l := [1, 1, 1, 1, 2, 4]) (by decide +kernel)).mono ?_
 rintro e w19 ⟨A19, c19, rfl, h⟩
 have H19 := Lib.hid h
 clear h
 have hfd := fun W => Mx_field2 W 2 3 A19 6 c19
 have hb24 := Mx_build6 w19 1 1 1 1 2 4
 have L24 := Lib.hid (H19.out.lit #[.int .u8 1, .int .u8 1, .int .u8 1, .int .u8 1, .int .u8 2, .int .u8 4] [1, 1, 1, 1, 2, 4] (by simp [maxLen]) rfl 6 (by decide))
 go_wp2_with fail
 clear hb24
 have H20 := L24
 clear L24
 generalize (w19.alloc (.cells #[.int .u8 1, .int .u8 1, .int .u8 1, .int .u8 1, .int .u8 2, .int .u8 4] 5)) = w20 at *
 refine (sameBytesR H20.out mm1 rfl mm0 rfl (v := true) (by decide)).mono ?_
 rintro e w' ⟨rfl, rfl⟩
 clear hfd
 obtain ⟨a25, b25, d25⟩ := H20.out.cells mm3
 have hb26 := Mx_build4 w20 1 2 2 3
 have L26 := Lib.hid (H20.out.lit #[.int .u8 1, .int .u8 2, .int .u8 2, .int .u8 3] [1, 2, 2, 3] (by simp [maxLen]) rfl 4 (by decide))
 go_wp2_with fail
 clear a25 b25 d25 hb26
 have H21 := L26
 clear L26
 generalize (w20.alloc (.cells #[.int .u8 1, .int .u8 2, .int .u8 2, .int .u8 3] 5)) = w21 at *
 refine (sameBytesR H21.out mm10 rfl mm0 rfl (v := true) (by decide)).mono ?_
 rintro e w' ⟨rfl, rfl⟩
 obtain ⟨a27, b27, d27⟩ := H21.out.cells mm1
 have hb28 := Mx_build1 w21 5
 have L28 := Lib.hid (H21.out.lit #[.int .u8 5] [5] (by simp [maxLen]) rfl 1 (by decide))
 go_wp2_with fail
 clear a27 b27 d27 hb28
 have H22 := L28
 clear L28
 generalize (w21.alloc (.cells #[.int .u8 5] 5)) = w22 at *
 refine (sameBytesR H22.out mm8 rfl mm0 rfl (v := true) (by decide)).mono ?_
 rintro e w' ⟨rfl, rfl⟩
 go_wp2_with fail
 go_ret
 exact ⟨rfl, H22.out.below⟩
end Go.Proofs.Ythdapoipfnnaeaa.MxW
/- What the document's functions and Pick leave of a law's state. -/
namespace Go.Proofs.Ythdapoipfnnaeaa.MxW
open Go.RowKit Go.Shelf Mem Gf FdW Mx Rng
open PlW (In)
set_option linter.unusedVariables false
set_option linter.unusedSectionVars false
attribute [local go_sem] Oper.semAt_some wide_fn

set_option maxRecDepth 100000 in
set_option maxHeartbeats 40000000 in
theorem pick_bad (w : World) (R C : Int) (A : Option Addr) (nn cap : Nat) (K : Option Addr) (n ck : Nat) (hrt : rightB R C nn = false) :
    Calls Try.prog 28 #[.agg #[.int .i64 R, .int .i64 C, .slice A nn cap], .slice K n ck] w (ErrM w 50) := by
 have HR := Lib.hid hrt
 have H0 := Lib.hid (((BS.start w).put #[.int .i64 R, .int .i64 C, .slice A nn cap] 27 (by decide)).put #[.int .i64 0, .int .i64 0, .slice none 0 0] 27 (by decide))
 go_enter Try.func28, Try.ntmps28
 obtain ⟨⟨a0, a1, a2⟩, _⟩ := H0.out.cells mm1
 go_wp2_with fail
 clear a0 a1 a2
 generalize (w.alloc (.cells #[.int .i64 R, .int .i64 C, .slice A nn cap] 27)).alloc (.cells #[.int .i64 0, .int .i64 0, .slice none 0 0] 27) = w1 at *
 rw [World.size_alloc] at H0
 refine (right_any w1 _ _ A nn cap).mono ?_
 rintro e w2 ⟨rfl, hb⟩
 rw [HR.out]
 have H1 := Lib.hid (H0.out.keep hb)
 clear hb H0
 obtain ⟨⟨d0, d1, d2⟩, f0, f1, f2⟩ := H1.out.cells mm0
 have hfin := H1.out.end_ mm0 (.int .i64 0) (.int .i64 0) (.slice none 0 0)
 go_wp2_with fail
 obtain ⟨h1, h2, e0, e1, e2⟩ := hfin
 exact bodyPost_ret (v := .tuple #[.agg #[.int .i64 0, .int .i64 0, .slice none 0 0], .int .i64 50]) (by simp [results, Try.results28, go_sem, e0, e1, e2]) rfl ⟨rfl, h1⟩
set_option maxRecDepth 100000 in
set_option maxHeartbeats 40000000 in
theorem rpick_bad (w : World) (R C : Int) (A : Option Addr) (nn cap : Nat) (K : Option Addr) (n ck : Nat) (hrt : rightB R C nn = false) :
    Calls Try.prog 29 #[.agg #[.int .i64 R, .int .i64 C, .slice A nn cap], .slice K n ck] w (ErrM w 50) := by
 have HR := Lib.hid hrt
 have H0 := Lib.hid (((BS.start w).put #[.int .i64 R, .int .i64 C, .slice A nn cap] 38 (by decide)).put #[.int .i64 0, .int .i64 0, .slice none 0 0] 38 (by decide))
 go_enter Try.func29, Try.ntmps29
 obtain ⟨⟨a0, a1, a2⟩, _⟩ := H0.out.cells mm1
 go_wp2_with fail
 clear a0 a1 a2
 generalize (w.alloc (.cells #[.int .i64 R, .int .i64 C, .slice A nn cap] 38)).alloc (.cells #[.int .i64 0, .int .i64 0, .slice none 0 0] 38) = w1 at *
 rw [World.size_alloc] at H0
 refine (rright_any w1 _ _ A nn cap).mono ?_
 rintro e w2 ⟨rfl, hb⟩
 rw [HR.out]
 have H1 := Lib.hid (H0.out.keep hb)
 clear hb H0
 obtain ⟨⟨d0, d1, d2⟩, f0, f1, f2⟩ := H1.out.cells mm0
 have hfin := H1.out.end_ mm0 (.int .i64 0) (.int .i64 0) (.slice none 0 0)
 go_wp2_with fail
 obtain ⟨h1, h2, e0, e1, e2⟩ := hfin
 exact bodyPost_ret (v := .tuple #[.agg #[.int .i64 0, .int .i64 0, .slice none 0 0], .int .i64 50]) (by simp [results, Try.results29, go_sem, e0, e1, e2]) rfl ⟨rfl, h1⟩
section
variable {w0 w w' : World} {p : Option Nat} {R : List Rw} {X : List (Nat × Array Value)}
variable (h : MS w0 p R X w)
include h
variable {A B K : Option Addr} {a b : List UInt8} {ks : List Int} {ca cb ck n m r c d : Nat} {ma mb : M} {R1 C1 R2 C2 : Int}
theorem plainR : Calls Try.prog 20 #[.agg #[.int .i64 R1, .int .i64 C1, .slice A n ca]] w (SayM w0 p R X (.agg #[.int .i64 R1, .int .i64 C1, .slice A n ca])) :=
 (plain_any w R1 C1 A n ca).mono fun e w' ⟨he, hb⟩ => ⟨he, h.keep hb⟩
theorem lsameR (ha : ⟨A, a, ca⟩ ∈ R) (hn : a.length = n) (hb : ⟨B, b, cb⟩ ∈ R) (hm : b.length = m) {v : Bool} (hv : sameB R1 C1 R2 C2 a b = v) :
    Calls Try.prog 23 #[.agg #[.int .i64 R1, .int .i64 C1, .slice A n ca], .agg #[.int .i64 R2, .int .i64 C2, .slice B m cb]] w (SayM w0 p R X (.bool v)) := by
 subst hv
 exact (lsame_any w R1 C1 R2 C2 A B a b n ca m cb hn hm (h.row _ ha).1 (h.row _ hb).1).mono fun e w' ⟨he, hb⟩ => ⟨he, h.keep hb⟩
theorem newT {e : Ending} {m : M} {Ro Co : Int} {no : Nat} {l : List UInt8} (ho : Ro = r ∧ Co = c ∧ no = r * c) (hl : flat r c m = l) (k : NewT w r c m e w') : MatR w0 p R X Ro Co no l e w' := by
 obtain ⟨rfl, rfl, rfl⟩ := ho
 subst hl
 obtain ⟨A', cap, he, hle, hnw, hb⟩ := k
 exact ⟨A', cap, he, (h.keep hb).new hnw h.lt (by rw [flat_len]; exact hle)⟩
theorem pickR (hKs : Cells w0 w0.heap.size K (ks.map i64v)) (ha : ⟨A, a, ca⟩ ∈ R) (hk : ks.length = n) (hn : m = r * c) (hR : R1 = r ∧ C1 = c) (hd : r ≤ 100 ∧ c ≤ 100 ∧ n ≤ 100) (hA : a = flat r c ma) (hin : allIn r ks = true) (Ro Co : Int) (no : Nat) (ho : Ro = n ∧ Co = c ∧ no = n * c) {l : List UInt8} (hl : flat n c (pickM ma ks) = l) :
    Calls Try.prog 28 #[.agg #[.int .i64 R1, .int .i64 C1, .slice A m ca], .slice K n ck] w (MatR w0 p R X Ro Co no l) := by
 obtain ⟨rfl, rfl⟩ := hR
 subst hA
 have k1 := (h.row _ ha).2.2
 dsimp only at k1
 rw [flat_len] at k1
 exact (pick_any w r c A m ca ma K ks n ck hk hn hd (by omega) (h.row _ ha).1 ((hKs.below h.below).up h.below.size)).mono fun e w' k => newT h ho hl (k.1 hin)
theorem pick1R (hKs : Cells w0 w0.heap.size K (ks.map i64v)) (ha : ⟨A, a, ca⟩ ∈ R) (hk : ks.length = n) (hn : m = r * c) (hR : R1 = r ∧ C1 = c) (hd : r ≤ 100 ∧ c ≤ 100 ∧ n ≤ 100) (hA : a = flat r c ma) (hin : allIn r ks = false) :
    Calls Try.prog 28 #[.agg #[.int .i64 R1, .int .i64 C1, .slice A m ca], .slice K n ck] w (SayM w0 p R X (.tuple #[.agg #[.int .i64 0, .int .i64 0, .slice none 0 0], .int .i64 2])) := by
 obtain ⟨rfl, rfl⟩ := hR
 subst hA
 have k1 := (h.row _ ha).2.2
 dsimp only at k1
 rw [flat_len] at k1
 exact (pick_any w r c A m ca ma K ks n ck hk hn hd (by omega) (h.row _ ha).1 ((hKs.below h.below).up h.below.size)).mono fun e w' k => ⟨(k.2 hin).1, h.keep (k.2 hin).2⟩
theorem pick0R (hv : rightB R1 C1 m = false) : Calls Try.prog 28 #[.agg #[.int .i64 R1, .int .i64 C1, .slice A m ca], .slice K n ck] w (SayM w0 p R X (.tuple #[.agg #[.int .i64 0, .int .i64 0, .slice none 0 0], .int .i64 50])) :=
 (pick_bad w R1 C1 A m ca K n ck hv).mono fun e w' ⟨he, hb⟩ => ⟨he, h.keep hb⟩
theorem rpickR (hKs : Cells w0 w0.heap.size K (ks.map i64v)) (h64 : ∀ v ∈ ks, -9223372036854775808 ≤ v ∧ v ≤ 9223372036854775807) (ha : ⟨A, a, ca⟩ ∈ R) (hk : ks.length = n) (hn : m = r * c) (hR : R1 = r ∧ C1 = c) (hd : r ≤ 100 ∧ c ≤ 100 ∧ n ≤ 100) (hA : a = flat r c ma) (hin : allIn r ks = true) (Ro Co : Int) (no : Nat) (ho : Ro = n ∧ Co = c ∧ no = n * c) {l : List UInt8} (hl : flat n c (pickM ma ks) = l) :
    Calls Try.prog 29 #[.agg #[.int .i64 R1, .int .i64 C1, .slice A m ca], .slice K n ck] w (MatR w0 p R X Ro Co no l) := by
 obtain ⟨rfl, rfl⟩ := hR
 subst hA
 have k1 := (h.row _ ha).2.2
 dsimp only at k1
 rw [flat_len] at k1
 exact (rpick_any w r c A m ca ma K ks n ck hk hn hd (by omega) (h.row _ ha).1 ((hKs.below h.below).up h.below.size) h64).mono fun e w' k => newT h ho hl (k.1 hin)
theorem rpick1R (hKs : Cells w0 w0.heap.size K (ks.map i64v)) (h64 : ∀ v ∈ ks, -9223372036854775808 ≤ v ∧ v ≤ 9223372036854775807) (ha : ⟨A, a, ca⟩ ∈ R) (hk : ks.length = n) (hn : m = r * c) (hR : R1 = r ∧ C1 = c) (hd : r ≤ 100 ∧ c ≤ 100 ∧ n ≤ 100) (hA : a = flat r c ma) (hin : allIn r ks = false) :
    Calls Try.prog 29 #[.agg #[.int .i64 R1, .int .i64 C1, .slice A m ca], .slice K n ck] w (SayM w0 p R X (.tuple #[.agg #[.int .i64 0, .int .i64 0, .slice none 0 0], .int .i64 2])) := by
 obtain ⟨rfl, rfl⟩ := hR
 subst hA
 have k1 := (h.row _ ha).2.2
 dsimp only at k1
 rw [flat_len] at k1
 exact (rpick_any w r c A m ca ma K ks n ck hk hn hd (by omega) (h.row _ ha).1 ((hKs.below h.below).up h.below.size) h64).mono fun e w' k => ⟨(k.2 hin).1, h.keep (k.2 hin).2⟩
theorem rpick0R (hv : rightB R1 C1 m = false) : Calls Try.prog 29 #[.agg #[.int .i64 R1, .int .i64 C1, .slice A m ca], .slice K n ck] w (SayM w0 p R X (.tuple #[.agg #[.int .i64 0, .int .i64 0, .slice none 0 0], .int .i64 50])) :=
 (rpick_bad w R1 C1 A m ca K n ck hv).mono fun e w' ⟨he, hb⟩ => ⟨he, h.keep hb⟩
theorem symXR (hn9 : -9223372036854775808 ≤ R1 ∧ R1 ≤ 9223372036854775807) (hx : R1 < 0 ∨ 65536 < R1 ∨ (0 ≤ R1 ∧ R1 ≤ 65536 ∧ (n : Int) ≠ R1 * (R1 + 1) / 2)) : Calls Try.prog 30 #[.int .i64 R1, .slice A n ca] w (SayM w0 p R X (.tuple #[.agg #[.int .i64 0, .int .i64 0, .slice none 0 0], .int .i64 50])) :=
 (sym_bad w R1 A n ca hn9 hx).mono fun e w' ⟨he, hb⟩ => ⟨he, h.keep hb⟩
theorem rsymXR (hn9 : -9223372036854775808 ≤ R1 ∧ R1 ≤ 9223372036854775807) (hx : R1 < 0 ∨ 65536 < R1 ∨ (0 ≤ R1 ∧ R1 ≤ 65536 ∧ (n : Int) ≠ R1 * (R1 + 1) / 2)) : Calls Try.prog 31 #[.int .i64 R1, .slice A n ca] w (SayM w0 p R X (.tuple #[.agg #[.int .i64 0, .int .i64 0, .slice none 0 0], .int .i64 50])) :=
 (rsym_bad w R1 A n ca hn9 hx).mono fun e w' ⟨he, hb⟩ => ⟨he, h.keep hb⟩
theorem rsymR (ha : ⟨A, b, ca⟩ ∈ R) (hn : b.length = n) (hR : R1 = r) (hd : r ≤ 100) (h2 : 2 * n = r * (r + 1)) (no : Nat) (ho : no = r * r) {l : List UInt8} (hl : flat r r (symM r b) = l) :
    Calls Try.prog 31 #[.int .i64 R1, .slice A n ca] w (MatR w0 p R X R1 R1 no l) := by
 subst hR
 exact (rsym_ok w r hd A b n ca hn h2 (h.row _ ha).1).mono fun e w' k => newT h ⟨rfl, rfl, ho⟩ hl k
theorem newO {e : Ending} {m : M} {Ro Co : Int} {no : Nat} {l : List UInt8} (ho : Ro = r ∧ Co = c ∧ no = r * c) (hl : flat r c m = l) (k : NewM w r c m e w') : MatO w0 p R X Ro Co no l e w' := by
 obtain ⟨rfl, rfl, rfl⟩ := ho
 subst hl
 obtain ⟨A', cap, he, hle, hnw, hb⟩ := k
 exact ⟨A', cap, he, (h.keep hb).new hnw h.lt (by rw [flat_len]; exact hle)⟩
theorem one0R (hR : R1 < 0 ∨ 4096 < R1) : Calls Try.prog 27 #[.int .i64 R1] w (MatO w0 p R X 0 0 0 []) :=
 (one_out w R1 hR).mono fun e w' k => newO h ⟨rfl, rfl, rfl⟩ rfl k
theorem roneR (hR : max 0 R1 = (r : Int)) (hd : R1 ≤ 100) (Ro : Int) (no : Nat) (ho : Ro = r ∧ no = r * r) {l : List UInt8} (hl : flat r r idm = l) : Calls Try.prog 32 #[.int .i64 R1] w (MatO w0 p R X Ro Ro no l) :=
 (rone_any w R1 r hR hd).mono fun e w' k => newO h ⟨ho.1, ho.1, ho.2⟩ hl k
theorem rpowR (ha : ⟨A, a, ca⟩ ∈ R) (hn : a.length = n) (hd : n ≤ 1000) (hc : C1 ≤ 1000) (hcc : max 0 C1 = (c : Int)) (Ro Co : Int) (no : Nat) (ho : Ro = n ∧ Co = c ∧ no = n * c) {l : List UInt8} (hl : flat n c (powM a) = l) :
    Calls Try.prog 33 #[.slice A n ca, .int .i64 C1] w (MatO w0 p R X Ro Co no l) :=
 (rpow_any w A a n ca hn C1 c (h.row _ ha).1 hd hc hcc).mono fun e w' k => newO h ho hl k
end
theorem Mx_field0 (W : World) (a b : Int) (A : Option Addr) (n c : Nat) : (Instr.field 27 (.agg #[.int .i64 a, .int .i64 b, .slice A n c]) 0).run Try.prog W = .ok (.int .i64 a) W := by kernel_rfl
theorem pow0R {w0 w : World} {q : Nat} {R : List Rw} {X : List (Nat × Array Value)} (h : MS w0 (some q) R X w) {A : Option Addr} {a : List UInt8} {ca n : Nat} {C1 : Int} (ha : ⟨A, a, ca⟩ ∈ R) (hn : a.length = n) (hd : n ≤ 1000) (hc : C1 < 0) :
    Calls Try.prog 13 #[fptr (some q), .slice A n ca, .int .i64 C1] w (MatO w0 (some q) R X n 0 (n * 0) (flat n 0 (powM a))) :=
 (pow_ok3 w q (h.fld q rfl).2 A a n ca hn C1 (h.in_ ha) hd hc).mono fun e w' ⟨A', cap, he, hle, hnw, hF, hf⟩ => ⟨A', cap, he, (h.fr hF hf).new hnw h.lt (by rw [flat_len]; exact hle)⟩
end Go.Proofs.Ythdapoipfnnaeaa.MxW
/- The bounds of chapter 05: Pick and Powers at great sizes. Printed by genbnd.py. -/
namespace Go.Proofs.Ythdapoipfnnaeaa.MxW
open Go.RowKit Go.Shelf Mem Gf FdW Mx Rng
open PlW (In)
set_option linter.unusedVariables false
set_option linter.unusedSectionVars false
attribute [local go_sem] Oper.semAt_some wide_fn

set_option maxRecDepth 100000 in
set_option maxHeartbeats 40000000 in
theorem pick_far (w : World) (R C : Int) (A : Option Addr) (nn cap : Nat) (K : Option Addr) (n ck : Nat) (hrt : rightB R C nn = true) (hn : decide ((65536 : Int) < (n : Int)) = true) :
    Calls Try.prog 28 #[.agg #[.int .i64 R, .int .i64 C, .slice A nn cap], .slice K n ck] w (ErrM w 50) := by
 have HR := Lib.hid hrt
 have H0 := Lib.hid (((BS.start w).put #[.int .i64 R, .int .i64 C, .slice A nn cap] 27 (by decide)).put #[.int .i64 0, .int .i64 0, .slice none 0 0] 27 (by decide))
 go_enter Try.func28, Try.ntmps28
 obtain ⟨⟨a0, a1, a2⟩, _⟩ := H0.out.cells mm1
 go_wp2_with fail
 clear a0 a1 a2
 generalize (w.alloc (.cells #[.int .i64 R, .int .i64 C, .slice A nn cap] 27)).alloc (.cells #[.int .i64 0, .int .i64 0, .slice none 0 0] 27) = w1 at *
 rw [World.size_alloc] at H0
 refine (right_any w1 _ _ A nn cap).mono ?_
 rintro e w2 ⟨rfl, hb⟩
 rw [HR.out]
 have H1 := Lib.hid (H0.out.keep hb)
 clear hb H0
 obtain ⟨⟨d0, d1, d2⟩, f0, f1, f2⟩ := H1.out.cells mm0
 obtain ⟨⟨a0, a1, a2⟩, _⟩ := H1.out.cells mm1
 have hfin := H1.out.end_ mm0 (.int .i64 0) (.int .i64 0) (.slice none 0 0)
 go_wp2_with fail
 obtain ⟨h1, h2, e0, e1, e2⟩ := hfin
 exact bodyPost_ret (v := .tuple #[.agg #[.int .i64 0, .int .i64 0, .slice none 0 0], .int .i64 50]) (by simp [results, Try.results28, go_sem, e0, e1, e2]) rfl ⟨rfl, h1⟩
set_option maxRecDepth 100000 in
set_option maxHeartbeats 40000000 in
theorem pick_full (w : World) (R C : Int) (A : Option Addr) (nn cap : Nat) (K : Option Addr) (n ck : Nat) (hrt : rightB R C nn = true) (hn : decide ((65536 : Int) < (n : Int)) = false) (hC : 0 < C) (q : Int) (hq : IntKind.i64.wrap ((16777216 : Int).tdiv C) = q) (hd : decide (q < (n : Int)) = true) :
    Calls Try.prog 28 #[.agg #[.int .i64 R, .int .i64 C, .slice A nn cap], .slice K n ck] w (ErrM w 50) := by
 have HR := Lib.hid hrt
 have H0 := Lib.hid (((BS.start w).put #[.int .i64 R, .int .i64 C, .slice A nn cap] 27 (by decide)).put #[.int .i64 0, .int .i64 0, .slice none 0 0] 27 (by decide))
 have hC0 : decide ((0 : Int) < C) = true := decide_eq_true hC
 have hcz : (C == 0) = false := by simp; omega
 have hcn : ¬ C = 0 := by omega
 go_enter Try.func28, Try.ntmps28
 obtain ⟨⟨a0, a1, a2⟩, _⟩ := H0.out.cells mm1
 go_wp2_with fail
 clear a0 a1 a2
 generalize (w.alloc (.cells #[.int .i64 R, .int .i64 C, .slice A nn cap] 27)).alloc (.cells #[.int .i64 0, .int .i64 0, .slice none 0 0] 27) = w1 at *
 rw [World.size_alloc] at H0
 refine (right_any w1 _ _ A nn cap).mono ?_
 rintro e w2 ⟨rfl, hb⟩
 rw [HR.out]
 have H1 := Lib.hid (H0.out.keep hb)
 clear hb H0
 obtain ⟨⟨d0, d1, d2⟩, f0, f1, f2⟩ := H1.out.cells mm0
 obtain ⟨⟨a0, a1, a2⟩, _⟩ := H1.out.cells mm1
 have hfin := H1.out.end_ mm0 (.int .i64 0) (.int .i64 0) (.slice none 0 0)
 go_wp2_with fail
 obtain ⟨h1, h2, e0, e1, e2⟩ := hfin
 exact bodyPost_ret (v := .tuple #[.agg #[.int .i64 0, .int .i64 0, .slice none 0 0], .int .i64 50]) (by simp [results, Try.results28, go_sem, e0, e1, e2]) rfl ⟨rfl, h1⟩
theorem flat_one (n : Nat) (m : M) (v : UInt8) (h : ∀ i, i < n → m i 0 = v) : flat n 1 m = List.replicate n v := by
 refine List.ext_getElem (by rw [flat_len, List.length_replicate, Nat.mul_one]) fun i h1 h2 => ?_
 rw [List.length_replicate] at h2
 have h3 := flat_get (r := n) (c := 1) (m := m) h2 (show 0 < 1 by decide)
 rw [Nat.mul_one, Nat.add_zero, List.getElem?_eq_getElem h1] at h3
 injection h3 with h3
 rw [h3, h i h2, List.getElem_replicate]
/-- Many rows of the one byte 7. -/
theorem pick_big (w : World) (A : Option Addr) (cap : Nat) (hA : Bytes w w.heap.size A [7]) (hcap : 1 ≤ cap) (K : Option Addr) (n ck : Nat) (hK : Cells w w.heap.size K ((List.replicate n (0 : Int)).map i64v)) (hn : n ≤ 256 ^ 2) (h0 : 0 < n) :
    Calls Try.prog 28 #[.agg #[.int .i64 1, .int .i64 1, .slice A 1 cap], .slice K n ck] w fun e w' => ∃ B c l, e = .returned (.tuple #[.agg #[.int .i64 (n : Int), .int .i64 1, .slice B n c], .int .i64 0]) ∧ l.length = n ∧ l[n - 1]? = some 7 ∧ n ≤ c ∧ Nw w.heap.size w' B l ∧ Below w.heap.size w w' := by
 have hin : allIn 1 (List.replicate n (0 : Int)) = true := by
  unfold allIn
  rw [List.all_eq_true]
  intro x hx
  rw [List.eq_of_mem_replicate hx]; decide
 refine (pick_wide w 1 1 A 1 cap (fun _ _ => 7) K (List.replicate n 0) n ck List.length_replicate rfl ⟨by omega, by omega, hn⟩ hcap (by rw [flat_one 1 _ 7 fun _ _ => rfl]; exact hA) hK).mono fun e w' h => ?_
 obtain ⟨B, c, h1, h2, h3, h4⟩ := h.1 hin
 rw [Nat.mul_one] at h1 h2
 refine ⟨B, c, _, h1, by rw [flat_len, Nat.mul_one], ?_, h2, h3, h4⟩
 rw [flat_one n _ 7 fun i _ => rfl, List.getElem?_replicate, if_pos (by omega)]
theorem pow_far2 (w : World) (p : Nat) (hp : Fld w p) (A : Option Addr) (r cap : Nat) (hr : 65536 < r) :
    Calls Try.prog 13 #[.pointer (some ⟨p, 0, none⟩), .slice A r cap, .int .i64 1] w fun e w' => ∃ B c, e = .returned (.agg #[.int .i64 0, .int .i64 1, .slice B 0 c]) ∧ Fld w' p ∧ Fr (fun k => k = p) w w' :=
 (pow_far w p hp A r cap 1 hr (by omega)).mono fun e w' ⟨B, c, h1, _, _, h2, h3⟩ => ⟨B, c, h1, h2, h3⟩
theorem pow_wide2 (w : World) (p : Nat) (hp : Fld w p) (A : Option Addr) (xs : List UInt8) (r cap : Nat) (hn : xs.length = r) (cols : Int) (hA : In w p A xs) (hr : r ≤ 1000) (h0 : 0 < r) (hc : decide ((16777216 : Int) / (r : Int) < cols) = true) :
    Calls Try.prog 13 #[.pointer (some ⟨p, 0, none⟩), .slice A r cap, .int .i64 cols] w fun e w' => ∃ B c, e = .returned (.agg #[.int .i64 (r : Int), .int .i64 0, .slice B 0 c]) ∧ Fld w' p ∧ Fr (fun k => k = p) w w' :=
 (pow_wide w p hp A xs r cap hn cols hA hr h0 hc).mono fun e w' ⟨B, c, h1, _, _, h2, h3⟩ => ⟨B, c, by rw [Nat.mul_zero] at h1; exact h1, h2, h3⟩
theorem i64info5 : (Try.prog.info? 3).map (fun i => (i.zero, i.size, i.bytes)) = some (some (.int .i64 0), 1, 8) := by kernel_rfl
theorem wpList_ints {ops : Array Oper} {rest : List Oper} {o : Oper} {a : Act} {Q : Exit → Act → World → Prop} (w : World) (hg : o.guard = none) (l c : Operand) (hop : o.op = Op.makeSlice 48 l c) (n : Nat) (N : Int) (hl : a.eval l = .int .i64 N) (hc : a.eval c = .int .i64 N) (hN : N = (n : Int)) (hn : n ≤ 1000000)
    (h : ∀ w', Cells w' w'.heap.size (some ⟨w.heap.size, 0, none⟩) ((List.replicate n (0 : Int)).map i64v) → Below w.heap.size w w' → wpList Try.prog ops Q rest (a.put o.dst (.slice (some ⟨w.heap.size, 0, none⟩) n n)) w') : wpList Try.prog ops Q (o :: rest) a w := by
 obtain ⟨i0, hi0, hz0, hz1, hz2⟩ := info_parts i64info5
 refine wpList_mk hg l c _ hop 3 i0 8 (.int .i64 0) Try.underlying48 hi0 hz0 hz1 hz2 rfl N n hl hc hN (by omega) (by unfold maxLen; omega) n rfl (h _ ?_ (nextA (Mem.start w) _))
 have e := (own_mk w n (.int .i64 0) 3 (by unfold maxLen; omega) (Nat.le_refl _)).cells
 rw [List.map_replicate]
 exact e
/-- make of so many bytes. -/
def nz5 (n : Nat) : List UInt8 := List.replicate n 0
theorem nz5_len (n : Nat) : (nz5 n).length = n := List.length_replicate
theorem run_bytes5 (w : World) (n : Nat) (hn : n ≤ 1000000) : ∃ w', (Instr.makeSlice 22 (.int .i64 (n : Int)) (.int .i64 (n : Int))).run Try.prog w = .ok (.slice (some ⟨w.heap.size, 0, none⟩) n n) w' ∧ Nw w.heap.size w' (some ⟨w.heap.size, 0, none⟩) (nz5 n) ∧ Below w.heap.size w w' := by
 obtain ⟨i0, hi0, hz0, hz1, hz2⟩ := info_parts u8info
 have hrun := run_make (P := Try.prog) w 22 5 i0 _ Try.underlying22 hi0 hz0 .i64 .i64 (n : Int) (n : Int) (by omega) (by omega) (by rw [hz2, ← Int.natCast_mul]; omega) (by omega)
 rw [hz1, Nat.mul_one, Int.toNat_natCast] at hrun
 refine ⟨_, hrun, ?_, nextA (Mem.start w) _⟩
 have e := own_made w (madeCells (Value.int IntKind.u8 0).cells n) 5 (by rw [size_madeCells]; unfold maxLen; omega) (base := w.heap.size) (Nat.le_refl _)
 rw [show (madeCells (Value.int IntKind.u8 0).cells n).toList = (nz5 n).map u8v from by
  rw [show (Value.int IntKind.u8 0).cells = #[.int .u8 0] from rfl, toList_madeCells_one]; unfold nz5; rw [List.map_replicate]; rfl] at e
 exact Nw.of_own e

/-- The rows picked: many noughts. -/
def ks5 : List Value := (List.replicate 65537 (0 : Int)).map i64v
theorem ks5_pos : 0 < ks5.length := by unfold ks5; rw [List.length_map, List.length_replicate]; decide
theorem ks5_drop : ks5.drop 1 = (List.replicate 65536 (0 : Int)).map i64v := by unfold ks5; rw [← List.map_drop, List.drop_replicate]
theorem cells_keep {w w' : World} {A : Option Addr} {xs : List Value} (h : Cells w w.heap.size A xs) (hb : Below w.heap.size w w') : Cells w' w'.heap.size A xs := (h.below hb).up hb.size
theorem cells_lt {w : World} {B g : Nat} {xs : List Value} (h : Cells w B (some ⟨g, 0, none⟩) xs) (hx : 0 < xs.length) : g < B := by
 obtain ⟨b, off, e, hb, _⟩ := h hx
 injection e with e; injection e with e _; subst e; exact hb
theorem cells_set {w : World} {g gm : Nat} {xs : List Value} (h : Cells w w.heap.size (some ⟨gm, 0, none⟩) xs) (hg : gm < g) (v0 v1 v2 : Value) : Cells (((w.setCell ⟨g, 0, none⟩ v0).setCell ⟨g, 1, none⟩ v1).setCell ⟨g, 2, none⟩ v2) (((w.setCell ⟨g, 0, none⟩ v0).setCell ⟨g, 1, none⟩ v1).setCell ⟨g, 2, none⟩ v2).heap.size (some ⟨gm, 0, none⟩) xs := fun hl => by
 obtain ⟨b, off, e, hb, hc⟩ := h hl
 injection e with e; injection e with e e2; subst e; subst e2
 have hne : gm ≠ g := Nat.ne_of_lt hg
 have hf : Fr (fun k => k = g) w (((w.setCell ⟨g, 0, none⟩ v0).setCell ⟨g, 1, none⟩ v1).setCell ⟨g, 2, none⟩ v2) := (((Fr.refl (fun k => k = g) w).setCell (p := ⟨g, 0, none⟩) (fun _ => rfl) v0).setCell (p := ⟨g, 1, none⟩) (fun _ => rfl) v1).setCell (p := ⟨g, 2, none⟩) (fun _ => rfl) v2
 exact ⟨gm, 0, rfl, by simpa using hb, fun k v hk => by rw [← hc k v hk]; exact World.cell?_of_block (hf.block gm hb hne)⟩
set_option maxRecDepth 100000 in
set_option maxHeartbeats 16000000 in
theorem bounds_any (w : World) : Calls Try.prog 42 #[] w fun e w' => e = .returned (.bool true) ∧ Below w.heap.size w w' := by
 have H0 := Lib.hid (MS.start w)
 obtain ⟨q, hq⟩ : ∃ q, w.heap.size = q := ⟨_, rfl⟩
 go_enter Try.func42, Try.ntmps42
 clear hq
 go_wp2_with fail
 refine (newR H0.out).mono ?_
 rintro e w1 ⟨rfl, h⟩
 obtain ⟨q, hq⟩ : ∃ q, w.heap.size = q := ⟨_, rfl⟩
 rw [hq] at h ⊢
 have H1 := Lib.hid h
 clear h hq H0
 go_upto_region 3 with ((with_reducible show wpList _ _ _ ((⟨some 13, _, _, _, _, _⟩ : Oper) :: _) _ _); refine wpList_ints w1 rfl _ _ rfl 65537 65537 rfl rfl rfl (by decide) ?_; intro w2 hc hb; obtain ⟨gm, hgm⟩ : ∃ x, w1.heap.size = x := ⟨_, rfl⟩; rw [hgm] at hc ⊢; have H2 := Lib.hid (H1.out.keep hb); have HM2 := Lib.hid (show Cells w2 w2.heap.size (some ⟨gm, 0, none⟩) ks5 from hc); clear hc hb hgm)
 clear H1
 have hb1 := Mx_build1 w2 7
 have L1 := Lib.hid (H2.out.lit #[.int .u8 7] [7] (by simp [maxLen]) rfl 1 (by decide))
 have L2 := Lib.hid (show MS _ _ _ ((w2.heap.size + 1, #[.int .i64 1, .int .i64 1, .slice (some ⟨w2.heap.size, 0, none⟩) 1 1]) :: _) ((w2.alloc (.cells #[.int .u8 7] 5)).alloc (.cells #[.int .i64 1, .int .i64 1, .slice (some ⟨w2.heap.size, 0, none⟩) 1 1] 27)) from by have h := L1.out.put #[.int .i64 1, .int .i64 1, .slice (some ⟨w2.heap.size, 0, none⟩) 1 1]; (try simp only [World.size_alloc] at h); exact h)
 obtain ⟨a3, b3, d3⟩ := L2.out.cells mm0
 have hm3 := cells_keep HM2.out (nextA (nextA (Mem.start w2) (.cells #[.int .u8 7] 5)) (.cells #[.int .i64 1, .int .i64 1, .slice (some ⟨w2.heap.size, 0, none⟩) 1 1] 27))
 go_wp2_with fail
 clear hb1 a3 b3 d3
 have H3 := L2
 clear L1 L2
 generalize ((w2.alloc (.cells #[.int .u8 7] 5)).alloc (.cells #[.int .i64 1, .int .i64 1, .slice (some ⟨w2.heap.size, 0, none⟩) 1 1] 27)) = w3 at *
 have HM3 := Lib.hid hm3
 obtain ⟨gd, hgd⟩ : ∃ x, w2.heap.size = x := ⟨_, rfl⟩
 rw [hgd] at H3 ⊢
 obtain ⟨ga, hga⟩ : ∃ x, gd + 1 = x := ⟨_, rfl⟩
 rw [hga] at H3 ⊢
 clear hgd hga hm3 HM2 H2
 refine (pick_far w3 1 1 (some ⟨gd, 0, none⟩) 1 1 (some ⟨gm, 0, none⟩) 65537 65537 (by decide) (by decide)).mono ?_
 rintro e w4 ⟨rfl, hb⟩
 have H4 := Lib.hid (H3.out.keep hb)
 have HM4 := Lib.hid (cells_keep HM3.out hb)
 clear hb H3 HM3
 have L1 := Lib.hid (H4.out.put #[.int .i64 0, .int .i64 0, .slice none 0 0])
 have hm := cells_keep HM4.out (nextA (Mem.start w4) (.cells #[.int .i64 0, .int .i64 0, .slice none 0 0] 27))
 go_upto_region 5 with fail
 have H5 := L1
 have HM5 := Lib.hid hm
 clear L1 H4 hm HM4
 obtain ⟨g5, hg5⟩ : ∃ x, w4.heap.size = x := ⟨_, rfl⟩
 rw [hg5] at H5 ⊢
 clear hg5
 generalize w4.alloc (.cells #[.int .i64 0, .int .i64 0, .slice none 0 0] 27) = w5 at *
 go_cut [6, 7] (fun s6 s7 wx => ∃ g B c l, s6 = .pointer (some ⟨g, 0, none⟩) ∧ s7 = .int .i64 0 ∧ l.length = 65536 ∧ l[65535]? = some 7 ∧ MS w (some q) (⟨B, l, c⟩ :: [⟨some ⟨gd, 0, none⟩, [7], 1⟩]) ((g, #[.int .i64 65536, .int .i64 1, .slice B 65536 c]) :: [(g5, #[.int .i64 0, .int .i64 0, .slice none 0 0]), (ga, #[.int .i64 1, .int .i64 1, .slice (some ⟨gd, 0, none⟩) 1 1])]) wx ∧ Cells wx wx.heap.size (some ⟨gm, 0, none⟩) ks5)
 case first =>
  have HD := Lib.hid (show MS w (some q) [⟨some ⟨gd, 0, none⟩, [7], 1⟩] [(g5, #[.int .i64 0, .int .i64 0, .slice none 0 0]), (ga, #[.int .i64 1, .int .i64 1, .slice (some ⟨gd, 0, none⟩) 1 1])] w5.drew from H5.out.keep (nextN (Mem.start w5) 1))
  have HMD := Lib.hid (show Cells w5.drew w5.drew.heap.size (some ⟨gm, 0, none⟩) ks5 from cells_keep HM5.out (nextN (Mem.start w5) 1))
  refine wp_region_noPanic ?_
  refine wp_heldG (fun V => V.cell? ⟨ga, 0, none⟩ = some (.int .i64 1) ∧ V.cell? ⟨ga, 1, none⟩ = some (.int .i64 1) ∧ V.cell? ⟨ga, 2, none⟩ = some (.slice (some ⟨gd, 0, none⟩) 1 1)) [] (by kernel_rfl) ?hs0 ?rg0
  case hs0 => exact HD.out.cells mm1
  case rg0 =>
  intro hHeld
  generalize w5.drew = wd at *
  refine tk 0 rfl (by intro w hSw; obtain ⟨k0, k1, k2⟩ := hSw; go_simp; try with_reducible rfl) ?_
  refine pu 1 ?_
  refine pu 2 ?_
  refine tw 3 7 rfl rfl (fun K hK => ?_) fun K hK => ?_
  ·skip
   go_simp
   refine (pick_big wd (some ⟨gd, 0, none⟩) 1 (HD.out.row _ mm0).1 (by decide) (some ⟨gm, 1, none⟩) 65536 65536 (by have h := Cells.drop HMD.out 1; rw [ks5_drop] at h; exact h) (by decide) (by decide)).mono ?_
   rintro e w21 ⟨B, c, l, rfl, hl1, hl2, hc, hnw, hb⟩
   have H21 := Lib.hid ((HD.out.keep hb).new hnw HD.out.lt (by rw [hl1]; exact hc))
   have HM21 := Lib.hid (cells_keep HMD.out hb)
   have HLL := Lib.hid (And.intro hl1 hl2)
   clear hl1 hl2 hc hnw hb
   try dsimp only
   refine hK.out _ _ (fun _ => H21.out.cells mm1) fun hHeld => ?_
   clear hK K
   try simp only [pU, pU0, pA, pB, pC]
   have hHeld := hHeld (by kernel_rfl)
   refine pu 4 ?_
   refine pu 5 ?_
   refine pu 6 ?_
   refine on 7 rfl fun K hK => ?_
   refine step_new (P := Try.prog) _ ⟨rfl, rfl, rfl⟩ newMx ?_
   have H22 := Lib.hid (H21.out.put #[.int .i64 0, .int .i64 0, .slice none 0 0])
   have HB22 := Lib.hid (And.intro H21.out.below.size H21.out.far)
   have HM22 := Lib.hid (cells_keep HM21.out (nextA (Mem.start _) (.cells #[.int .i64 0, .int .i64 0, .slice none 0 0] 27)))
   obtain ⟨g22, hg22⟩ : ∃ x, w21.heap.size = x := ⟨_, rfl⟩
   rw [hg22] at H22 HB22 ⊢
   have HGM := Lib.hid (show gm < g22 from (by rw [← hg22]; exact cells_lt HM21.out ks5_pos))
   clear hg22
   generalize w21.alloc (.cells #[.int .i64 0, .int .i64 0, .slice none 0 0] 27) = w22 at *
   try dsimp only
   refine hK.out _ _ (fun _ => H22.out.cells mm2) fun hHeld => ?_
   clear hK K
   try simp only [pU, pU0, pA, pB, pC]
   have hHeld := hHeld (by kernel_rfl)
   refine on 8 rfl fun K hK => ?_
   obtain ⟨⟨z0, z1, z2⟩, f0, f1, f2⟩ := H22.out.blk mm0
   go_simp
   have H23 := Lib.hid (H22.out.set HB22.out.1 HB22.out.2 (.int .i64 65536) (.int .i64 1) (.slice B 65536 c))
   have HM23 := Lib.hid (cells_set HM22.out HGM.out (.int .i64 65536) (.int .i64 1) (.slice B 65536 c))
   clear z0 z1 z2 f0 f1 f2
   generalize ((w22.setCell ⟨g22, 0, none⟩ (.int .i64 65536)).setCell ⟨g22, 1, none⟩ (.int .i64 1)).setCell ⟨g22, 2, none⟩ (.slice B 65536 c) = w23 at *
   try dsimp only
   refine hK.out _ _ (fun _ => H23.out.cells mm2) fun hHeld => ?_
   clear hK K
   try simp only [pU, pU0, pA, pB, pC]
   have hHeld := hHeld (by kernel_rfl)
   refine pu 9 ?_
   refine wpAnyG_done (by kernel_rfl) ?_ _
   refine NoPanic.normal ?_
   go_wp2_with fail
   go_meet
   exact ⟨g22, B, c, l, rfl, rfl, HLL.out.1, HLL.out.2, H23.out, HM23.out⟩
  ·skip
   refine step_new (P := Try.prog) _ ⟨rfl, rfl, rfl⟩ newMx ?_
   have H24 := Lib.hid (HD.out.put #[.int .i64 0, .int .i64 0, .slice none 0 0])
   have HB24 := Lib.hid (And.intro HD.out.below.size HD.out.far)
   have HM24 := Lib.hid (cells_keep HMD.out (nextA (Mem.start _) (.cells #[.int .i64 0, .int .i64 0, .slice none 0 0] 27)))
   obtain ⟨g24, hg24⟩ : ∃ x, wd.heap.size = x := ⟨_, rfl⟩
   rw [hg24] at H24 HB24 ⊢
   have HGM := Lib.hid (show gm < g24 from (by rw [← hg24]; exact cells_lt HMD.out ks5_pos))
   clear hg24
   generalize wd.alloc (.cells #[.int .i64 0, .int .i64 0, .slice none 0 0] 27) = w24 at *
   try dsimp only
   refine hK.out _ _ (fun _ => H24.out.cells mm2) fun hHeld => ?_
   clear hK K
   try simp only [pU, pU0, pA, pB, pC]
   have hHeld := hHeld (by kernel_rfl)
   refine on 3 rfl fun K hK => ?_
   go_simp
   refine (pick_big w24 (some ⟨gd, 0, none⟩) 1 (H24.out.row _ mm0).1 (by decide) (some ⟨gm, 1, none⟩) 65536 65536 (by have h := Cells.drop HM24.out 1; rw [ks5_drop] at h; exact h) (by decide) (by decide)).mono ?_
   rintro e w25 ⟨B, c, l, rfl, hl1, hl2, hc, hnw, hb⟩
   have H25 := Lib.hid ((H24.out.keep hb).new hnw H24.out.lt (by rw [hl1]; exact hc))
   have HM25 := Lib.hid (cells_keep HM24.out hb)
   have HLL := Lib.hid (And.intro hl1 hl2)
   clear hl1 hl2 hc hnw hb
   try dsimp only
   refine hK.out _ _ (fun _ => H25.out.cells mm2) fun hHeld => ?_
   clear hK K
   try simp only [pU, pU0, pA, pB, pC]
   have hHeld := hHeld (by kernel_rfl)
   refine pu 4 ?_
   refine pu 5 ?_
   refine pu 6 ?_
   refine on 8 rfl fun K hK => ?_
   obtain ⟨⟨z0, z1, z2⟩, f0, f1, f2⟩ := H25.out.blk mm0
   go_simp
   have H26 := Lib.hid (H25.out.set HB24.out.1 HB24.out.2 (.int .i64 65536) (.int .i64 1) (.slice B 65536 c))
   have HM26 := Lib.hid (cells_set HM25.out HGM.out (.int .i64 65536) (.int .i64 1) (.slice B 65536 c))
   clear z0 z1 z2 f0 f1 f2
   generalize ((w25.setCell ⟨g24, 0, none⟩ (.int .i64 65536)).setCell ⟨g24, 1, none⟩ (.int .i64 1)).setCell ⟨g24, 2, none⟩ (.slice B 65536 c) = w26 at *
   try dsimp only
   refine hK.out _ _ (fun _ => H26.out.cells mm2) fun hHeld => ?_
   clear hK K
   try simp only [pU, pU0, pA, pB, pC]
   have hHeld := hHeld (by kernel_rfl)
   refine pu 9 ?_
   refine wpAnyG_done (by kernel_rfl) ?_ _
   refine NoPanic.normal ?_
   go_wp2_with fail
   go_meet
   exact ⟨g24, B, c, l, rfl, rfl, HLL.out.1, HLL.out.2, H26.out, HM26.out⟩
 case rest =>
 obtain ⟨g, B, c, l, rfl, rfl, hl1, hl2, h, hm⟩ := hcut
 have HL := Lib.hid (And.intro hl1 hl2)
 have H30 := Lib.hid h
 have HM30 := Lib.hid hm
 clear hl1 hl2 h hm H5 HM5
 go_upto_region 6 with fail
 go_cut [9] (fun s9 wx => ∃ z, s9 = .int .i64 50 ∧ MS w (some q) (⟨B, l, c⟩ :: [⟨some ⟨gd, 0, none⟩, [7], 1⟩]) ((z, #[.int .i64 0, .int .i64 0, .slice none 0 0]) :: ((g, #[.int .i64 65536, .int .i64 1, .slice B 65536 c]) :: [(g5, #[.int .i64 0, .int .i64 0, .slice none 0 0]), (ga, #[.int .i64 1, .int .i64 1, .slice (some ⟨gd, 0, none⟩) 1 1])])) wx)
 case first =>
  have HD := Lib.hid (show MS w (some q) (⟨B, l, c⟩ :: [⟨some ⟨gd, 0, none⟩, [7], 1⟩]) ((g, #[.int .i64 65536, .int .i64 1, .slice B 65536 c]) :: [(g5, #[.int .i64 0, .int .i64 0, .slice none 0 0]), (ga, #[.int .i64 1, .int .i64 1, .slice (some ⟨gd, 0, none⟩) 1 1])]) wc.drew from H30.out.keep (nextN (Mem.start wc) 1))
  have HMD := Lib.hid (show Cells wc.drew wc.drew.heap.size (some ⟨gm, 0, none⟩) ks5 from cells_keep HM30.out (nextN (Mem.start wc) 1))
  refine wp_region_noPanic ?_
  refine wp_heldG (fun _ => True) [] (by kernel_rfl) ?hs0 ?rg0
  case hs0 => trivial
  case rg0 =>
  intro hHeld
  generalize wc.drew = wd at *
  refine pu 2 ?_
  refine pu 3 ?_
  refine tw 0 8 rfl rfl (fun K hK => ?_) fun K hK => ?_
  ·skip
   obtain ⟨w41, hr, hnw, hb⟩ := run_bytes5 wd 257 (by decide)
   have hr : (Instr.makeSlice 22 (.int .i64 257) (.int .i64 257)).run Try.prog wd = .ok (.slice (some ⟨wd.heap.size, 0, none⟩) 257 257) w41 := hr
   go_simp
   have H41 := Lib.hid (HD.out.keep hb)
   have HM41 := Lib.hid (cells_keep HMD.out hb)
   obtain ⟨gs, hgs⟩ : ∃ x, wd.heap.size = x := ⟨_, rfl⟩
   rw [hgs]
   clear hr hnw hb hgs
   try dsimp only
   refine hK.out _ _ (fun _ => trivial) fun hHeld => ?_
   clear hK K
   try simp only [pU, pU0, pA, pB, pC]
   have hHeld := hHeld (by kernel_rfl)
   refine pu 1 ?_
   refine tw 4 8 rfl rfl (fun K hK => ?_) fun K hK => ?_
   ·skip
    go_simp
    refine (pick_full w41 1 257 (some ⟨gs, 0, none⟩) 257 257 (some ⟨gm, 1, none⟩) 65536 65536 (by decide) (by decide) (by decide) 65280 (by decide) (by decide)).mono ?_
    rintro e w42 ⟨rfl, hb⟩
    have H42 := Lib.hid (H41.out.keep hb)
    have HM42 := Lib.hid (cells_keep HM41.out hb)
    clear hb
    try dsimp only
    refine hK.out _ _ (fun _ => trivial) fun hHeld => ?_
    clear hK K
    try simp only [pU, pU0, pA, pB, pC]
    have hHeld := hHeld (by kernel_rfl)
    refine pu 5 ?_
    refine pu 6 ?_
    refine pu 7 ?_
    refine on 8 rfl fun K hK => ?_
    refine step_new (P := Try.prog) _ ⟨rfl, rfl, rfl⟩ newMx ?_
    have H43 := Lib.hid (H42.out.put #[.int .i64 0, .int .i64 0, .slice none 0 0])
    have HB43 := Lib.hid (And.intro H42.out.below.size H42.out.far)
    have HM43 := Lib.hid (cells_keep HM42.out (nextA (Mem.start _) (.cells #[.int .i64 0, .int .i64 0, .slice none 0 0] 27)))
    obtain ⟨g43, hg43⟩ : ∃ x, w42.heap.size = x := ⟨_, rfl⟩
    rw [hg43] at H43 HB43 ⊢
    have HGM := Lib.hid (show gm < g43 from (by rw [← hg43]; exact cells_lt HM42.out ks5_pos))
    clear hg43
    generalize w42.alloc (.cells #[.int .i64 0, .int .i64 0, .slice none 0 0] 27) = w43 at *
    try dsimp only
    refine hK.out _ _ (fun _ => trivial) fun hHeld => ?_
    clear hK K
    try simp only [pU, pU0, pA, pB, pC]
    have hHeld := hHeld (by kernel_rfl)
    refine on 9 rfl fun K hK => ?_
    obtain ⟨⟨z0, z1, z2⟩, f0, f1, f2⟩ := H43.out.blk mm0
    go_simp
    have H44 := Lib.hid (H43.out.set HB43.out.1 HB43.out.2 (.int .i64 0) (.int .i64 0) (.slice none 0 0))
    clear z0 z1 z2 f0 f1 f2
    generalize ((w43.setCell ⟨g43, 0, none⟩ (.int .i64 0)).setCell ⟨g43, 1, none⟩ (.int .i64 0)).setCell ⟨g43, 2, none⟩ (.slice none 0 0) = w44 at *
    try dsimp only
    refine hK.out _ _ (fun _ => trivial) fun hHeld => ?_
    clear hK K
    try simp only [pU, pU0, pA, pB, pC]
    have hHeld := hHeld (by kernel_rfl)
    refine pu 10 ?_
    refine wpAnyG_done (by kernel_rfl) ?_ _
    refine NoPanic.normal ?_
    go_wp2_with fail
    go_meet
    exact ⟨g43, rfl, H44.out⟩
   ·skip
    refine step_new (P := Try.prog) _ ⟨rfl, rfl, rfl⟩ newMx ?_
    have H45 := Lib.hid (H41.out.put #[.int .i64 0, .int .i64 0, .slice none 0 0])
    have HB45 := Lib.hid (And.intro H41.out.below.size H41.out.far)
    have HM45 := Lib.hid (cells_keep HM41.out (nextA (Mem.start _) (.cells #[.int .i64 0, .int .i64 0, .slice none 0 0] 27)))
    obtain ⟨g45, hg45⟩ : ∃ x, w41.heap.size = x := ⟨_, rfl⟩
    rw [hg45] at H45 HB45 ⊢
    have HGM := Lib.hid (show gm < g45 from (by rw [← hg45]; exact cells_lt HM41.out ks5_pos))
    clear hg45
    generalize w41.alloc (.cells #[.int .i64 0, .int .i64 0, .slice none 0 0] 27) = w45 at *
    try dsimp only
    refine hK.out _ _ (fun _ => trivial) fun hHeld => ?_
    clear hK K
    try simp only [pU, pU0, pA, pB, pC]
    have hHeld := hHeld (by kernel_rfl)
    refine on 4 rfl fun K hK => ?_
    go_simp
    refine (pick_full w45 1 257 (some ⟨gs, 0, none⟩) 257 257 (some ⟨gm, 1, none⟩) 65536 65536 (by decide) (by decide) (by decide) 65280 (by decide) (by decide)).mono ?_
    rintro e w46 ⟨rfl, hb⟩
    have H46 := Lib.hid (H45.out.keep hb)
    have HM46 := Lib.hid (cells_keep HM45.out hb)
    clear hb
    try dsimp only
    refine hK.out _ _ (fun _ => trivial) fun hHeld => ?_
    clear hK K
    try simp only [pU, pU0, pA, pB, pC]
    have hHeld := hHeld (by kernel_rfl)
    refine pu 5 ?_
    refine pu 6 ?_
    refine pu 7 ?_
    refine on 9 rfl fun K hK => ?_
    obtain ⟨⟨z0, z1, z2⟩, f0, f1, f2⟩ := H46.out.blk mm0
    go_simp
    have H47 := Lib.hid (H46.out.set HB45.out.1 HB45.out.2 (.int .i64 0) (.int .i64 0) (.slice none 0 0))
    clear z0 z1 z2 f0 f1 f2
    generalize ((w46.setCell ⟨g45, 0, none⟩ (.int .i64 0)).setCell ⟨g45, 1, none⟩ (.int .i64 0)).setCell ⟨g45, 2, none⟩ (.slice none 0 0) = w47 at *
    try dsimp only
    refine hK.out _ _ (fun _ => trivial) fun hHeld => ?_
    clear hK K
    try simp only [pU, pU0, pA, pB, pC]
    have hHeld := hHeld (by kernel_rfl)
    refine pu 10 ?_
    refine wpAnyG_done (by kernel_rfl) ?_ _
    refine NoPanic.normal ?_
    go_wp2_with fail
    go_meet
    exact ⟨g45, rfl, H47.out⟩
  ·skip
   refine step_new (P := Try.prog) _ ⟨rfl, rfl, rfl⟩ newMx ?_
   have H48 := Lib.hid (HD.out.put #[.int .i64 0, .int .i64 0, .slice none 0 0])
   have HB48 := Lib.hid (And.intro HD.out.below.size HD.out.far)
   have HM48 := Lib.hid (cells_keep HMD.out (nextA (Mem.start _) (.cells #[.int .i64 0, .int .i64 0, .slice none 0 0] 27)))
   obtain ⟨g48, hg48⟩ : ∃ x, wd.heap.size = x := ⟨_, rfl⟩
   rw [hg48] at H48 HB48 ⊢
   have HGM := Lib.hid (show gm < g48 from (by rw [← hg48]; exact cells_lt HMD.out ks5_pos))
   clear hg48
   generalize wd.alloc (.cells #[.int .i64 0, .int .i64 0, .slice none 0 0] 27) = w48 at *
   try dsimp only
   refine hK.out _ _ (fun _ => trivial) fun hHeld => ?_
   clear hK K
   try simp only [pU, pU0, pA, pB, pC]
   have hHeld := hHeld (by kernel_rfl)
   refine on 0 rfl fun K hK => ?_
   obtain ⟨w49, hr, hnw, hb⟩ := run_bytes5 w48 257 (by decide)
   have hr : (Instr.makeSlice 22 (.int .i64 257) (.int .i64 257)).run Try.prog w48 = .ok (.slice (some ⟨w48.heap.size, 0, none⟩) 257 257) w49 := hr
   go_simp
   have H49 := Lib.hid (H48.out.keep hb)
   have HM49 := Lib.hid (cells_keep HM48.out hb)
   obtain ⟨gs, hgs⟩ : ∃ x, w48.heap.size = x := ⟨_, rfl⟩
   rw [hgs]
   clear hr hnw hb hgs
   try dsimp only
   refine hK.out _ _ (fun _ => trivial) fun hHeld => ?_
   clear hK K
   try simp only [pU, pU0, pA, pB, pC]
   have hHeld := hHeld (by kernel_rfl)
   refine pu 1 ?_
   refine on 4 rfl fun K hK => ?_
   go_simp
   refine (pick_full w49 1 257 (some ⟨gs, 0, none⟩) 257 257 (some ⟨gm, 1, none⟩) 65536 65536 (by decide) (by decide) (by decide) 65280 (by decide) (by decide)).mono ?_
   rintro e w50 ⟨rfl, hb⟩
   have H50 := Lib.hid (H49.out.keep hb)
   have HM50 := Lib.hid (cells_keep HM49.out hb)
   clear hb
   try dsimp only
   refine hK.out _ _ (fun _ => trivial) fun hHeld => ?_
   clear hK K
   try simp only [pU, pU0, pA, pB, pC]
   have hHeld := hHeld (by kernel_rfl)
   refine pu 5 ?_
   refine pu 6 ?_
   refine pu 7 ?_
   refine on 9 rfl fun K hK => ?_
   obtain ⟨⟨z0, z1, z2⟩, f0, f1, f2⟩ := H50.out.blk mm0
   go_simp
   have H51 := Lib.hid (H50.out.set HB48.out.1 HB48.out.2 (.int .i64 0) (.int .i64 0) (.slice none 0 0))
   clear z0 z1 z2 f0 f1 f2
   generalize ((w50.setCell ⟨g48, 0, none⟩ (.int .i64 0)).setCell ⟨g48, 1, none⟩ (.int .i64 0)).setCell ⟨g48, 2, none⟩ (.slice none 0 0) = w51 at *
   try dsimp only
   refine hK.out _ _ (fun _ => trivial) fun hHeld => ?_
   clear hK K
   try simp only [pU, pU0, pA, pB, pC]
   have hHeld := hHeld (by kernel_rfl)
   refine pu 10 ?_
   refine wpAnyG_done (by kernel_rfl) ?_ _
   refine NoPanic.normal ?_
   go_wp2_with fail
   go_meet
   exact ⟨g48, rfl, H51.out⟩
 case rest =>
 obtain ⟨z, rfl, h⟩ := hcut
 obtain ⟨w60, hw60⟩ : ∃ x, wc = x := ⟨_, rfl⟩
 rw [hw60] at h ⊢
 have H60 := Lib.hid h
 clear h hw60 H30 HM30
 obtain ⟨w61, hr, hnw, hb⟩ := run_bytes5 w60 65537 (by decide)
 have hr : (Instr.makeSlice 22 (.int .i64 65537) (.int .i64 65537)).run Try.prog w60 = .ok (.slice (some ⟨w60.heap.size, 0, none⟩) 65537 65537) w61 := hr
 have H61 := Lib.hid ((H60.out.keep hb).new hnw H60.out.lt (Nat.le_refl _))
 go_wp2_with fail
 obtain ⟨g61, hg61⟩ : ∃ x, w60.heap.size = x := ⟨_, rfl⟩
 rw [hg61] at H61 ⊢
 clear hr hnw hb hg61 H60
 refine (pow_far2 w61 q (H61.out.fld q rfl).2 _ 65537 65537 (by decide)).mono ?_
 rintro e w62 ⟨B2, c2, rfl, hF, hf⟩
 have H62 := Lib.hid (H61.out.fr hF hf)
 clear hF hf H61
 have L1 := Lib.hid (H62.out.put #[.int .i64 0, .int .i64 1, .slice B2 0 c2])
 go_upto_region 8 with fail
 have H63 := L1
 clear L1 H62
 obtain ⟨g63, hg63⟩ : ∃ x, w62.heap.size = x := ⟨_, rfl⟩
 rw [hg63] at H63 ⊢
 clear hg63
 generalize w62.alloc (.cells #[.int .i64 0, .int .i64 1, .slice B2 0 c2] 27) = w63 at *
 obtain ⟨w64, hr, hnw, hb⟩ := run_bytes5 w63 257 (by decide)
 have hr : (Instr.makeSlice 22 (.int .i64 257) (.int .i64 257)).run Try.prog w63 = .ok (.slice (some ⟨w63.heap.size, 0, none⟩) 257 257) w64 := hr
 have H64 := Lib.hid ((H63.out.keep hb).new hnw H63.out.lt (Nat.le_refl _))
 go_wp2_with fail
 obtain ⟨g64, hg64⟩ : ∃ x, w63.heap.size = x := ⟨_, rfl⟩
 rw [hg64] at H64 ⊢
 clear hr hnw hb hg64 H63
 refine (pow_wide2 w64 q (H64.out.fld q rfl).2 _ (nz5 257) 257 257 (nz5_len _) 65536 (H64.out.in_ mm0) (by decide) (by decide) (by decide)).mono ?_
 rintro e w65 ⟨B3, c3, rfl, hF, hf⟩
 have H65 := Lib.hid (H64.out.fr hF hf)
 clear hF hf H64
 have L1 := Lib.hid (H65.out.put #[.int .i64 257, .int .i64 0, .slice B3 0 c3])
 go_upto_region 9 with fail
 have H66 := L1
 clear L1 H65
 obtain ⟨g66, hg66⟩ : ∃ x, w65.heap.size = x := ⟨_, rfl⟩
 rw [hg66] at H66 ⊢
 clear hg66
 generalize w65.alloc (.cells #[.int .i64 257, .int .i64 0, .slice B3 0 c3] 27) = w66 at *
 obtain ⟨a0, a1, a2⟩ := H66.out.cells mm0
 obtain ⟨b0, b1, b2⟩ := H66.out.cells mm1
 obtain ⟨d0, d1, d2⟩ := H66.out.cells mm3
 obtain ⟨bb, off, hB, _, hc7⟩ := (H66.out.row _ mm2).1.at_ (k := 65535) (by rw [HL.out.1]; decide)
 have hl7 := HL.out.2
 rw [List.getElem?_eq_getElem (by rw [HL.out.1]; decide)] at hl7
 injection hl7 with hl7
 dsimp only at hB hc7
 rw [hl7] at hc7
 rw [hB] at d2
 clear hl7
 go_wp2_with fail
 go_ret
 exact ⟨rfl, H66.out.below⟩
end Go.Proofs.Ythdapoipfnnaeaa.MxW
/- The document's Beside. -/
namespace Go.Proofs.Ythdapoipfnnaeaa.MxW
open Go.RowKit Go.Shelf Mem Gf FdW Mx Rng
open PlW (In)
set_option linter.unusedVariables false
set_option linter.unusedSectionVars false
attribute [local go_sem] Oper.semAt_some wide_fn

def besM (c : Nat) (a b : M) : M := fun i k => if k < c then a i k else b i (k - c)
theorem row_add (c d : Nat) (f : Nat → UInt8) : row (c + d) f = row c f ++ row d (fun k => f (c + k)) := by
 unfold row
 rw [List.range_add, List.map_append, List.map_map]; rfl
theorem bes_succ (j c d : Nat) (a b : M) : flat (j + 1) (c + d) (besM c a b) = flat j (c + d) (besM c a b) ++ row c (a j) ++ row d (b j) := by
 rw [flat_succ, row_add, ← List.append_assoc]
 congr 1
 ·congr 1
  exact row_congr fun k hk => by unfold besM; rw [if_pos hk]
 ·exact row_congr fun k _ => by unfold besM; rw [if_neg (by omega), Nat.add_sub_cancel_left]
set_option maxRecDepth 100000 in
set_option maxHeartbeats 40000000 in
theorem rbeside_any (w : World) (r c d : Nat) (A A' : Option Addr) (n cap n' cap' : Nat) (a b : M) (hd : r ≤ 100 ∧ c ≤ 100 ∧ d ≤ 100) (hcap : r * c ≤ cap ∧ r * d ≤ cap') (hA : Bytes w w.heap.size A (flat r c a)) (hB : Bytes w w.heap.size A' (flat r d b)) :
    Calls Try.prog 55 #[.agg #[.int .i64 (r : Int), .int .i64 (c : Int), .slice A n cap], .agg #[.int .i64 (r : Int), .int .i64 (d : Int), .slice A' n' cap']] w (NewM w r (c + d) (besM c a b)) := by
 obtain ⟨i0, hi0, hz0, hz1, hz2⟩ := info_parts u8info
 have HN := Lib.hid (And.intro hd.1 (And.intro hd.2.1 (And.intro hd.2.2 hcap)))
 have HA := Lib.hid hA
 have HB := Lib.hid hB
 obtain ⟨q, hq⟩ : ∃ q, c + d = q := ⟨_, rfl⟩
 have HQ := Lib.hid hq
 have hw0 : IntKind.i64.wrap ((c : Int) + (d : Int)) = (q : Int) := by rw [IntWalk.i64_in _ (by omega)]; omega
 clear hq
 have H0 := Lib.hid ((((BS.start w).put (mcells r c A n cap) 38 (by decide)).put (mcells r d A' n' cap') 38 (by decide)).put #[.int .i64 0, .int .i64 0, .slice none 0 0] 38 (by decide))
 clear hA hB hd hcap
 go_enter Try.func55, Try.ntmps55
 obtain ⟨⟨a0, a1, a2⟩, _⟩ := H0.out.cells mm2
 obtain ⟨⟨b0, b1, b2⟩, _⟩ := H0.out.cells mm1
 have H2 := Lib.hid (AS.start H0.out (r : Int) (q : Int))
 simp only [World.size_alloc] at b0 b1 b2 H2
 go_wp2_with fail
 clear a0 a1 a2 b0 b1 b2 hw0
 obtain ⟨w3, hw3⟩ : ∃ x : World, (((w.alloc (.cells #[.int .i64 (r : Int), .int .i64 (c : Int), .slice A n cap] 38)).alloc (.cells #[.int .i64 (r : Int), .int .i64 (d : Int), .slice A' n' cap'] 38)).alloc (.cells #[.int .i64 0, .int .i64 0, .slice none 0 0] 38)).alloc (.cells #[.int .i64 (r : Int), .int .i64 (q : Int), .slice none 0 0] 38) = x := ⟨_, rfl⟩
 have hw3' : (((w.alloc (.cells (mcells r c A n cap) 38)).alloc (.cells (mcells r d A' n' cap') 38)).alloc (.cells #[.int .i64 0, .int .i64 0, .slice none 0 0] 38)).alloc (.cells #[.int .i64 (r : Int), .int .i64 (q : Int), .slice none 0 0] 38) = w3 := hw3
 rw [hw3'] at H2
 rw [hw3]
 clear hw3 hw3' H0
 obtain ⟨ga, hga⟩ : ∃ x, w.heap.size = x := ⟨_, rfl⟩
 obtain ⟨gb, hgb⟩ : ∃ x, ga + 1 = x := ⟨_, rfl⟩
 obtain ⟨g0, hg0⟩ : ∃ x, gb + 1 = x := ⟨_, rfl⟩
 obtain ⟨gm, hgm⟩ : ∃ x, g0 + 1 = x := ⟨_, rfl⟩
 rw [hga, hgb, hg0, hgm] at H2 ⊢
 clear hgb hg0 hgm
 go_loopw [6] (fun i wr => ∃ (j : Nat) (A2 : Option Addr) (c2 : Nat), i = .int .i64 (j : Int) ∧ j ≤ r ∧ AS w [(g0, 38, #[.int .i64 0, .int .i64 0, .slice none 0 0]), (gb, 38, mcells r d A' n' cap'), (ga, 38, mcells r c A n cap)] gm (r : Int) (q : Int) A2 c2 (flat j (c + d) (besM c a b)) wr) (fun i _ => r - (intOf i).toNat)
 case atStart => exact ⟨0, none, 0, rfl, Nat.zero_le _, by rw [flat_nil]; exact H2.out⟩
 case round =>
  obtain ⟨j, A2, c2, rfl, hj, h⟩ := hrel
  have H4 := Lib.hid h
  clear h H2
  obtain ⟨w4, rfl⟩ : ∃ w4 : World, w4 = wr := ⟨_, rfl⟩
  obtain ⟨⟨a0, a1, a2⟩, _⟩ := H4.out.bs.cells mm2
  by_cases hjr : j < r
  ·have hj1 : (j : Int) < (r : Int) := by omega
   have hj0 : (0 : Int) ≤ (j : Int) := by omega
   have HJ := Lib.hid hjr
   have hwj : IntKind.i64.wrap ((j : Int) + 1) = ((j + 1 : Nat) : Int) := by have := HN.out.1; rw [IntWalk.i64_in _ (by omega)]; omega
   have hl1 := idx_le (c := c) hjr
   have hl2 := idx_le (c := d) hjr
   have hsz1 : r * c ≤ 100 * 100 := Nat.mul_le_mul HN.out.1 HN.out.2.1
   have hsz2 : r * d ≤ 100 * 100 := Nat.mul_le_mul HN.out.1 HN.out.2.2.1
   have hsz3 : j * (c + d) ≤ 100 * 200 := Nat.mul_le_mul (by have := HN.out.1; omega) (by have := HN.out; omega)
   obtain ⟨p, hp⟩ : ∃ p, j * c = p := ⟨_, rfl⟩
   obtain ⟨s, hs⟩ : ∃ s, p + c = s := ⟨_, rfl⟩
   obtain ⟨p2, hp2⟩ : ∃ p, j * d = p := ⟨_, rfl⟩
   obtain ⟨s2, hs2⟩ : ∃ s, p2 + d = s := ⟨_, rfl⟩
   have HP0 := Lib.hid hp
   have HP1 := Lib.hid hp2
   have hwa : IntKind.i64.wrap ((j : Int) * (c : Int)) = (p : Int) := by rw [show (j : Int) * (c : Int) = (p : Int) by rw [← hp]; simp, IntWalk.i64_in _ (by omega)]
   have hwb : IntKind.i64.wrap ((p : Int) + (c : Int)) = (s : Int) := by rw [IntWalk.i64_in _ (by omega)]; omega
   have hwc : IntKind.i64.wrap ((j : Int) * (d : Int)) = (p2 : Int) := by rw [show (j : Int) * (d : Int) = (p2 : Int) by rw [← hp2]; simp, IntWalk.i64_in _ (by omega)]
   have hwd : IntKind.i64.wrap ((p2 : Int) + (d : Int)) = (s2 : Int) := by rw [IntWalk.i64_in _ (by omega)]; omega
   rw [hp] at hl1
   rw [hp2] at hl2
   have hcut := fun W => cut_run W A n cap p s (by omega) (by have := HN.out.2.2.2.1; omega) c (cap - p) (by omega) rfl
   have hcut2 := fun W => cut_run W A' n' cap' p2 s2 (by omega) (by have := HN.out.2.2.2.2; omega) d (cap' - p2) (by omega) rfl
   obtain ⟨l0, hl0⟩ : ∃ l, (flat j (c + d) (besM c a b)).length = l := ⟨_, rfl⟩
   obtain ⟨l1, hll1⟩ : ∃ l, l0 + c = l := ⟨_, rfl⟩
   have HL0 := Lib.hid (show (flat j (c + d) (besM c a b)).length = l0 ∧ l0 ≤ 20000 from ⟨hl0, by rw [← hl0, flat_len]; omega⟩)
   have HL1 := Lib.hid (show (flat j (c + d) (besM c a b) ++ row c (a j)).length = l1 ∧ l1 ≤ 20100 ∧ l0 + c = l1 from ⟨by rw [List.length_append, row_len, HL0.out.1, hll1], by have := HL0.out.2; have := HN.out.2.1; omega, hll1⟩)
   have HL2 := Lib.hid (show (flat (j + 1) (c + d) (besM c a b)).length = l1 + d ∧ True from ⟨by rw [bes_succ, List.length_append, row_len, HL1.out.1], trivial⟩)
   clear hp hs hp2 hs2 hl1 hl2 hsz1 hsz2 hsz3 hl0 hll1
   go_wp2_with fail
   clear a0 a1 a2
   have HD0 := Lib.hid (show AS w [(g0, 38, #[.int .i64 0, .int .i64 0, .slice none 0 0]), (gb, 38, mcells r d A' n' cap'), (ga, 38, mcells r c A n cap)] gm (r : Int) (q : Int) A2 c2 (flat j (c + d) (besM c a b)) w4.drew from H4.out.keep (nextN (Mem.start w4) 1))
   refine wp_region_noPanic ?_
   refine wp_heldG (fun w' => w'.cell? ⟨gm, 2, none⟩ = some (.slice A2 l0 c2) ∧ (w'.cell? ⟨ga, 0, none⟩ = some (.int .i64 (r : Int)) ∧ w'.cell? ⟨ga, 1, none⟩ = some (.int .i64 (c : Int)) ∧ w'.cell? ⟨ga, 2, none⟩ = some (.slice A n cap))) [18] (by kernel_rfl) ?hs0 ?rg0
   case hs0 =>
    have k2 := HD0.out.cells.1.2.2
    rw [HL0.out.1] at k2
    exact ⟨k2, (HD0.out.bs.cells mm2).1⟩
   case rg0 =>
   intro hHeld
   refine pu 0 ?_
   refine tk 1 rfl (by intro w hSw; obtain ⟨k3, ⟨k0, k1, k2⟩⟩ := hSw; go_simp; try with_reducible rfl) ?_
   refine pu 2 ?_
   refine tk 3 rfl (by intro w hSw; obtain ⟨k3, ⟨k0, k1, k2⟩⟩ := hSw; go_simp; try with_reducible rfl) ?_
   refine pu 4 ?_
   refine pu 5 ?_
   refine tk 6 rfl (by intro w hSw; obtain ⟨k3, ⟨k0, k1, k2⟩⟩ := hSw; go_simp; try with_reducible rfl) ?_
   refine pu 7 ?_
   refine pu 8 ?_
   refine pu 9 ?_
   refine tk 10 rfl (by intro w hSw; obtain ⟨k3, ⟨k0, k1, k2⟩⟩ := hSw; go_simp; try with_reducible rfl) ?_
   refine pu 11 ?_
   refine pu 12 ?_
   refine tk 13 rfl (by intro w hSw; obtain ⟨k3, ⟨k0, k1, k2⟩⟩ := hSw; go_simp; try with_reducible rfl) ?_
   refine pu 14 ?_
   refine pu 15 ?_
   refine on 16 rfl fun K hK => ?_
   refine step_app _ rfl _ _ _ rfl w.heap.size 5 i0 _ 1 Try.underlying22 hi0 hz0 hz1 hz2 rfl A2 c2 l0 ((flat j (c + d) (besM c a b)).map u8v) rfl (by rw [List.length_map, HL0.out.1]) HD0.out.row w.heap.size (cutA A cap p) (cap - p) c ((row c (a j)).map u8v) rfl (by rw [List.length_map, row_len]) (by have h := cut_row (HA.out.below HD0.out.bs.below) HJ.out HN.out.2.2.2.1; rw [HP0.out] at h; exact h) u8v_one (by rw [List.length_map, List.length_map, HL0.out.1, row_len]; have := HL0.out.2; have := HN.out; simp [maxLen]; omega) (by rw [List.length_map, List.length_map, HL0.out.1, row_len]; have := HL0.out.2; have := HN.out; omega) HD0.out.bs.below.size (l0 + c) rfl ?_
   intro A4 c4 wx0 ho hb hg _
   have HX0 := Lib.hid (HD0.out.app (l' := flat j (c + d) (besM c a b) ++ row c (a j)) (by rw [List.map_append]; exact ho) hb hg)
   clear ho hb hg
   rw [HL0.out.1] at HX0
   try dsimp only
   refine hK.out _ _ (fun _ => ⟨HX0.out.cells.1, (HX0.out.bs.cells mm2).1⟩) fun hHeld => ?_
   clear hK K
   try simp only [pU, pU0, pA, pB, pC]
   have hHeld := hHeld (by kernel_rfl)
   refine pu 17 ?_
   refine on 18 rfl fun K hK => ?_
   obtain ⟨s3, s4⟩ := HX0.out.cells
   go_simp
   try dsimp only
   refine hK.out _ _ ?_ (fun hHeld => ?_)
   ·exact fun h => (st_no (by kernel_rfl) h).elim
   clear hK K
   try simp only [pU, pU0, pA, pB, pC]
   clear hHeld
   refine wpAnyG_done (by kernel_rfl) ?_ _
   refine NoPanic.normal ?_
   have h8 := HX0.out.set
   rw [HL1.out.1] at h8
   have H5 := Lib.hid h8
   clear h8 hHeld
   obtain ⟨w5, hw5⟩ : ∃ x : World, wx0.setCell ⟨gm, 2, none⟩ (.slice A4 l1 c4) = x := ⟨_, rfl⟩
   rw [hw5] at H5
   go_wp2_with fail
   rw [show (wx0.setCell ⟨gm, 2, none⟩ (.slice A4 (l0 + c) c4)) = w5 from by rw [HL1.out.2.2]; exact hw5]
   clear hw5
   have HD1 := Lib.hid (show AS w [(g0, 38, #[.int .i64 0, .int .i64 0, .slice none 0 0]), (gb, 38, mcells r d A' n' cap'), (ga, 38, mcells r c A n cap)] gm (r : Int) (q : Int) A4 c4 (flat j (c + d) (besM c a b) ++ row c (a j)) w5.drew from H5.out.keep (nextN (Mem.start w5) 1))
   refine wp_region_noPanic ?_
   refine wp_heldG (fun w' => w'.cell? ⟨gm, 2, none⟩ = some (.slice A4 l1 c4) ∧ (w'.cell? ⟨gb, 0, none⟩ = some (.int .i64 (r : Int)) ∧ w'.cell? ⟨gb, 1, none⟩ = some (.int .i64 (d : Int)) ∧ w'.cell? ⟨gb, 2, none⟩ = some (.slice A' n' cap'))) [18] (by kernel_rfl) ?hs0 ?rg0
   case hs0 =>
    have k2 := HD1.out.cells.1.2.2
    rw [HL1.out.1] at k2
    exact ⟨k2, (HD1.out.bs.cells mm1).1⟩
   case rg0 =>
   intro hHeld
   refine pu 0 ?_
   refine tk 1 rfl (by intro w hSw; obtain ⟨k3, ⟨k0, k1, k2⟩⟩ := hSw; go_simp; try with_reducible rfl) ?_
   refine pu 2 ?_
   refine tk 3 rfl (by intro w hSw; obtain ⟨k3, ⟨k0, k1, k2⟩⟩ := hSw; go_simp; try with_reducible rfl) ?_
   refine pu 4 ?_
   refine pu 5 ?_
   refine tk 6 rfl (by intro w hSw; obtain ⟨k3, ⟨k0, k1, k2⟩⟩ := hSw; go_simp; try with_reducible rfl) ?_
   refine pu 7 ?_
   refine pu 8 ?_
   refine pu 9 ?_
   refine tk 10 rfl (by intro w hSw; obtain ⟨k3, ⟨k0, k1, k2⟩⟩ := hSw; go_simp; try with_reducible rfl) ?_
   refine pu 11 ?_
   refine pu 12 ?_
   refine tk 13 rfl (by intro w hSw; obtain ⟨k3, ⟨k0, k1, k2⟩⟩ := hSw; go_simp; try with_reducible rfl) ?_
   refine pu 14 ?_
   refine pu 15 ?_
   refine on 16 rfl fun K hK => ?_
   refine step_app _ rfl _ _ _ rfl w.heap.size 5 i0 _ 1 Try.underlying22 hi0 hz0 hz1 hz2 rfl A4 c4 l1 ((flat j (c + d) (besM c a b) ++ row c (a j)).map u8v) rfl (by rw [List.length_map, HL1.out.1]) HD1.out.row w.heap.size (cutA A' cap' p2) (cap' - p2) d ((row d (b j)).map u8v) rfl (by rw [List.length_map, row_len]) (by have h := cut_row (HB.out.below HD1.out.bs.below) HJ.out HN.out.2.2.2.2; rw [HP1.out] at h; exact h) u8v_one (by rw [List.length_map, List.length_map, HL1.out.1, row_len]; have := HL1.out.2; have := HN.out; simp [maxLen]; omega) (by rw [List.length_map, List.length_map, HL1.out.1, row_len]; have := HL1.out.2; have := HN.out; omega) HD1.out.bs.below.size (l1 + d) rfl ?_
   intro A6 c6 wx1 ho hb hg _
   have HX1 := Lib.hid (HD1.out.app (l' := flat (j + 1) (c + d) (besM c a b)) (by rw [bes_succ, List.map_append]; exact ho) hb hg)
   clear ho hb hg
   rw [HL1.out.1] at HX1
   try dsimp only
   refine hK.out _ _ (fun _ => ⟨HX1.out.cells.1, (HX1.out.bs.cells mm1).1⟩) fun hHeld => ?_
   clear hK K
   try simp only [pU, pU0, pA, pB, pC]
   have hHeld := hHeld (by kernel_rfl)
   refine pu 17 ?_
   refine on 18 rfl fun K hK => ?_
   obtain ⟨s3, s4⟩ := HX1.out.cells
   go_simp
   try dsimp only
   refine hK.out _ _ ?_ (fun hHeld => ?_)
   ·exact fun h => (st_no (by kernel_rfl) h).elim
   clear hK K
   try simp only [pU, pU0, pA, pB, pC]
   clear hHeld
   refine wpAnyG_done (by kernel_rfl) ?_ _
   refine NoPanic.normal ?_
   have h8 := HX1.out.set
   rw [HL2.out.1] at h8
   have H6 := Lib.hid h8
   clear h8 hHeld
   go_wp2_with fail
   go_roundw
   case rel => exact ⟨j + 1, A6, c6, by simp, HJ.out, H6.out⟩
   case measure => simp [intOf]; omega
  ·obtain rfl : r = j := by omega
   obtain ⟨⟨c0, c1, c2'⟩, _⟩ := H4.out.cells
   obtain ⟨⟨d0, d1, d2⟩, f0, f1, f2⟩ := H4.out.bs.cells mm0
   obtain ⟨lq, hlq⟩ : ∃ lq, (flat r (c + d) (besM c a b)).length = lq := ⟨_, rfl⟩
   rw [hlq] at c2'
   have hfin := H4.out.end_ mm0 (.int .i64 (r : Int)) (.int .i64 (q : Int)) (.slice A2 lq c2)
   have HLQ := Lib.hid (hlq.symm.trans (flat_len _ _ _))
   have HL := Lib.hid (H4.out.row)
   go_wp2_with fail
   obtain ⟨h1, h2, e0, e1, e2⟩ := hfin
   refine bodyPost_ret (v := .agg #[.int .i64 (r : Int), .int .i64 (q : Int), .slice A2 lq c2]) (by simp [results, Try.results55, go_sem, e0, e1, e2]) rfl ?_
   have e9 := HLQ.out
   subst e9
   have e8 := HQ.out
   subst e8
   refine ⟨A2, c2, rfl, ?_, h2, h1⟩
   have h3 := HL.out.le
   rw [List.length_map, flat_len] at h3
   exact h3
end Go.Proofs.Ythdapoipfnnaeaa.MxW
/- Two matrices side by side are reduced as the first one is, the other one along. -/
namespace Go.Proofs.Ythdapoipfnnaeaa.MxW
open Go.RowKit Go.Shelf Mem Gf FdW Mx Rng
set_option linter.unusedVariables false
set_option linter.unusedSectionVars false

theorem findP_congr {A A' : M} {r k : Nat} (h : ∀ i, A i k = A' i k) : ∀ n i, findP A r k n i = findP A' r k n i
 | 0, _ => rfl
 | n + 1, i => by
  unfold findP
  rw [h i, findP_congr h n (i + 1)]
theorem bes_at {c : Nat} (A B : M) (i : Nat) {k : Nat} (hk : k < c) : besM c A B i k = A i k := by unfold besM; rw [if_pos hk]
theorem bes_piv {c n : Nat} (hn : n < c) (A B : M) (a f : Nat) : pivB (besM c A B) (besM c A B) a f n = besM c (pivB A A a f n) (pivB A B a f n) := by
 funext i k
 unfold pivB scaleM swapM
 rw [bes_at A B f hn]
 unfold besM
 by_cases hk : k < c
 ·simp only [if_pos hk]
 ·simp only [if_neg hk]
theorem bes_step {c n : Nat} (hn : n < c) (A B : M) (a f : Nat) : stepX (besM c A B) (besM c A B) a f n = besM c (stepX A A a f n) (stepX A B a f n) := by
 have hp : ∀ i, pivA (besM c A B) a f n i n = pivA A a f n i n := fun i => by
  show pivB (besM c A B) (besM c A B) a f n i n = pivB A A a f n i n
  rw [bes_piv hn, bes_at _ _ _ hn]
 funext i k
 unfold stepX elim
 rw [bes_piv hn]
 simp only [hp]
 unfold besM
 by_cases hk : k < c
 ·simp only [if_pos hk]
 ·simp only [if_neg hk]
theorem bes_red {c : Nat} (r : Nat) (a b : M) : ∀ n, n ≤ c → (redTo r (besM c a b) (besM c a b) n).at_ = (redTo r a b n).at_ ∧ (redTo r (besM c a b) (besM c a b) n).A = besM c (redTo r a b n).A (redTo r a b n).B
 | 0 => fun _ => ⟨rfl, rfl⟩
 | n + 1 => by
  intro hn
  obtain ⟨h1, h2⟩ := bes_red (c := c) r a b n (by omega)
  have hf : find (besM c (redTo r a b n).A (redTo r a b n).B) r n (redTo r a b n).at_ = find (redTo r a b n).A r n (redTo r a b n).at_ := findP_congr (fun i => bes_at _ _ i (show n < c by omega)) _ _
  unfold redTo redStep
  rw [h1, h2, hf]
  split
  ·exact ⟨rfl, bes_step (by omega) _ _ _ _⟩
  ·exact ⟨h1, h2⟩
end Go.Proofs.Ythdapoipfnnaeaa.MxW
