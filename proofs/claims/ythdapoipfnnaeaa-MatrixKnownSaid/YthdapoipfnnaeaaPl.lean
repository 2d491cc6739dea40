/- Polynomials over the numbers of one byte, as lists of their coefficients, the lowest first. Plain facts, no program in sight. -/
import Derived.Test.YthdapoipfnnaeaaGf
namespace Go.Proofs.Ythdapoipfnnaeaa.Pl
open Gf

/-- A coefficient; 0 behind the list. -/
def cf (l : List UInt8) (i : Nat) : UInt8 := l.getD i 0
theorem cf_nil (i : Nat) : cf [] i = 0 := rfl
theorem cf_zero (a : UInt8) (r : List UInt8) : cf (a :: r) 0 = a := rfl
theorem cf_succ (a : UInt8) (r : List UInt8) (i : Nat) : cf (a :: r) (i + 1) = cf r i := rfl
theorem cf_ge {l : List UInt8} {i : Nat} (h : l.length ≤ i) : cf l i = 0 := by simp [cf, List.getD, List.getElem?_eq_none h]
theorem cf_lt {l : List UInt8} {i : Nat} (h : i < l.length) : cf l i = l[i] := by simp [cf, List.getD, h]
/-- The same polynomial. -/
def Eqv (a b : List UInt8) : Prop := ∀ i, cf a i = cf b i
theorem Eqv.refl (a : List UInt8) : Eqv a a := fun _ => rfl
theorem Eqv.symm {a b : List UInt8} (h : Eqv a b) : Eqv b a := fun i => (h i).symm
theorem Eqv.trans {a b c : List UInt8} (h : Eqv a b) (k : Eqv b c) : Eqv a c := fun i => (h i).trans (k i)

/-- Without noughts behind. -/
def trim : List UInt8 → List UInt8
  | [] => []
  | a :: r => if a = 0 ∧ trim r = [] then [] else a :: trim r
theorem cf_trim : ∀ (l : List UInt8) (i : Nat), cf (trim l) i = cf l i
  | [], _ => rfl
  | a :: r, i => by
    unfold trim
    split
    · rename_i h
      have h2 := cf_trim r
      rw [h.2] at h2
      cases i with
      | zero => rw [cf_zero, h.1]; rfl
      | succ i => rw [cf_succ, ← h2 i]; rfl
    · cases i with
      | zero => rfl
      | succ i => rw [cf_succ, cf_succ]; exact cf_trim r i
theorem trim_eqv (l : List UInt8) : Eqv (trim l) l := cf_trim l
theorem trim_nil_iff (l : List UInt8) : trim l = [] ↔ ∀ i, cf l i = 0 := by
  induction l with
  | nil => simp [trim, cf_nil]
  | cons a r ih =>
    unfold trim
    by_cases h : a = 0 ∧ trim r = []
    · rw [if_pos h]
      refine ⟨fun _ i => ?_, fun _ => rfl⟩
      cases i with
      | zero => exact h.1
      | succ i => exact ih.1 h.2 i
    · rw [if_neg h]
      refine ⟨fun e => ?_, fun e => absurd ⟨e 0, ih.2 fun i => e (i + 1)⟩ h⟩
      cases e
theorem trim_congr {a b : List UInt8} (h : Eqv a b) : trim a = trim b := by
  induction a generalizing b with
  | nil => exact ((trim_nil_iff b).2 fun i => (h i).symm).symm
  | cons x r ih =>
    cases b with
    | nil => exact (trim_nil_iff _).2 h
    | cons y s =>
      have h0 : x = y := h 0
      have h1 : trim r = trim s := ih fun i => h (i + 1)
      unfold trim; rw [h0, h1]
theorem trim_trim (l : List UInt8) : trim (trim l) = trim l := trim_congr (trim_eqv l)
theorem eqv_of_trim {a b : List UInt8} (h : trim a = trim b) : Eqv a b := fun i => by rw [← cf_trim a, h, cf_trim]
theorem trim_len : ∀ (l : List UInt8), (trim l).length ≤ l.length
  | [] => Nat.le_refl _
  | a :: r => by
    unfold trim
    split
    · simp
    · have := trim_len r; simp; omega
/-- The last coefficient that is left is not 0. -/
theorem trim_last : ∀ (l : List UInt8), trim l ≠ [] → cf l ((trim l).length - 1) ≠ 0
  | [], h => absurd rfl h
  | a :: r, h => by
    unfold trim at h ⊢
    split at h
    · exact absurd rfl h
    · rename_i hn
      rw [if_neg hn]
      by_cases hr : trim r = []
      · rw [hr]
        simp only [List.length_singleton, Nat.sub_self, cf_zero]
        exact fun e => hn ⟨e, hr⟩
      · have := trim_last r hr
        have hl : 0 < (trim r).length := List.length_pos_iff.2 hr
        rw [List.length_cons, Nat.add_sub_cancel]
        obtain ⟨m, hm⟩ : ∃ m, (trim r).length = m + 1 := ⟨(trim r).length - 1, by omega⟩
        rw [hm] at this ⊢
        exact this
theorem cf_trim_ge {l : List UInt8} {i : Nat} (h : (trim l).length ≤ i) : cf l i = 0 := by rw [← cf_trim]; exact cf_ge h
/-- The first n are what is left, if behind them are noughts alone and the last one is not. -/
theorem trim_take {l : List UInt8} {n : Nat} (hn : n ≤ l.length) (h0 : ∀ i, n ≤ i → cf l i = 0) (h1 : n = 0 ∨ cf l (n - 1) ≠ 0) : trim l = l.take n := by
  have e : Eqv l (l.take n) := fun i => by
    by_cases hi : i < n
    · rw [cf_lt (by omega), cf_lt (by simp; omega)]; simp
    · rw [h0 i (by omega), cf_ge (by simp; omega)]
  rw [trim_congr e]
  have h2 : (l.take n).length = n := by simp; omega
  by_cases hz : n = 0
  · subst hz; rfl
  · have hl : cf (l.take n) (n - 1) ≠ 0 := by rw [← e]; exact h1.resolve_left hz
    have key : ∀ (m : List UInt8), m ≠ [] → cf m (m.length - 1) ≠ 0 → trim m = m := by
      intro m
      induction m with
      | nil => intro h; exact absurd rfl h
      | cons a r ih =>
        intro _ h
        unfold trim
        by_cases hr : r = []
        · subst hr
          rw [if_neg]; · rfl
          rintro ⟨h3, _⟩; exact h h3
        · have hlr : 0 < r.length := List.length_pos_iff.2 hr
          obtain ⟨k, hk⟩ : ∃ k, r.length = k + 1 := ⟨r.length - 1, by omega⟩
          have := ih hr (by rw [List.length_cons, hk] at h; rw [hk]; exact h)
          rw [this, if_neg (by rintro ⟨_, h3⟩; exact hr h3)]
    exact key _ (by intro e2; rw [e2] at h2; simp at h2; omega) (by rw [h2]; exact hl)

/-- Sums. -/
def add : List UInt8 → List UInt8 → List UInt8
  | [], b => b
  | a, [] => a
  | x :: r, y :: s => (x ^^^ y) :: add r s
theorem cf_add : ∀ (a b : List UInt8) (i : Nat), cf (add a b) i = cf a i ^^^ cf b i
  | [], b, i => by simp [add, cf_nil]
  | a :: r, [], i => by simp [add, cf_nil]
  | x :: r, y :: s, 0 => rfl
  | x :: r, y :: s, i + 1 => cf_add r s i
/-- Times a number. -/
def sc (c : UInt8) (l : List UInt8) : List UInt8 := l.map (mul c)
theorem cf_sc (c : UInt8) (l : List UInt8) (i : Nat) : cf (sc c l) i = mul c (cf l i) := by
  by_cases h : i < l.length
  · rw [cf_lt h, cf_lt (by simpa [sc] using h)]; simp [sc]
  · rw [cf_ge (l := l) (by omega), cf_ge (l := sc c l) (by rw [sc, List.length_map]; omega), mul_zero]
/-- Products. -/
def mulP : List UInt8 → List UInt8 → List UInt8
  | [], _ => []
  | x :: r, b => add (sc x b) (0 :: mulP r b)
theorem cf_shift (l : List UInt8) (i : Nat) : cf (0 :: l) i = if i = 0 then 0 else cf l (i - 1) := by
  cases i with
  | zero => rfl
  | succ i => rfl
theorem cf_mulP (x : UInt8) (r b : List UInt8) (i : Nat) : cf (mulP (x :: r) b) i = mul x (cf b i) ^^^ (if i = 0 then 0 else cf (mulP r b) (i - 1)) := by
  rw [mulP, cf_add, cf_sc, cf_shift]
theorem xor_zero (a : UInt8) : a ^^^ 0 = a := UInt8.xor_zero
theorem xor4 (a b c d : UInt8) : (a ^^^ b) ^^^ (c ^^^ d) = (a ^^^ c) ^^^ (b ^^^ d) := by
  rw [UInt8.xor_assoc, UInt8.xor_assoc, ← UInt8.xor_assoc b, ← UInt8.xor_assoc c, UInt8.xor_comm b c]
theorem add_congr {a a' b b' : List UInt8} (h : Eqv a a') (k : Eqv b b') : Eqv (add a b) (add a' b') := fun i => by rw [cf_add, cf_add, h, k]
theorem add_comm (a b : List UInt8) : Eqv (add a b) (add b a) := fun i => by rw [cf_add, cf_add, UInt8.xor_comm]
theorem add_assoc (a b c : List UInt8) : Eqv (add (add a b) c) (add a (add b c)) := fun i => by simp only [cf_add, UInt8.xor_assoc]
theorem add_self (a : List UInt8) : Eqv (add a a) [] := fun i => by rw [cf_add, UInt8.xor_self]; rfl
theorem mulP_right {b b' : List UInt8} (h : Eqv b b') : ∀ a, Eqv (mulP a b) (mulP a b')
  | [] => Eqv.refl _
  | x :: r => fun i => by rw [cf_mulP, cf_mulP, h i, mulP_right h r]
theorem mulP_nil : ∀ a, Eqv (mulP a []) []
  | [] => Eqv.refl _
  | x :: r => fun i => by
    rw [cf_mulP, cf_nil, mul_zero]
    split
    · rfl
    · rw [mulP_nil r, cf_nil, xor_zero]
theorem mulP_zeros {a : List UInt8} (b : List UInt8) (h : ∀ i, cf a i = 0) : Eqv (mulP a b) [] := by
  induction a with
  | nil => exact Eqv.refl _
  | cons x r ih =>
    intro i
    have hx : x = 0 := h 0
    rw [cf_mulP, hx, zero_mul]
    split
    · rfl
    · rw [ih fun i => h (i + 1), cf_nil, cf_nil, xor_zero]
theorem mulP_left {a a' : List UInt8} (h : Eqv a a') (b : List UInt8) : Eqv (mulP a b) (mulP a' b) := by
  induction a generalizing a' with
  | nil => exact (mulP_zeros b fun i => (h i).symm).symm
  | cons x r ih =>
    cases a' with
    | nil => exact mulP_zeros b h
    | cons y s =>
      intro i
      have h0 : x = y := h 0
      rw [cf_mulP, cf_mulP, h0, ih (a' := s) fun i => h (i + 1)]
theorem mulP_congr {a a' b b' : List UInt8} (h : Eqv a a') (k : Eqv b b') : Eqv (mulP a b) (mulP a' b') := (mulP_left h b).trans (mulP_right k a')
theorem mulP_cons_right (y : UInt8) (s : List UInt8) : ∀ a, Eqv (mulP a (y :: s)) (add (sc y a) (0 :: mulP a s))
  | [] => fun i => by
    rw [cf_add, cf_sc, cf_shift]; simp [mulP, cf_nil, mul_zero]
  | x :: r => fun i => by
    rw [cf_mulP, cf_add, cf_sc, cf_shift]
    cases i with
    | zero => simp [cf_zero, mul_comm]
    | succ i =>
      simp only [Nat.add_one_ne_zero, if_false, Nat.add_sub_cancel, cf_succ]
      rw [mulP_cons_right y s r i, cf_add, cf_sc, cf_shift, cf_mulP, ← UInt8.xor_assoc, ← UInt8.xor_assoc, UInt8.xor_comm (mul x _)]
theorem mulP_comm : ∀ (a b : List UInt8), Eqv (mulP a b) (mulP b a)
  | [], b => (mulP_nil b).symm
  | x :: r, b => fun i => by
    rw [mulP_cons_right x r b, mulP, cf_add, cf_add, cf_shift, cf_shift]
    by_cases h : i = 0
    · rw [if_pos h, if_pos h]
    · rw [if_neg h, if_neg h, mulP_comm r b]
theorem mulP_add (b c : List UInt8) : ∀ a, Eqv (mulP a (add b c)) (add (mulP a b) (mulP a c))
  | [] => Eqv.refl _
  | x :: r => fun i => by
    rw [cf_add, cf_mulP, cf_mulP, cf_mulP, cf_add, mul_xor, xor4]
    congr 1
    by_cases h : i = 0
    · rw [if_pos h, if_pos h, if_pos h]; rfl
    · rw [if_neg h, if_neg h, if_neg h, mulP_add b c r, cf_add]
theorem add_mulP (a b c : List UInt8) : Eqv (mulP (add a b) c) (add (mulP a c) (mulP b c)) :=
  (mulP_comm _ _).trans ((mulP_add a b c).trans (add_congr (mulP_comm _ _) (mulP_comm _ _)))
theorem sc_mulP (y : UInt8) (c : List UInt8) : ∀ a, Eqv (mulP (sc y a) c) (sc y (mulP a c))
  | [] => Eqv.refl _
  | x :: r => fun i => by
    show cf (mulP (mul y x :: sc y r) c) i = _
    rw [cf_mulP, cf_sc, cf_mulP, mul_xor, mul_assoc]
    congr 1
    by_cases h : i = 0
    · rw [if_pos h, if_pos h, mul_zero]
    · rw [if_neg h, if_neg h, sc_mulP y c r, cf_sc]
theorem shift_mulP (a c : List UInt8) : Eqv (mulP (0 :: a) c) (0 :: mulP a c) := fun i => by
  rw [cf_mulP, zero_mul, cf_shift, UInt8.zero_xor]
theorem shift_congr {a b : List UInt8} (h : Eqv a b) : Eqv (0 :: a) (0 :: b) := fun i => by rw [cf_shift, cf_shift, h]
theorem mulP_assoc (b c : List UInt8) : ∀ a, Eqv (mulP (mulP a b) c) (mulP a (mulP b c))
  | [] => Eqv.refl _
  | x :: r => by
    show Eqv (mulP (add (sc x b) (0 :: mulP r b)) c) (add (sc x (mulP b c)) (0 :: mulP r (mulP b c)))
    exact (add_mulP _ _ c).trans (add_congr (sc_mulP x c b) ((shift_mulP _ c).trans (shift_congr (mulP_assoc b c r))))

/-- Values. -/
def ev (l : List UInt8) (x : UInt8) : UInt8 := l.foldr (fun c y => mul y x ^^^ c) 0
theorem ev_nil (x : UInt8) : ev [] x = 0 := rfl
theorem ev_cons (a : UInt8) (r : List UInt8) (x : UInt8) : ev (a :: r) x = mul (ev r x) x ^^^ a := rfl
theorem ev_zeros {l : List UInt8} (x : UInt8) (h : ∀ i, cf l i = 0) : ev l x = 0 := by
  induction l with
  | nil => rfl
  | cons a r ih => rw [ev_cons, ih fun i => h (i + 1), zero_mul, show a = 0 from h 0]; rfl
theorem ev_congr {a b : List UInt8} (h : Eqv a b) (x : UInt8) : ev a x = ev b x := by
  induction a generalizing b with
  | nil => exact (ev_zeros x fun i => (h i).symm).symm
  | cons c r ih =>
    cases b with
    | nil => exact ev_zeros x h
    | cons d s => rw [ev_cons, ev_cons, ih (b := s) fun i => h (i + 1), show c = d from h 0]
theorem ev_add : ∀ (a b : List UInt8) (x : UInt8), ev (add a b) x = ev a x ^^^ ev b x
  | [], b, x => by simp [add, ev_nil]
  | a :: r, [], x => by simp [add, ev_nil]
  | c :: r, d :: s, x => by
    rw [add, ev_cons, ev_cons, ev_cons, ev_add r s x, xor_mul, xor4]
theorem ev_sc (c : UInt8) (x : UInt8) : ∀ l, ev (sc c l) x = mul c (ev l x)
  | [] => (mul_zero c).symm
  | a :: r => by
    show ev (mul c a :: sc c r) x = _
    rw [ev_cons, ev_sc c x r, ev_cons, mul_xor, mul_assoc]
theorem ev_mulP (b : List UInt8) (x : UInt8) : ∀ a, ev (mulP a b) x = mul (ev a x) (ev b x)
  | [] => (zero_mul _).symm
  | c :: r => by
    rw [mulP, ev_add, ev_sc, ev_cons, ev_mulP b x r, ev_cons, xor_zero, xor_mul, UInt8.xor_comm, mul_assoc, mul_assoc, mul_comm (ev b x) x]
end Go.Proofs.Ythdapoipfnnaeaa.Pl
