/- Polynomials: how long products are; quotients; roots; what goes through values. Plain facts, no program in sight. -/
import Derived.Test.YthdapoipfnnaeaaPl
namespace Go.Proofs.Ythdapoipfnnaeaa.Pl
open Gf

/-- How many coefficients are left. -/
def len (l : List UInt8) : Nat := (trim l).length
theorem len_le (l : List UInt8) : len l ≤ l.length := trim_len l
theorem cf_len {l : List UInt8} {i : Nat} (h : len l ≤ i) : cf l i = 0 := cf_trim_ge h
theorem len_congr {a b : List UInt8} (h : Eqv a b) : len a = len b := by rw [len, len, trim_congr h]
theorem len_nil : len [] = 0 := rfl
theorem len_zero {l : List UInt8} : len l = 0 ↔ ∀ i, cf l i = 0 := by rw [len, List.length_eq_zero_iff, trim_nil_iff]
theorem len_last {l : List UInt8} (h : len l ≠ 0) : cf l (len l - 1) ≠ 0 := trim_last l fun e => h (by rw [len, e]; rfl)
theorem len_of {l : List UInt8} {n : Nat} (h : ∀ i, n ≤ i → cf l i = 0) : len l ≤ n := by
  by_cases h0 : len l = 0
  · omega
  · have := len_last h0
    by_cases h1 : len l ≤ n
    · exact h1
    · exact absurd (h _ (by omega)) this
theorem len_eq {l : List UInt8} {n : Nat} (h : ∀ i, n + 1 ≤ i → cf l i = 0) (h1 : cf l n ≠ 0) : len l = n + 1 := by
  have h2 := len_of h
  by_cases h3 : len l ≤ n
  · exact absurd (cf_len h3) h1
  · omega
theorem len_add {a b : List UInt8} {n : Nat} (ha : len a ≤ n) (hb : len b ≤ n) : len (add a b) ≤ n :=
  len_of fun i hi => by rw [cf_add, cf_len (by omega), cf_len (by omega)]; rfl
theorem eqv_nil {l : List UInt8} (h : len l = 0) : Eqv l [] := fun i => (len_zero.1 h i)
theorem trim_of_len {l : List UInt8} (h : len l = 0) : trim l = [] := (trim_nil_iff l).2 (len_zero.1 h)

theorem mul_top (b : List UInt8) (lb : Nat) (hb : ∀ i, lb + 1 ≤ i → cf b i = 0) : ∀ (a : List UInt8) (la : Nat), (∀ i, la + 1 ≤ i → cf a i = 0) →
    (∀ k, la + lb + 1 ≤ k → cf (mulP a b) k = 0) ∧ cf (mulP a b) (la + lb) = mul (cf a la) (cf b lb)
  | [], la, _ => ⟨fun _ _ => rfl, by rw [cf_nil, zero_mul]; rfl⟩
  | x :: r, 0, ha => by
    have hr : Eqv (mulP r b) [] := mulP_zeros b fun i => ha (i + 1) (by omega)
    refine ⟨fun k hk => ?_, ?_⟩
    · rw [cf_mulP, hb k (by omega), mul_zero, if_neg (by omega), hr, cf_nil, xor_zero]
    · rw [cf_mulP, Nat.zero_add, cf_zero]
      by_cases h : lb = 0
      · rw [if_pos h, xor_zero]
      · rw [if_neg h, hr, cf_nil, xor_zero]
  | x :: r, la + 1, ha => by
    obtain ⟨h1, h2⟩ := mul_top b lb hb r la fun i hi => ha (i + 1) (by omega)
    refine ⟨fun k hk => ?_, ?_⟩
    · rw [cf_mulP, hb k (by omega), mul_zero, if_neg (by omega), h1 _ (by omega), xor_zero]
    · rw [cf_mulP, hb _ (by omega), mul_zero, if_neg (by omega), show la + 1 + lb - 1 = la + lb by omega, h2, cf_succ, UInt8.zero_xor]
theorem len_mul {a b : List UInt8} (ha : len a ≠ 0) (hb : len b ≠ 0) : len (mulP a b) = len a + len b - 1 := by
  have h := mul_top b (len b - 1) (fun i hi => cf_len (by omega)) a (len a - 1) (fun i hi => cf_len (by omega))
  have := len_eq (l := mulP a b) (n := len a - 1 + (len b - 1)) h.1 (by rw [h.2]; exact mul_ne (len_last ha) (len_last hb))
  omega
theorem len_mul_zero {a b : List UInt8} (h : len a = 0 ∨ len b = 0) : len (mulP a b) = 0 := by
  rcases h with h | h
  · exact len_zero.2 (mulP_zeros b (len_zero.1 h))
  · exact len_zero.2 fun i => by rw [mulP_right (eqv_nil h) a, mulP_nil a]; rfl
theorem len_mul_le (a b : List UInt8) : len (mulP a b) ≤ len a + len b - 1 := by
  by_cases ha : len a = 0
  · rw [len_mul_zero (.inl ha)]; omega
  · by_cases hb : len b = 0
    · rw [len_mul_zero (.inr hb)]; omega
    · rw [len_mul ha hb]; omega

/-- Quotient and rest. -/
def DivOk (a b q r : List UInt8) : Prop := Eqv a (add (mulP q b) r) ∧ len r < len b
theorem cancel {a b c d : List UInt8} (h : Eqv (add a b) (add c d)) : Eqv (add a c) (add b d) := fun i => by
  have := h i
  rw [cf_add, cf_add] at this ⊢
  have h2 : (cf a i ^^^ cf b i) ^^^ (cf c i ^^^ cf d i) = 0 := by rw [this, UInt8.xor_self]
  rw [xor4] at h2
  exact UInt8.xor_eq_zero_iff.1 h2
theorem eqv_of_add {a b : List UInt8} (h : len (add a b) = 0) : Eqv a b := fun i => by
  have := len_zero.1 h i
  rw [cf_add] at this
  exact UInt8.xor_eq_zero_iff.1 this
theorem div_only {a b q r q' r' : List UInt8} (h : DivOk a b q r) (k : DivOk a b q' r') : Eqv q q' ∧ Eqv r r' := by
  have h1 : Eqv (mulP (add q q') b) (add r r') := (add_mulP q q' b).trans (cancel (h.1.symm.trans k.1))
  have hb : len b ≠ 0 := by have := h.2; omega
  have hr : len (add r r') < len b := by
    have := len_add (a := r) (b := r') (n := len b - 1) (by have := h.2; omega) (by have := k.2; omega)
    omega
  have hq : len (add q q') = 0 := by
    by_cases e : len (add q q') = 0
    · exact e
    · have h2 := len_mul e hb
      rw [len_congr h1] at h2
      omega
  refine ⟨eqv_of_add hq, eqv_of_add ?_⟩
  rw [← len_congr h1, len_mul_zero (.inl hq)]
theorem DivOk.congr {a a' b b' q q' r r' : List UInt8} (h : DivOk a b q r) (ha : Eqv a a') (hb : Eqv b b') (hq : Eqv q q') (hr : Eqv r r') : DivOk a' b' q' r' :=
  ⟨ha.symm.trans (h.1.trans (add_congr (mulP_congr hq hb) hr)), by rw [← len_congr hb, ← len_congr hr]; exact h.2⟩

/-- What is left by x + a place: the value there; and the quotient. -/
def hq (x : UInt8) : List UInt8 → List UInt8
  | [] => []
  | _ :: r => ev r x :: hq x r
theorem lin_cf (x : UInt8) (q : List UInt8) (i : Nat) : cf (mulP q [x, 1]) i = mul x (cf q i) ^^^ (if i = 0 then 0 else cf q (i - 1)) := by
  rw [mulP_cons_right x [1] q, cf_add, cf_sc, cf_shift]
  congr 1
  by_cases h : i = 0
  · rw [if_pos h, if_pos h]
  · rw [if_neg h, if_neg h, mulP_cons_right 1 [] q, cf_add, cf_sc, cf_shift, one_mul]
    by_cases h2 : i - 1 = 0
    · rw [if_pos h2, xor_zero]
    · rw [if_neg h2, mulP_nil q, cf_nil, xor_zero]
theorem horner (x : UInt8) : ∀ a, Eqv a (add (mulP (hq x a) [x, 1]) [ev a x])
  | [] => fun i => by
    rw [cf_add, hq, mulP, ev_nil]
    cases i with
    | zero => rw [cf_nil, cf_zero]; decide
    | succ i => rw [cf_nil, cf_succ, cf_nil]; decide
  | c :: r => fun i => by
    have ih := horner x r
    rw [cf_add, lin_cf]
    cases i with
    | zero =>
      rw [if_pos rfl, xor_zero, cf_zero, cf_zero, ev_cons, hq, cf_zero, mul_comm x, ← UInt8.xor_assoc, UInt8.xor_self, UInt8.zero_xor]
    | succ i =>
      rw [if_neg (by omega), Nat.add_sub_cancel, cf_succ, cf_succ, cf_nil, xor_zero, ih i, cf_add, lin_cf, hq, cf_succ]
      cases i with
      | zero => rw [if_pos rfl, xor_zero, cf_zero, cf_zero]
      | succ i => rw [if_neg (by omega), Nat.add_sub_cancel, cf_succ, cf_succ, cf_nil, xor_zero]
theorem ev_lin (x y : UInt8) : ev [x, 1] y = y ^^^ x := by
  rw [ev_cons, ev_cons, ev_nil, zero_mul, UInt8.zero_xor, one_mul]
theorem root_factor {a : List UInt8} {x : UInt8} (h : ev a x = 0) : Eqv a (mulP (hq x a) [x, 1]) := (horner x a).trans fun i => by
  rw [cf_add, h]
  cases i with
  | zero => rw [cf_zero, xor_zero]
  | succ i => rw [cf_succ, cf_nil, xor_zero]
theorem len_lin (x : UInt8) : len [x, 1] = 2 := len_eq (n := 1) (fun i hi => cf_ge (by simpa using hi)) (by show (1 : UInt8) ≠ 0; decide)
/-- No more roots than the degree. -/
theorem roots_le : ∀ (xs : List UInt8) (a : List UInt8), xs.Nodup → len a ≠ 0 → (∀ x ∈ xs, ev a x = 0) → xs.length + 1 ≤ len a
  | [], a, _, h, _ => by simp; omega
  | x :: r, a, hn, h, hr => by
    have hf := root_factor (hr x (List.mem_cons_self))
    have hq0 : len (hq x a) ≠ 0 := fun e => h (by rw [len_congr hf, len_mul_zero (.inl e)])
    have hl : len a = len (hq x a) + 1 := by rw [len_congr hf, len_mul hq0 (by rw [len_lin]; decide), len_lin]; omega
    have ih := roots_le r (hq x a) (List.nodup_cons.1 hn).2 hq0 fun y hy => by
      have h1 := hr y (List.mem_cons_of_mem _ hy)
      rw [ev_congr hf, ev_mulP, ev_lin] at h1
      rcases mul_eq_zero h1 with h2 | h2
      · exact h2
      · have h3 : y = x := UInt8.xor_eq_zero_iff.1 h2
        exact absurd (h3 ▸ hy) (List.nodup_cons.1 hn).1
    simp only [List.length_cons]
    omega
/-- Two that have the same values at as many unlike places as they may have coefficients are the same. -/
theorem through_only {xs a b : List UInt8} (hn : xs.Nodup) (ha : len a ≤ xs.length) (hb : len b ≤ xs.length) (h : ∀ x ∈ xs, ev a x = ev b x) : Eqv a b := by
  refine eqv_of_add ?_
  by_cases e : len (add a b) = 0
  · exact e
  · have h1 := roots_le xs (add a b) hn e fun x hx => by rw [ev_add, h x hx, UInt8.xor_self]
    have h2 := len_add ha hb
    omega
/-- The polynomial of some roots. -/
def rootsP (xs : List UInt8) : List UInt8 := xs.foldl (fun o x => mulP o [x, 1]) [1]
theorem rootsP_snoc (xs : List UInt8) (x : UInt8) : rootsP (xs ++ [x]) = mulP (rootsP xs) [x, 1] := by simp [rootsP]
theorem ev_one (y : UInt8) : ev [1] y = 1 := by rw [ev_cons, ev_nil, zero_mul, UInt8.zero_xor]
theorem len_one : len [1] = 1 := by decide
theorem rootsP_facts (l : List UInt8) : len (rootsP l) = l.length + 1 ∧ ∀ y, ev (rootsP l) y = 0 ↔ y ∈ l := by
  have key : ∀ n (l : List UInt8), l.length = n → len (rootsP l) = l.length + 1 ∧ ∀ y, ev (rootsP l) y = 0 ↔ y ∈ l := by
    intro n
    induction n with
    | zero =>
      intro l hl
      rw [List.length_eq_zero_iff.1 hl]
      exact ⟨len_one, fun y => by
        show ev [1] y = 0 ↔ _
        rw [ev_one]; simp⟩
    | succ n ih =>
      intro l hl
      obtain ⟨r, x, rfl⟩ : ∃ r x, l = r ++ [x] := ⟨l.dropLast, l.getLast (by intro e; rw [e] at hl; simp at hl), (List.dropLast_concat_getLast _).symm⟩
      have h := ih r (by simp at hl; omega)
      rw [rootsP_snoc]
      refine ⟨by rw [len_mul (by omega) (by rw [len_lin]; decide), len_lin, h.1]; simp, fun y => ?_⟩
      rw [ev_mulP, ev_lin, List.mem_append, List.mem_singleton, ← h.2 y]
      constructor
      · intro e
        rcases mul_eq_zero e with e | e
        · exact .inl e
        · exact .inr (UInt8.xor_eq_zero_iff.1 e)
      · rintro (e | e)
        · rw [e, zero_mul]
        · rw [e, UInt8.xor_self, mul_zero]
  exact key _ l rfl
/-- What goes through some values. -/
def ThrOk (xs ys p : List UInt8) : Prop := len p ≤ xs.length ∧ ∀ i (h : i < xs.length) (k : i < ys.length), ev p xs[i] = ys[i]
theorem thr_only {xs ys p p' : List UInt8} (hn : xs.Nodup) (hl : xs.length = ys.length) (h : ThrOk xs ys p) (k : ThrOk xs ys p') : Eqv p p' :=
  through_only hn h.1 k.1 fun x hx => by
    obtain ⟨i, hi, rfl⟩ := List.getElem_of_mem hx
    rw [h.2 i hi (by omega), k.2 i hi (by omega)]
end Go.Proofs.Ythdapoipfnnaeaa.Pl
