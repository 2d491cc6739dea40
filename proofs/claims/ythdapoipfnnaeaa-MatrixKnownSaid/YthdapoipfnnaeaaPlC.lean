/- Polynomials: what a step of each loop leaves. Plain facts, no program in sight. -/
import Derived.Test.YthdapoipfnnaeaaPlB
namespace Go.Proofs.Ythdapoipfnnaeaa.Pl
open Gf

/-- Times a power of x. -/
def sh (n : Nat) (l : List UInt8) : List UInt8 := List.replicate n 0 ++ l
theorem cf_sh (n : Nat) (l : List UInt8) (k : Nat) : cf (sh n l) k = if n ≤ k then cf l (k - n) else 0 := by
  induction n generalizing k with
  | zero => simp [sh]
  | succ n ih =>
    have e : sh (n + 1) l = 0 :: sh n l := by simp [sh, List.replicate_succ]
    rw [e, cf_shift]
    cases k with
    | zero => simp
    | succ k => rw [if_neg (by omega), Nat.add_sub_cancel, ih]; simp
theorem sh_mulP (n : Nat) (l b : List UInt8) : Eqv (mulP (sh n l) b) (sh n (mulP l b)) := by
  induction n with
  | zero => exact Eqv.refl _
  | succ n ih =>
    have e : ∀ m : List UInt8, sh (n + 1) m = 0 :: sh n m := fun m => by simp [sh, List.replicate_succ]
    rw [e, e]
    exact (shift_mulP _ b).trans (shift_congr ih)
theorem sh_congr {n : Nat} {a b : List UInt8} (h : Eqv a b) : Eqv (sh n a) (sh n b) := fun k => by rw [cf_sh, cf_sh, h]
theorem sc_congr {c : UInt8} {a b : List UInt8} (h : Eqv a b) : Eqv (sc c a) (sc c b) := fun k => by rw [cf_sc, cf_sc, h]
theorem mulP_one (c : UInt8) (b : List UInt8) : Eqv (mulP [c] b) (sc c b) := fun k => by
  rw [cf_mulP, cf_sc]
  split
  · exact xor_zero _
  · show mul c (cf b k) ^^^ cf [] (k - 1) = _
    rw [cf_nil, xor_zero]
theorem mulP_const (b : List UInt8) (c : UInt8) : Eqv (mulP b [c]) (sc c b) := (mulP_comm _ _).trans (mulP_one c b)
theorem append_add (l : List UInt8) (c : UInt8) : Eqv (l ++ [c]) (add l (sh l.length [c])) := fun k => by
  rw [cf_add, cf_sh]
  by_cases h : k < l.length
  · rw [if_neg (by omega), xor_zero, cf_lt (by simp; omega), cf_lt h, List.getElem_append_left h]
  · rw [if_pos (by omega), cf_ge (l := l) (by omega), UInt8.zero_xor]
    by_cases h2 : k = l.length
    · subst h2; rw [Nat.sub_self, cf_lt (by simp), List.getElem_append_right (Nat.le_refl _)]; simp [cf_zero]
    · rw [cf_ge (by simp; omega), cf_ge (l := [c]) (by simp; omega)]
/-- One row more of a product. -/
theorem mulP_snoc (l : List UInt8) (c : UInt8) (b : List UInt8) : Eqv (mulP (l ++ [c]) b) (add (mulP l b) (sh l.length (sc c b))) :=
  (mulP_left (append_add l c) b).trans ((add_mulP _ _ b).trans (add_congr (Eqv.refl _) ((sh_mulP _ _ b).trans (sh_congr (mulP_one c b)))))
/-- One value set, where there was 0. -/
theorem set_add {l : List UInt8} {i : Nat} (hi : i < l.length) (h0 : cf l i = 0) (c : UInt8) : Eqv (l.set i c) (add l (sh i [c])) := fun k => by
  rw [cf_add, cf_sh]
  by_cases e : k = i
  · subst e
    rw [if_pos (Nat.le_refl _), Nat.sub_self, h0, UInt8.zero_xor, cf_lt (by simpa using hi)]; simp [cf_zero]
  · have h1 : cf (l.set i c) k = cf l k := by
      by_cases hk : k < l.length
      · rw [cf_lt (by simpa using hk), cf_lt hk, List.getElem_set_ne (fun e2 => e e2.symm)]
      · rw [cf_ge (by simpa using hk), cf_ge (by omega)]
    rw [h1]
    by_cases h2 : i ≤ k
    · rw [if_pos h2, cf_ge (l := [c]) (by simp; omega), xor_zero]
    · rw [if_neg h2, xor_zero]
theorem cf_set {l : List UInt8} {i : Nat} (hi : i < l.length) (c : UInt8) (k : Nat) : cf (l.set i c) k = if k = i then c else cf l k := by
  by_cases e : k = i
  · subst e; rw [if_pos rfl, cf_lt (by simpa using hi)]; simp
  · rw [if_neg e]
    by_cases hk : k < l.length
    · rw [cf_lt (by simpa using hk), cf_lt hk, List.getElem_set_ne (fun e2 => e e2.symm)]
    · rw [cf_ge (by simpa using hk), cf_ge (by omega)]
/-- A row added to another one, from a place on: what more's loop does. -/
theorem more_step {to t0 a : List UInt8} {c : UInt8} {n j : Nat} (hj : j < a.length) (hn : n + j < to.length)
    (h : ∀ k, cf to k = cf t0 k ^^^ (if n ≤ k ∧ k < n + j then mul (cf a (k - n)) c else 0)) :
    ∀ k, cf (to.set (n + j) (cf to (n + j) ^^^ mul (cf a j) c)) k = cf t0 k ^^^ (if n ≤ k ∧ k < n + (j + 1) then mul (cf a (k - n)) c else 0) := fun k => by
  rw [cf_set hn]
  by_cases e : k = n + j
  · subst e
    rw [if_pos rfl, h, if_neg (by omega), xor_zero, if_pos (by omega), Nat.add_sub_cancel_left]
  · rw [if_neg e, h]
    by_cases h2 : n ≤ k ∧ k < n + j
    · rw [if_pos h2, if_pos (by omega)]
    · rw [if_neg h2, if_neg (by omega)]
theorem more_end {to t0 a : List UInt8} {c : UInt8} {n : Nat} (h : ∀ k, cf to k = cf t0 k ^^^ (if n ≤ k ∧ k < n + a.length then mul (cf a (k - n)) c else 0)) : Eqv to (add t0 (sh n (sc c a))) := fun k => by
  rw [h, cf_add, cf_sh, cf_sc]
  congr 1
  by_cases h1 : n ≤ k
  · rw [if_pos h1]
    by_cases h2 : k < n + a.length
    · rw [if_pos ⟨h1, h2⟩, mul_comm]
    · rw [if_neg (by omega), cf_ge (l := a) (by omega), mul_zero]
  · rw [if_neg (by omega), if_neg h1]
/-- A step of a division. -/
theorem div_step {a b q r q' r' : List UInt8} {c : UInt8} {m : Nat} (h : Eqv a (add (mulP q b) r)) (hq : Eqv q' (add q (sh m [c]))) (hr : Eqv r' (add r (sh m (sc c b)))) : Eqv a (add (mulP q' b) r') := by
  have h1 : Eqv (mulP q' b) (add (mulP q b) (sh m (sc c b))) := (mulP_left hq b).trans ((add_mulP _ _ b).trans (add_congr (Eqv.refl _) ((sh_mulP m [c] b).trans (sh_congr (mulP_one c b)))))
  intro k
  rw [h k, cf_add, cf_add, h1 k, hr k, cf_add, cf_add, xor4, UInt8.xor_self, xor_zero]
theorem ev_snoc (x : UInt8) (c : UInt8) : ∀ l : List UInt8, ev (l ++ [c]) x = ev l x ^^^ mul c (rp x l.length)
  | [] => by rw [List.nil_append, ev_cons, ev_nil, zero_mul, List.length_nil, rp, mul_one]
  | a :: r => by
    rw [List.cons_append, ev_cons, ev_snoc x c r, ev_cons, xor_mul, List.length_cons, rp, mul_assoc, UInt8.xor_assoc, UInt8.xor_assoc, UInt8.xor_comm _ a]
/-- One value more by divided differences. -/
theorem newton {xs ys out basis : List UInt8} {i : Nat} (hi : i < xs.length) (hy : xs.length = ys.length) (hb : Eqv basis (rootsP (xs.take i)))
    (hl : len out ≤ i) (ho : ∀ j (h : j < i), ev out (xs[j]'(by omega)) = ys[j]'(by omega)) (hx : ev basis xs[i] ≠ 0) :
    let c := div ((ys[i]'(by omega)) ^^^ ev out xs[i]) (ev basis xs[i])
    len (add out (mulP basis [c])) ≤ i + 1 ∧ ∀ j (h : j < i + 1), ev (add out (mulP basis [c])) (xs[j]'(by omega)) = ys[j]'(by omega) := by
  intro c
  have hr := rootsP_facts (xs.take i)
  have hbl : len basis = i + 1 := by rw [len_congr hb, hr.1, List.length_take]; omega
  refine ⟨len_add (by omega) (Nat.le_trans (len_mul_le _ _) ?_), fun j hj => ?_⟩
  · have : len [c] ≤ 1 := len_le [c]
    omega
  · rw [ev_add, ev_mulP, show ev [c] _ = c from by rw [ev_cons, ev_nil, zero_mul, UInt8.zero_xor]]
    by_cases e : j = i
    · subst e
      rw [mul_comm, div_mul hx, UInt8.xor_comm, UInt8.xor_assoc, UInt8.xor_self, xor_zero]
    · have h0 : ev basis (xs[j]'(by omega)) = 0 := by
        rw [ev_congr hb, hr.2]
        have : (xs.take i)[j]'(by simp; omega) = xs[j]'(by omega) := List.getElem_take
        rw [← this]; exact List.getElem_mem _
      rw [h0, zero_mul, xor_zero, ho j (by omega)]
/-- The places but one. -/
def others (xs : List UInt8) (i : Nat) : List UInt8 := xs.take i ++ xs.drop (i + 1)
theorem others_len {xs : List UInt8} {i : Nat} (hi : i < xs.length) : (others xs i).length = xs.length - 1 := by simp [others]; omega
theorem mem_others {xs : List UInt8} {i j : Nat} (hj : j < xs.length) (h : j ≠ i) : xs[j] ∈ others xs i := by
  rw [others, List.mem_append]
  by_cases hlt : j < i
  · left
    have : (xs.take i)[j]'(by simp; omega) = xs[j] := List.getElem_take
    rw [← this]; exact List.getElem_mem _
  · right
    have : (xs.drop (i + 1))[j - (i + 1)]'(by simp; omega) = xs[j] := by rw [List.getElem_drop]; congr 1; omega
    rw [← this]; exact List.getElem_mem _
theorem nodup_others {xs : List UInt8} (h : xs.Nodup) {i : Nat} (hi : i < xs.length) : xs[i] ∉ others xs i := by
  intro hm
  rw [others, List.mem_append] at hm
  have hp := List.pairwise_iff_getElem.1 h
  rcases hm with hm | hm
  · obtain ⟨j, hj, e⟩ := List.getElem_of_mem hm
    have hj2 : j < i := by simp at hj; omega
    rw [List.getElem_take] at e
    exact hp j i (by omega) hi hj2 e
  · obtain ⟨j, hj, e⟩ := List.getElem_of_mem hm
    simp at hj
    rw [List.getElem_drop] at e
    exact hp i (i + 1 + j) hi (by omega) (by omega) e.symm
theorem nodup_of_take {xs : List UInt8} (h : ∀ i (hi : i < xs.length), xs[i] ∉ xs.take i) : xs.Nodup := by
  refine List.pairwise_iff_getElem.2 fun i j hi hj hij e => h j hj ?_
  have : (xs.take j)[i]'(by simp; omega) = xs[i] := List.getElem_take
  rw [← e, ← this]; exact List.getElem_mem _
theorem take_others {xs : List UInt8} {i : Nat} {x : UInt8} (h : x ∈ xs.take i) : x ∈ others xs i := List.mem_append.2 (.inl h)
/-- One value more by Lagrange's way. -/
theorem lagrange {xs ys out l : List UInt8} {i : Nat} (hi : i < xs.length) (hy : xs.length = ys.length) (hl : Eqv l (rootsP (others xs i)))
    (hn : len out ≤ xs.length) (ho : ∀ j (h : j < xs.length), ev out xs[j] = if j < i then ys[j]'(by omega) else 0) (hx : ev l xs[i] ≠ 0) :
    let c := div (ys[i]'(by omega)) (ev l xs[i])
    len (add out (mulP l [c])) ≤ xs.length ∧ ∀ j (h : j < xs.length), ev (add out (mulP l [c])) xs[j] = if j < i + 1 then ys[j]'(by omega) else 0 := by
  intro c
  have hr := rootsP_facts (others xs i)
  have hll : len l = xs.length := by rw [len_congr hl, hr.1, others_len hi]; omega
  refine ⟨len_add hn (Nat.le_trans (len_mul_le _ _) ?_), fun j hj => ?_⟩
  · have : len [c] ≤ 1 := len_le [c]
    omega
  · rw [ev_add, ev_mulP, show ev [c] _ = c from by rw [ev_cons, ev_nil, zero_mul, UInt8.zero_xor], ho j hj]
    by_cases e : j = i
    · subst e
      rw [if_neg (by omega), if_pos (by omega), UInt8.zero_xor, mul_comm, div_mul hx]
    · have h0 : ev l xs[j] = 0 := by rw [ev_congr hl, hr.2]; exact mem_others hj e
      rw [h0, zero_mul, xor_zero]
      by_cases h2 : j < i
      · rw [if_pos h2, if_pos (by omega)]
      · rw [if_neg h2, if_neg (by omega)]
end Go.Proofs.Ythdapoipfnnaeaa.Pl
