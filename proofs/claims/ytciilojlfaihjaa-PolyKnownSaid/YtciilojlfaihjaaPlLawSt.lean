/- What the laws of chapter 04 use besides. -/
import Derived.Test.YtciilojlfaihjaaPlWorks
namespace Go.Proofs.Ytciilojlfaihjaa.PlW
open Go.RowKit Mem Gf FdW Pl Rng
set_option linter.unusedVariables false

theorem fmulR {w0 w : World} {p : Nat} {R : List Rw} (h : PS w0 p R w) (x y : Int) (a b : UInt8) (hx : x = (a.toNat : Int)) (hy : y = (b.toNat : Int)) :
    Calls Try.prog 31 #[fptr (some p), .int .u8 x, .int .u8 y] w (SayR w0 p R (.int .u8 ((mul a b).toNat : Int))) :=
  (mul_any w (some p) (FldR.some h.1.2.1) x y a b hx hy).mono fun e w' ⟨he, hF, hf⟩ => ⟨he, h.fr (hF p rfl) (hf.mono fun k _ hk => by injection hk with hk; exact hk.symm)⟩
theorem values_div {a b q r : List UInt8} (h : DivOk (trim (mulP a b)) b q r) (hb : len b ≠ 0) : trim q = trim a ∧ trim r = [] := by
  have := div_only h (q' := a) (r' := []) ⟨(trim_eqv _).trans (fun i => by rw [cf_add, cf_nil, Pl.xor_zero]), by rw [len_nil]; omega⟩
  exact ⟨trim_congr this.1, trim_congr this.2⟩
/-- The same, telling besides that nothing that was there has turned. -/
def NewB (w0 : World) (p : Nat) (R : List Rw) (w : World) (l : List UInt8) (n : Nat) (e : Ending) (w' : World) : Prop := ∃ A c, e = .returned (.slice A l.length c) ∧ PS w0 p (⟨A, l, c, n⟩ :: R) w' ∧ Mem.Own w' w.heap.size 5 A c (l.map u8v) ∧ Below w.heap.size w w'
section
variable {w0 w : World} {p : Nat} {R : List Rw} (h : PS w0 p R w) {A : Option Addr} {a : List UInt8} {ca na : Nat}
include h
theorem trimB (ha : ⟨A, a, ca, na⟩ ∈ R) (n : Nat) (hn : n = a.length) (hna : na ≤ 1000) : Calls Try.prog 16 #[.slice A n ca] w (NewB w0 p R w (trim a) na) :=
  (trim_any w A a n ca hn (by have := (h.2 _ ha).2.2; dsimp only at this; omega) (h.2 _ ha).2.1 (h.2 _ ha).1.1).mono fun e w' ⟨A', c, he, ho, hb⟩ => ⟨A', c, he, (h.keep hb).row na ho (Nat.le_trans (trim_len a) (h.2 _ ha).2.2), ho, hb⟩
theorem rtrimB (ha : ⟨A, a, ca, na⟩ ∈ R) (n : Nat) (hn : n = a.length) (hna : na ≤ 1000) : Calls Try.prog 18 #[.slice A n ca] w (NewB w0 p R w (trim a) na) :=
  (rpTrim_any w A a n ca hn (by have := (h.2 _ ha).2.2; dsimp only at this; omega) (h.2 _ ha).2.1 (h.2 _ ha).1.1).mono fun e w' ⟨A', c, he, ho, hb⟩ => ⟨A', c, he, (h.keep hb).row na ho (Nat.le_trans (trim_len a) (h.2 _ ha).2.2), ho, hb⟩
theorem degB (ha : ⟨A, a, ca, na⟩ ∈ R) (n : Nat) (hn : n = a.length) (hna : na ≤ 1000) : Calls Try.prog 19 #[.slice A n ca] w fun e w' => e = .returned (.int .i64 ((len a : Int) - 1)) ∧ PS w0 p R w' ∧ Below w.heap.size w w' := by
  subst hn
  exact (degree_any w A ca a (by have := (h.2 _ ha).2.2; dsimp only at this; omega) (h.2 _ ha).1.1).mono fun e w' ⟨he, hb⟩ => ⟨he, h.keep hb, hb⟩
end
/-- What is left by x + a place is the value there. -/
theorem rest_value {a q r : List UInt8} {x : UInt8} (h : DivOk a [x, 1] q r) : trim r = trim [ev a x] := by
  have := div_only h (q' := hq x a) (r' := [ev a x]) ⟨horner x a, by rw [len_lin]; have := len_le [ev a x]; simp at this; omega⟩
  exact trim_congr this.2
theorem roots_one (x : UInt8) : Eqv (rootsP [x]) [x, 1] := by
  show Eqv (mulP [1] [x, 1]) [x, 1]
  exact (mulP_one 1 [x, 1]).trans (fun k => by rw [cf_sc, one_mul])
theorem rest_roots {a q r : List UInt8} {x : UInt8} (h : DivOk a (trim (rootsP [x])) q r) : trim r = trim [ev a x] :=
  rest_value (h.congr (Eqv.refl _) ((trim_eqv _).trans (roots_one x)) (Eqv.refl _) (Eqv.refl _))
theorem trim_one {c : UInt8} (h : c ≠ 0) : trim [c] = [c] := by
  have := trim_take (l := [c]) (n := 1) (Nat.le_refl _) (fun i hi => cf_ge (by simpa using hi)) (.inr h)
  simpa using this
theorem trim_zero1 : trim [0] = [] := rfl
theorem mul_zero_iff {a b : UInt8} : mul a b = 0 ↔ a = 0 ∨ b = 0 := by
  constructor
  · intro h
    by_cases ha : a = 0
    · exact .inl ha
    · by_cases hb : b = 0
      · exact .inr hb
      · exact absurd h (mul_ne ha hb)
  · rintro (h | h)
    · rw [h, zero_mul]
    · rw [h, mul_zero]
theorem zero_yes {a : UInt8} (h : a = 0) : ((a.toNat : Int) == 0) = true := by rw [h]; rfl
/-- One root more, ahead. -/
theorem fold_roots (p : List UInt8) : ∀ (xs o : List UInt8), Eqv (xs.foldl (fun o x => mulP o [x, 1]) (mulP o p)) (mulP (xs.foldl (fun o x => mulP o [x, 1]) o) p)
  | [], o => Eqv.refl _
  | x :: xs, o => by
    have h1 : Eqv (mulP (mulP o p) [x, 1]) (mulP (mulP o [x, 1]) p) := ((mulP_assoc p [x, 1] o).trans (mulP_right (mulP_comm p [x, 1]) o)).trans (mulP_assoc [x, 1] p o).symm
    have h2 : ∀ (l : List UInt8) {u v : List UInt8}, Eqv u v → Eqv (l.foldl (fun o x => mulP o [x, 1]) u) (l.foldl (fun o x => mulP o [x, 1]) v) := by
      intro l
      induction l with
      | nil => exact fun h => h
      | cons y l ih => exact fun h => ih (mulP_left h _)
    exact (h2 xs h1).trans (fold_roots p xs (mulP o [x, 1]))
theorem roots_cons (x : UInt8) (xs : List UInt8) : Eqv (rootsP (x :: xs)) (mulP (rootsP xs) [x, 1]) := fold_roots [x, 1] xs [1]
end Go.Proofs.Ytciilojlfaihjaa.PlW
