/- Groups of points in plain Lean: their values, their powers; which are of one group. -/
import Derived.Test.YtaeoocpiggebmaaPtLawUnlike
import Derived.Test.YtaeoocpiggebmaaMk
namespace Go.Proofs.Ytaeoocpiggebmaa.PtW
open Go.RowKit Go.Shelf Mem Gf FdW Rng
set_option linter.unusedVariables false

/-- The i-th point of groups of R1. -/
def cv (s R1 i : Nat) : UInt8 := pw (i / R1 + s * (i % R1))
theorem cos_get {s R1 : Nat} : ∀ {G i : Nat}, i < R1 * G → (cosL s R1 G)[i]? = some (cv s R1 i)
  | 0, i, h => by omega
  | G + 1, i, h => by
    rw [cosL]
    by_cases h1 : i < R1 * G
    · rw [List.getElem?_append_left (by rw [cosL_len]; exact h1)]; exact cos_get h1
    · obtain ⟨e, rfl⟩ : ∃ e, i = R1 * G + e := ⟨i - R1 * G, by omega⟩
      have he : e < R1 := by rw [Nat.mul_succ] at h; omega
      rw [List.getElem?_append_right (by rw [cosL_len]; omega), cosL_len, Nat.add_sub_cancel_left, List.getElem?_map, List.getElem?_range he, Option.map_some]
      unfold cv pl
      rw [Nat.mul_add_div (by omega), Nat.mul_add_mod, Nat.mod_eq_of_lt he, Nat.div_eq_of_lt he, Nat.add_zero]
theorem cv_ne (s R1 i : Nat) : cv s R1 i ≠ 0 := pw_ne _
theorem cv_div {s R1 G i : Nat} (hs : s * R1 = 255) (hG : G ≤ s) (hi : i < R1 * G) : i / R1 < s ∧ i / R1 + s * (i % R1) < 255 ∧ 0 < R1 := by
  have hR : 0 < R1 := by
    rcases Nat.eq_zero_or_pos R1 with h | h
    · rw [h] at hs; omega
    · exact h
  have h1 : i / R1 < G := Nat.div_lt_of_lt_mul hi
  have h2 : i % R1 < R1 := Nat.mod_lt _ hR
  have h3 : s * (i % R1) + s ≤ s * R1 := by rw [← Nat.mul_succ]; exact Nat.mul_le_mul_left s h2
  omega
theorem cv_inj {s R1 G i k : Nat} (hs : s * R1 = 255) (hG : G ≤ s) (hi : i < R1 * G) (hk : k < R1 * G) (hne : i ≠ k) : cv s R1 i ≠ cv s R1 k := fun h => by
  obtain ⟨a1, a2, hR⟩ := cv_div hs hG hi
  obtain ⟨b1, b2, _⟩ := cv_div hs hG hk
  have := pw_inj h
  rw [Nat.mod_eq_of_lt a2, Nat.mod_eq_of_lt b2] at this
  have e1 : i / R1 = k / R1 := by
    have c1 : (i / R1 + s * (i % R1)) % s = i / R1 := by rw [Nat.add_mul_mod_self_left, Nat.mod_eq_of_lt a1]
    have c2 : (k / R1 + s * (k % R1)) % s = k / R1 := by rw [Nat.add_mul_mod_self_left, Nat.mod_eq_of_lt b1]
    rw [← c1, ← c2, this]
  have e2 : i % R1 = k % R1 := by
    rw [e1] at this
    exact Nat.eq_of_mul_eq_mul_left (Nat.lt_of_le_of_lt (Nat.zero_le _) b1) (Nat.add_left_cancel this)
  have := Nat.div_add_mod i R1
  rw [e1, e2, Nat.div_add_mod] at this
  exact hne this.symm
theorem cv_pow {s R1 G i k : Nat} (hs : s * R1 = 255) (hG : G ≤ s) (hi : i < R1 * G) (hk : k < R1 * G) : pow (cv s R1 i) (R1 : Int) = pow (cv s R1 k) (R1 : Int) ↔ i / R1 = k / R1 := by
  have key : ∀ j, pow (cv s R1 j) (R1 : Int) = pw (j / R1 * R1) := fun j => by
    unfold cv
    rw [pow_nat]
    refine pw_cong ?_
    rw [Nat.add_mul, Nat.mul_right_comm, hs, Nat.add_mul_mod_self_left]
  have hR := (cv_div hs hG hi).2.2
  have lt : ∀ j, j < R1 * G → j / R1 * R1 < 255 := fun j hj => by
    have := Nat.div_mul_le_self j R1
    have h2 := Nat.mul_le_mul_left R1 hG
    rw [Nat.mul_comm R1 s, hs] at h2
    omega
  rw [key, key]
  constructor
  · intro h
    have := pw_inj h
    rw [Nat.mod_eq_of_lt (lt i hi), Nat.mod_eq_of_lt (lt k hk)] at this
    exact Nat.eq_of_mul_eq_mul_right hR this
  · intro h; rw [h]
theorem gl_mem {b i : Nat} {x : Int} : ∀ {k : Nat}, x ∈ gl b i k ↔ ∃ j, j < k ∧ b + j ≠ i ∧ x = ((b + j : Nat) : Int)
  | 0 => ⟨(fun h => by cases h), (fun ⟨j, h, _⟩ => by omega)⟩
  | k + 1 => by
    by_cases e : b + k = i
    · rw [gl_yes e, gl_mem]
      constructor
      · rintro ⟨j, h1, h2, h3⟩; exact ⟨j, by omega, h2, h3⟩
      · rintro ⟨j, h1, h2, h3⟩
        exact ⟨j, by rcases (by omega : j < k ∨ j = k) with h | rfl; exact h; exact absurd e h2, h2, h3⟩
    · rw [gl_no e, List.mem_append, gl_mem, List.mem_singleton]
      constructor
      · rintro (⟨j, h1, h2, h3⟩ | h)
        · exact ⟨j, by omega, h2, h3⟩
        · exact ⟨k, by omega, e, h⟩
      · rintro ⟨j, h1, h2, h3⟩
        rcases (by omega : j < k ∨ j = k) with h | rfl
        · exact .inl ⟨j, h, h2, h3⟩
        · exact .inr h3
/-- Which places are of i's group. -/
theorem gl_group {R1 i k : Nat} (hR : 0 < R1) (hne : k ≠ i) : ((k : Int) ∈ gl (i / R1 * R1) i R1) ↔ i / R1 = k / R1 := by
  rw [gl_mem]
  constructor
  · rintro ⟨j, h1, h2, h3⟩
    have : k = R1 * (i / R1) + j := by rw [Nat.mul_comm]; omega
    rw [this, Nat.mul_add_div hR, Nat.div_eq_of_lt h1, Nat.add_zero]
  · intro h
    have := Nat.div_add_mod k R1
    refine ⟨k % R1, Nat.mod_lt _ hR, ?_, ?_⟩
    · rw [h, Nat.mul_comm, this]; exact hne
    · rw [h, Nat.mul_comm, this]
theorem gl_lt {R1 G i : Nat} (hR : 0 < R1) (hi : i < R1 * G) {x : Int} (h : x ∈ gl (i / R1 * R1) i R1) : ∃ v : Nat, x = (v : Int) ∧ v < R1 * G ∧ v ≠ i := by
  obtain ⟨j, h1, h2, h3⟩ := gl_mem.1 h
  refine ⟨_, h3, ?_, h2⟩
  have h4 : i / R1 < G := Nat.div_lt_of_lt_mul hi
  have h5 := Nat.mul_le_mul_left R1 (Nat.succ_le_of_lt h4)
  rw [Nat.mul_succ] at h5
  rw [Nat.mul_comm (i / R1)]
  omega
/-- The marks behind one more. -/
theorem bits_step {L v : Nat} {bits : List Bool} {gs : List Int} {m : Nat} (hb : bits.length = L) (hx : gs[m]? = some (v : Int)) (h : ∀ k, k < L → bits[k]? = some (decide ((k : Int) ∈ gs.take m))) :
    ∀ k, k < L → (bits.set v true)[k]? = some (decide ((k : Int) ∈ gs.take (m + 1))) := fun k hk => by
  have hm : m < gs.length := (List.getElem?_eq_some_iff.1 hx).1
  have e : gs.take (m + 1) = gs.take m ++ [(v : Int)] := by rw [List.take_succ_eq_append_getElem hm, (List.getElem?_eq_some_iff.1 hx).2]
  rw [e, List.getElem?_set]
  by_cases hv : v = k
  · subst hv
    rw [if_pos rfl, if_pos (by omega)]; simp
  · rw [if_neg hv, h k hk]
    congr 1
    rw [decide_eq_decide, List.mem_append, List.mem_singleton]
    exact ⟨.inl, fun h => h.elim id (fun h => absurd (by omega) hv)⟩
end Go.Proofs.Ytaeoocpiggebmaa.PtW
