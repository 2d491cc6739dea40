/- The document's disk: Open, Read. -/
import Derived.Test.YtjpelifafmkdpaaDkRef
namespace Go.Proofs.Ytjpelifafmkdpaa.DkW
open Go.RowKit Go.Shelf Mem Rng
set_option linter.unusedVariables false

def sumLen (f : Nat → RB) : Nat → Nat
  | 0 => 0
  | i + 1 => sumLen f i + (f i).2.length
theorem sumLen_le {f : Nat → RB} {n : Nat} (h : ∀ i, i < n → (f i).2.length ≤ 256 ^ 3) : ∀ k, k ≤ n → sumLen f k ≤ k * 256 ^ 3
  | 0, _ => Nat.zero_le _
  | k + 1, hk => by
    have h1 := sumLen_le h k (by omega)
    have h2 := h k (by omega)
    show sumLen f k + (f k).2.length ≤ _
    rw [Nat.succ_mul]; omega
theorem sumLen_cons (S : Int → List UInt8) (g : Int → List (Nat × List UInt8)) (j : Int) (x : Nat × List UInt8) : ∀ n : Nat, sumLen (fun i => (S (i : Int), if j = (i : Int) then x :: g (i : Int) else g (i : Int))) n = sumLen (fun i => (S (i : Int), g (i : Int))) n + if 0 ≤ j ∧ j < (n : Int) then 1 else 0
  | 0 => by rw [if_neg (by omega)]; rfl
  | n + 1 => by
    show sumLen _ n + (if j = (n : Int) then x :: g (n : Int) else g (n : Int)).length = sumLen _ n + (g (n : Int)).length + _
    rw [sumLen_cons S g j x n]
    by_cases h : j = (n : Int)
    · rw [if_pos h, if_neg (by omega), if_pos (by omega), List.length_cons]; omega
    · rw [if_neg h]
      by_cases h2 : 0 ≤ j ∧ j < (n : Int)
      · rw [if_pos h2, if_pos (by omega)]; omega
      · rw [if_neg h2, if_neg (by omega)]; omega
theorem sumLen_nil (S : Int → List UInt8) : ∀ n : Nat, sumLen (fun i => (S (i : Int), ([] : List (Nat × List UInt8)))) n = 0
  | 0 => rfl
  | n + 1 => by show sumLen _ n + 0 = 0; rw [sumLen_nil S n]
theorem sumLen_lates (S : Int → List UInt8) (n : Nat) : ∀ (L : List (Int × List UInt8)) (k : Nat), (∀ x ∈ L, 0 ≤ x.1 ∧ x.1 < (n : Int)) → sumLen (fun i => (S (i : Int), latesAt k L (i : Int))) n = L.length
  | [], k, _ => sumLen_nil S n
  | (j, b) :: r, k, h => by
    have h1 := sumLen_cons S (latesAt (k + 1) r) j (k, b) n
    rw [if_pos (h (j, b) (List.mem_cons_self ..))] at h1
    rw [List.length_cons, ← sumLen_lates S n r (k + 1) (fun x hx => h x (List.mem_cons_of_mem _ hx))]
    exact h1
theorem Tidy.sum {s : DS} (h : Tidy s) : sumLen (fOf s) s.n = s.L.length := sumLen_lates s.S s.n s.L 0 fun x hx => ⟨(h.lates x hx).1, (h.lates x hx).2.1⟩
section
variable {G : Nat → Prop} {q : Nat} {s : DS} {w w' : World}
set_option maxHeartbeats 1000000 in
theorem ropenA {n done : Nat} {f : Nat → RB} {inn : Int} {gone : Bool} (h : RdA G q n f done inn gone w) : Calls Try.prog 29 #[.pointer (some ⟨q, 0, none⟩)] w fun e w' => e = .returned (.int .i64 (sumLen f n : Int)) ∧ w = w' := by
  obtain ⟨A, c, hd⟩ := h
  have c0 := hd.cells.1
  have HD := Lib.hid hd
  have hn4 : (n : Int) ≤ 4096 := by have := hd.bound.1; omega
  clear hd
  go_enter Try.func29, Try.ntmps29
  go_wp2_with fail
  go_loop [3, 4] (fun v i => ∃ k : Nat, i = .int .i64 (k : Int) ∧ v = .int .i64 (sumLen f k : Int) ∧ k ≤ n) (fun _ i => n - (intOf i).toNat)
  case atStart => exact ⟨0, rfl, rfl, Nat.zero_le _⟩
  case round =>
    obtain ⟨k, rfl, rfl, hk⟩ := hrel
    have hk0 : (0 : Int) ≤ (k : Int) := by omega
    by_cases hkn : k < n
    · have hk1 : (k : Int) < (n : Int) := by omega
      obtain ⟨g, B, d, rfl, _, hc, _⟩ := HD.out.at_ hkn
      have hb := sumLen_le (n := n) HD.out.bound.2.2.2.2 k (by omega)
      have hb2 := HD.out.bound.2.2.2.2 k hkn
      have HE := Lib.hid (show sumLen f (k + 1) = sumLen f k + (f k).2.length from rfl)
      obtain ⟨v, hv⟩ : ∃ v, sumLen f k = v := ⟨_, rfl⟩
      obtain ⟨m, hm⟩ : ∃ m, (f k).2.length = m := ⟨_, rfl⟩
      rw [hv] at hb HE ⊢
      rw [hm] at hb2 hc HE
      have hv1 : (v : Int) ≤ 256 ^ 5 := by
        have : k * 256 ^ 3 ≤ 4096 * 256 ^ 3 := Nat.mul_le_mul_right _ (by omega)
        omega
      have hv0 : (0 : Int) ≤ (v : Int) := by omega
      have hm1 : (m : Int) ≤ 256 ^ 3 := by omega
      have hm0 : (0 : Int) ≤ (m : Int) := by omega
      clear hb hb2 hv hm
      go_wp2_with fail
      go_round
      case rel => exact ⟨k + 1, rfl, by rw [HE.out]; simp, hkn⟩
      case measure => simp [intOf]; omega
    · obtain rfl : n = k := by omega
      go_wp2_with fail
      go_ret
      exact ⟨rfl, rfl⟩
theorem ropen_any (h : RdS G q s w) : Calls Try.prog 29 #[.pointer (some ⟨q, 0, none⟩)] w fun e w' => e = .returned (.int .i64 (s.L.length : Int)) ∧ w = w' := by
  have := ropenA h.1
  rw [h.2.sum] at this
  exact this
set_option maxHeartbeats 1000000 in
theorem rread_any (h : RdS G q s w) (i : Int) : Calls Try.prog 37 #[.pointer (some ⟨q, 0, none⟩), .int .i64 i] w fun e w' => e = .returned (.tuple #[.string (str (if s.may i 0 = 0 then s.N i else [])), .int .i64 (s.may i 0)]) ∧ w = w' := by
  have HM := Lib.hid (rmay_any h i)
  obtain ⟨⟨A, c, hd⟩, ht⟩ := h
  obtain ⟨x, hx⟩ : ∃ x, s.may i 0 = x := ⟨_, rfl⟩
  by_cases h0 : x = 0
  · subst h0
    have hi : ∃ k : Nat, i = (k : Int) ∧ k < s.n := by
      unfold DS.may at hx
      split at hx
      · cases hx
      · split at hx
        · cases hx
        · exact ⟨i.toNat, by omega, by omega⟩
    obtain ⟨k, rfl, hk⟩ := hi
    rw [hx] at HM ⊢
    rw [if_pos rfl]
    obtain ⟨g, B, d, rfl, hs, hc, hl, _⟩ := hd.at_ hk
    have c0 := hd.cells.1
    have hk0 : (0 : Int) ≤ (k : Int) := by omega
    have hk1 : (k : Int) < (s.n : Int) := by omega
    have hN := ht.now k
    unfold lastOf at hN
    have hm3 := hd.bound.2.2.2.2 k hk
    rw [show (fOf s k).2 = latesAt 0 s.L (k : Int) from rfl] at hc hl hm3
    rw [show (fOf s k).1 = s.S (k : Int) from rfl] at hs
    rcases hlast : (latesAt 0 s.L (k : Int)).getLast? with _ | ⟨no, b⟩
    · rw [hlast] at hN
      rw [List.getLast?_eq_none_iff.1 hlast, List.length_nil] at hc
      have HN := Lib.hid hN
      dsimp only at hN
      rw [hN]
      obtain ⟨v, hv⟩ : ∃ v, str (s.S (k : Int)) = v := ⟨_, rfl⟩
      rw [hv] at hs ⊢
      clear hlast hN hd ht hm3 hx hl hv
      go_enter Try.func37, Try.ntmps37
      go_wp2_with fail
      refine HM.out.mono ?_
      rintro e w' ⟨rfl, rfl⟩
      go_wp2_with fail
      go_ret2
      exact ⟨rfl, rfl⟩
    · rw [hlast] at hN
      dsimp only at hN
      rw [hN]
      rw [List.getLast?_eq_getElem?] at hlast
      obtain ⟨g2, rfl, _, _, hcl⟩ := hl.at_ hlast
      obtain ⟨m, hm⟩ : ∃ m, (latesAt 0 s.L (k : Int)).length = m := ⟨_, rfl⟩
      have hm0 := (List.getElem?_eq_some_iff.1 hlast).1
      rw [hm] at hm0 hm3 hcl hc
      obtain ⟨m', rfl⟩ : ∃ m', m = m' + 1 := ⟨m - 1, by omega⟩
      rw [Nat.add_sub_cancel] at hcl
      have hm1 : (m' : Int) ≤ 256 ^ 3 := by omega
      have hm2 : (0 : Int) ≤ (m' : Int) := by omega
      obtain ⟨v, hv⟩ : ∃ v, str b = v := ⟨_, rfl⟩
      rw [show str (no, b).2 = v from hv] at hcl
      rw [hv]
      clear hlast hN hd ht hm3 hx hl hm0 hm hv
      go_enter Try.func37, Try.ntmps37
      go_wp2_with fail
      refine HM.out.mono ?_
      rintro e w' ⟨rfl, rfl⟩
      go_wp2_with fail
      go_ret2
      exact ⟨rfl, rfl⟩
  · rw [hx] at HM ⊢
    rw [if_neg h0]
    have h1 : (x == 0) = false := by simp [h0]
    clear hd ht hx
    go_enter Try.func37, Try.ntmps37
    go_wp2_with fail
    refine HM.out.mono ?_
    rintro e w' ⟨rfl, rfl⟩
    go_wp2_with fail
    go_ret2
    exact ⟨rfl, rfl⟩
end
end Go.Proofs.Ytjpelifafmkdpaa.DkW
