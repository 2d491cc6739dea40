/- Numbers and their bytes, the highest first; what a reader tells. Plain facts, no program in sight. -/
import Derived.Test.YtebdmfmadbikaaaDoorMem
namespace Go.Proofs.YtebdmfmadbikaaaDoor.Fds

/-- A number's last j bytes, the one that counts most ahead. -/
def be : Nat → Nat → List UInt8
  | 0, _ => []
  | j + 1, n => UInt8.ofNat (n / 256 ^ j) :: be j n
theorem be_len (j n : Nat) : (be j n).length = j := by
  induction j with
  | zero => rfl
  | succ j ih => simp [be, ih]
theorem be_snoc (j n : Nat) : be (j + 1) n = be j (n / 256) ++ [UInt8.ofNat n] := by
  induction j generalizing n with
  | zero => simp [be]
  | succ j ih =>
    rw [be, ih]
    show _ = (UInt8.ofNat (n / 256 / 256 ^ j) :: be j (n / 256)) ++ [UInt8.ofNat n]
    rw [Nat.div_div_eq_div_mul, ← Nat.pow_succ']; rfl
/-- The number of bytes. -/
def num (l : List UInt8) : Nat := l.foldl (fun n c => n * 256 + c.toNat) 0
theorem num_snoc (l : List UInt8) (c : UInt8) : num (l ++ [c]) = num l * 256 + c.toNat := by simp [num]
theorem num_lt (l : List UInt8) : num l < 256 ^ l.length := by
  suffices h : ∀ (k : Nat) (l : List UInt8), l.length = k → num l < 256 ^ k from h _ l rfl
  intro k
  induction k with
  | zero => intro l h; rw [List.eq_nil_of_length_eq_zero h]; decide
  | succ k ih =>
    intro l h
    rcases List.eq_nil_or_concat l with rfl | ⟨r, c, rfl⟩
    · simp at h
    · rw [List.concat_eq_append] at h ⊢
      have hr : r.length = k := by simpa using h
      rw [num_snoc, Nat.pow_succ]
      have := ih r hr
      have := c.toNat_lt
      omega
theorem num_be (j n : Nat) : num (be j n) = n % 256 ^ j := by
  induction j generalizing n with
  | zero => simp [be, num, Nat.mod_one]
  | succ j ih =>
    rw [be_snoc, num_snoc, ih, UInt8.toNat_ofNat', Nat.pow_succ]
    have h1 := Nat.div_add_mod n 256
    have h2 : n / 256 % 256 ^ j * 256 + n % 256 = n % (256 ^ j * 256) := by
      rw [Nat.mul_comm (256 ^ j) 256, Nat.mod_mul, Nat.mul_comm (n / 256 % 256 ^ j) 256, Nat.add_comm]
    exact h2
theorem be_mod (j n : Nat) : be j (n % 256 ^ j) = be j n := by
  induction j generalizing n with
  | zero => rfl
  | succ j ih =>
    rw [be_snoc, be_snoc]
    have e1 : n % 256 ^ (j + 1) / 256 = n / 256 % 256 ^ j := by
      rw [Nat.pow_succ, Nat.mul_comm, Nat.mod_mul_right_div_self]
    have e2 : UInt8.ofNat (n % 256 ^ (j + 1)) = UInt8.ofNat n := by
      apply UInt8.toNat_inj.1
      rw [UInt8.toNat_ofNat', UInt8.toNat_ofNat', Nat.pow_succ, Nat.mul_comm]
      exact Nat.mod_mul_right_mod n 256 (256 ^ j)
    rw [e1, e2, ih]
theorem be_num (l : List UInt8) : be l.length (num l) = l := by
  suffices h : ∀ (k : Nat) (l : List UInt8), l.length = k → be k (num l) = l from h _ l rfl
  intro k
  induction k with
  | zero => intro l h; rw [List.eq_nil_of_length_eq_zero h]; rfl
  | succ k ih =>
    intro l h
    rcases List.eq_nil_or_concat l with rfl | ⟨r, c, rfl⟩
    · simp at h
    · rw [List.concat_eq_append] at h ⊢
      have hr : r.length = k := by simpa using h
      have hc := c.toNat_lt
      rw [be_snoc, num_snoc, show (num r * 256 + c.toNat) / 256 = num r by omega, ih r hr]
      congr 2
      apply UInt8.toNat_inj.1
      rw [UInt8.toNat_ofNat']
      show (num r * 256 + c.toNat) % 256 = c.toNat
      omega
end Go.Proofs.YtebdmfmadbikaaaDoor.Fds
