/- Numbers of one byte: sums, products, powers of the generator, logarithms. Plain facts, no program in sight. -/
import Derived.Test.YthdapoipfnnaeaaBits
namespace Go.Proofs.Ythdapoipfnnaeaa.Gf
open Bv

/-- The product of two polynomials, by the first k bits of the second one. -/
def cl (a b : Nat) : Nat → Nat
  | 0 => 0
  | k + 1 => if b.testBit k then cl a b k ^^^ (a <<< k) else cl a b k
/-- Its rest, k bits of it being done. -/
def rd (n : Nat) : Nat → Nat
  | 0 => n
  | k + 1 => if (rd n k).testBit (14 - k) then rd n k ^^^ (285 <<< (6 - k)) else rd n k
def mulN (a b : Nat) : Nat := rd (cl a b 8) 7

theorem cl_lt (a b : Nat) (ha : a < 256) : ∀ k, cl a b k < 2 ^ (8 + k)
  | 0 => by simp [cl]
  | k + 1 => by
    have h := cl_lt a b ha k
    have h2 : (2 : Nat) ^ (8 + k) ≤ 2 ^ (8 + (k + 1)) := Nat.pow_le_pow_right (by decide) (by omega)
    have h3 : a <<< k < 2 ^ (8 + (k + 1)) := by
      rw [Nat.shiftLeft_eq]
      have : a * 2 ^ k < 256 * 2 ^ k := Nat.mul_lt_mul_of_pos_right ha (Nat.two_pow_pos k)
      rw [show (256 : Nat) = 2 ^ 8 from rfl, ← Nat.pow_add] at this
      omega
    unfold cl
    split
    · exact Nat.xor_lt_two_pow (Nat.lt_of_lt_of_le h h2) h3
    · exact Nat.lt_of_lt_of_le h h2
theorem cl8_lt (a b k : Nat) (ha : a < 256) (hk : k ≤ 8) : cl a b k < 65536 :=
  Nat.lt_of_lt_of_le (cl_lt a b ha k) (show 2 ^ (8 + k) ≤ 2 ^ 16 from Nat.pow_le_pow_right (by decide) (by omega))
theorem xor_top (x c n : Nat) (hx : x < 2 ^ (n + 1)) (hc : c < 2 ^ (n + 1)) (h1 : x.testBit n = true) (h2 : c.testBit n = true) : x ^^^ c < 2 ^ n := by
  apply Nat.lt_pow_two_of_testBit
  intro i hi
  rw [Nat.testBit_xor]
  by_cases h : i = n
  · subst h; rw [h1, h2]; rfl
  · have hi2 : 2 ^ (n + 1) ≤ 2 ^ i := Nat.pow_le_pow_right (by decide) (by omega)
    rw [Nat.testBit_lt_two_pow (Nat.lt_of_lt_of_le hx hi2), Nat.testBit_lt_two_pow (Nat.lt_of_lt_of_le hc hi2)]; rfl
theorem lt_half (x n : Nat) (hx : x < 2 ^ (n + 1)) (h1 : x.testBit n = false) : x < 2 ^ n := by
  apply Nat.lt_pow_two_of_testBit
  intro i hi
  by_cases h : i = n
  · subst h; exact h1
  · exact Nat.testBit_lt_two_pow (Nat.lt_of_lt_of_le hx (Nat.pow_le_pow_right (by decide) (by omega)))
theorem rd_lt (n : Nat) (hn : n < 2 ^ 15) : ∀ k, k ≤ 7 → rd n k < 2 ^ (15 - k)
  | 0, _ => by simpa [rd] using hn
  | k + 1, hk => by
    have h := rd_lt n hn k (by omega)
    have e : 15 - k = (15 - (k + 1)) + 1 := by omega
    have e2 : 14 - k = 15 - (k + 1) := by omega
    rw [e] at h
    unfold rd
    rw [e2]
    split
    · rename_i ht
      refine xor_top _ _ _ h ?_ ht ?_
      · rcases (by omega : k = 0 ∨ k = 1 ∨ k = 2 ∨ k = 3 ∨ k = 4 ∨ k = 5 ∨ k = 6) with rfl | rfl | rfl | rfl | rfl | rfl | rfl <;> decide
      · rcases (by omega : k = 0 ∨ k = 1 ∨ k = 2 ∨ k = 3 ∨ k = 4 ∨ k = 5 ∨ k = 6) with rfl | rfl | rfl | rfl | rfl | rfl | rfl <;> decide
    · rename_i ht
      exact lt_half _ _ h (by simpa using ht)
theorem cl_lt' (a b : Nat) (ha : a < 256) : cl a b 8 < 2 ^ 15 := by
  have key : ∀ k, k ≤ 8 → 0 < k → cl a b k < 2 ^ (7 + k) := by
    intro k
    induction k with
    | zero => intro _ h; omega
    | succ k ih =>
      intro hk _
      have h3 : a <<< k < 2 ^ (7 + (k + 1)) := by
        rw [Nat.shiftLeft_eq]
        have : a * 2 ^ k < 256 * 2 ^ k := Nat.mul_lt_mul_of_pos_right ha (Nat.two_pow_pos k)
        rw [show (256 : Nat) = 2 ^ 8 from rfl, ← Nat.pow_add] at this
        rwa [show 7 + (k + 1) = 8 + k by omega]
      have h2 : cl a b k < 2 ^ (7 + (k + 1)) := by
        by_cases hz : k = 0
        · subst hz; simp [cl]
        · exact Nat.lt_of_lt_of_le (ih (by omega) (by omega)) (Nat.pow_le_pow_right (by decide) (by omega))
      unfold cl
      split
      · exact Nat.xor_lt_two_pow h2 h3
      · exact h2
  exact key 8 (Nat.le_refl _) (by decide)
theorem mulN_lt (a b : Nat) (ha : a < 256) : mulN a b < 256 := rd_lt _ (cl_lt' a b ha) 7 (by decide)

theorem xor4 (a b c d : Nat) : (a ^^^ b) ^^^ (c ^^^ d) = (a ^^^ c) ^^^ (b ^^^ d) := by
  rw [Nat.xor_assoc, Nat.xor_assoc, ← Nat.xor_assoc b, ← Nat.xor_assoc c, Nat.xor_comm b c]
theorem cl_left (a a' b : Nat) : ∀ k, cl (a ^^^ a') b k = cl a b k ^^^ cl a' b k
  | 0 => by simp [cl]
  | k + 1 => by
    unfold cl
    split
    · rw [cl_left a a' b k, Nat.shiftLeft_xor_distrib, xor4]
    · exact cl_left a a' b k
theorem cl_right (a b b' : Nat) : ∀ k, cl a (b ^^^ b') k = cl a b k ^^^ cl a b' k
  | 0 => by simp [cl]
  | k + 1 => by
    unfold cl
    rw [Nat.testBit_xor, cl_right a b b' k]
    cases h1 : b.testBit k <;> cases h2 : b'.testBit k
    · rfl
    · simp [Nat.xor_assoc]
    · simp only [Bool.true_bne, Bool.not_false, if_true, Bool.false_eq_true, if_false]
      rw [Nat.xor_assoc, Nat.xor_assoc, Nat.xor_comm (cl a b' k)]
    · simp only [bne_self_eq_false, Bool.false_eq_true, if_false, if_true]
      rw [xor4, Nat.xor_self, Nat.xor_zero]
theorem rd_xor (m n : Nat) : ∀ k, rd (m ^^^ n) k = rd m k ^^^ rd n k
  | 0 => rfl
  | k + 1 => by
    unfold rd
    rw [rd_xor m n k, Nat.testBit_xor]
    cases h1 : (rd m k).testBit (14 - k) <;> cases h2 : (rd n k).testBit (14 - k)
    · rfl
    · simp [Nat.xor_assoc]
    · simp only [Bool.true_bne, Bool.not_false, if_true, Bool.false_eq_true, if_false]
      rw [Nat.xor_assoc, Nat.xor_assoc, Nat.xor_comm (rd n k)]
    · simp only [bne_self_eq_false, Bool.false_eq_true, if_false, if_true]
      rw [xor4, Nat.xor_self, Nat.xor_zero]
theorem mulN_left (a a' b : Nat) : mulN (a ^^^ a') b = mulN a b ^^^ mulN a' b := by unfold mulN; rw [cl_left, rd_xor]
theorem mulN_right (a b b' : Nat) : mulN a (b ^^^ b') = mulN a b ^^^ mulN a b' := by unfold mulN; rw [cl_right, rd_xor]

/-- The product of two bytes. -/
def mulB (x y : BitVec 8) : BitVec 8 := BitVec.ofNat 8 (mulN x.toNat y.toNat)
theorem mulB_toNat (x y : BitVec 8) : (mulB x y).toNat = mulN x.toNat y.toNat := by
  rw [mulB, BitVec.toNat_ofNat]; exact Nat.mod_eq_of_lt (mulN_lt _ _ x.isLt)
theorem mulB_left (x x' y : BitVec 8) : mulB (x ^^^ x') y = mulB x y ^^^ mulB x' y := by
  apply BitVec.eq_of_toNat_eq; rw [BitVec.toNat_xor, mulB_toNat, mulB_toNat, mulB_toNat, BitVec.toNat_xor, mulN_left]
theorem mulB_right (x y y' : BitVec 8) : mulB x (y ^^^ y') = mulB x y ^^^ mulB x y' := by
  apply BitVec.eq_of_toNat_eq; rw [BitVec.toNat_xor, mulB_toNat, mulB_toNat, mulB_toNat, BitVec.toNat_xor, mulN_right]
theorem mulB_comm (x y : BitVec 8) : mulB x y = mulB y x := by
  refine lin_ext (fun x => mulB x y) (fun x => mulB y x) (fun _ _ => mulB_left _ _ _) (fun _ _ => mulB_right _ _ _) (fun i hi => ?_) x
  refine lin_ext (fun y => mulB (BitVec.twoPow 8 i) y) (fun y => mulB y (BitVec.twoPow 8 i)) (fun _ _ => mulB_right _ _ _) (fun _ _ => mulB_left _ _ _) (fun j hj => ?_) y
  exact forall_lt_of_all (p := fun j => mulB (BitVec.twoPow 8 i) (BitVec.twoPow 8 j) = mulB (BitVec.twoPow 8 j) (BitVec.twoPow 8 i)) (n := 8) (forall_lt_of_all (n := 8) (p := fun i => (List.range 8).all (fun j => decide (mulB (BitVec.twoPow 8 i) (BitVec.twoPow 8 j) = mulB (BitVec.twoPow 8 j) (BitVec.twoPow 8 i))) = true) (by decide +kernel) i hi) j hj
theorem mulB_assoc (x y z : BitVec 8) : mulB (mulB x y) z = mulB x (mulB y z) := by
  refine lin_ext (fun x => mulB (mulB x y) z) (fun x => mulB x (mulB y z)) (fun _ _ => by simp only [mulB_left]) (fun _ _ => by simp only [mulB_left]) (fun i hi => ?_) x
  refine lin_ext (fun y => mulB (mulB (BitVec.twoPow 8 i) y) z) (fun y => mulB (BitVec.twoPow 8 i) (mulB y z)) (fun _ _ => by simp only [mulB_left, mulB_right]) (fun _ _ => by simp only [mulB_left, mulB_right]) (fun j hj => ?_) y
  refine lin_ext (fun z => mulB (mulB (BitVec.twoPow 8 i) (BitVec.twoPow 8 j)) z) (fun z => mulB (BitVec.twoPow 8 i) (mulB (BitVec.twoPow 8 j) z)) (fun _ _ => by simp only [mulB_right]) (fun _ _ => by simp only [mulB_right]) (fun k hk => ?_) z
  have h := forall_lt_of_all (n := 8) (p := fun i => (List.range 8).all (fun j => (List.range 8).all (fun k => decide (mulB (mulB (BitVec.twoPow 8 i) (BitVec.twoPow 8 j)) (BitVec.twoPow 8 k) = mulB (BitVec.twoPow 8 i) (mulB (BitVec.twoPow 8 j) (BitVec.twoPow 8 k))))) = true) (by decide +kernel) i hi
  have h2 := List.all_eq_true.1 (List.all_eq_true.1 h j (by simpa using hj)) k (by simpa using hk)
  simpa using h2
theorem mulB_one (x : BitVec 8) : mulB x 1#8 = x := by
  refine lin_ext (fun x => mulB x 1#8) (fun x => x) (fun _ _ => mulB_left _ _ _) (fun _ _ => rfl) (fun i hi => ?_) x
  exact forall_lt_of_all (n := 8) (p := fun i => mulB (BitVec.twoPow 8 i) 1#8 = BitVec.twoPow 8 i) (by decide +kernel) i hi
theorem mulB_zero (x : BitVec 8) : mulB x 0#8 = 0#8 := by
  have := mulB_right x 0#8 0#8; simpa using this

def mul (a b : UInt8) : UInt8 := ⟨mulB a.toBitVec b.toBitVec⟩
theorem mul_toNat (a b : UInt8) : (mul a b).toNat = mulN a.toNat b.toNat := mulB_toNat _ _
theorem ext {a b : UInt8} (h : a.toBitVec = b.toBitVec) : a = b := UInt8.toBitVec_inj.1 h
theorem mul_comm (a b : UInt8) : mul a b = mul b a := ext (mulB_comm _ _)
theorem mul_assoc (a b c : UInt8) : mul (mul a b) c = mul a (mul b c) := ext (mulB_assoc _ _ _)
theorem mul_xor (a b c : UInt8) : mul a (b ^^^ c) = mul a b ^^^ mul a c := ext (mulB_right _ _ _)
theorem xor_mul (a b c : UInt8) : mul (a ^^^ b) c = mul a c ^^^ mul b c := ext (mulB_left _ _ _)
theorem mul_one (a : UInt8) : mul a 1 = a := ext (mulB_one _)
theorem one_mul (a : UInt8) : mul 1 a = a := by rw [mul_comm, mul_one]
theorem mul_zero (a : UInt8) : mul a 0 = 0 := ext (mulB_zero _)
theorem zero_mul (a : UInt8) : mul 0 a = 0 := by rw [mul_comm, mul_zero]
theorem mul_left_comm (a b c : UInt8) : mul a (mul b c) = mul b (mul a c) := by rw [← mul_assoc, mul_comm a b, mul_assoc]

/-- The powers of the generator, and the logarithms. -/
def pwl : List Nat :=
  [1, 2, 4, 8, 16, 32, 64, 128, 29, 58, 116, 232, 205, 135, 19, 38, 76, 152, 45, 90, 180, 117, 234, 201, 143, 3, 6, 12, 24, 48, 96, 192, 157, 39, 78,
   156, 37, 74, 148, 53, 106, 212, 181, 119, 238, 193, 159, 35, 70, 140, 5, 10, 20, 40, 80, 160, 93, 186, 105, 210, 185, 111, 222, 161, 95, 190, 97,
   194, 153, 47, 94, 188, 101, 202, 137, 15, 30, 60, 120, 240, 253, 231, 211, 187, 107, 214, 177, 127, 254, 225, 223, 163, 91, 182, 113, 226, 217,
   175, 67, 134, 17, 34, 68, 136, 13, 26, 52, 104, 208, 189, 103, 206, 129, 31, 62, 124, 248, 237, 199, 147, 59, 118, 236, 197, 151, 51, 102, 204,
   133, 23, 46, 92, 184, 109, 218, 169, 79, 158, 33, 66, 132, 21, 42, 84, 168, 77, 154, 41, 82, 164, 85, 170, 73, 146, 57, 114, 228, 213, 183, 115,
   230, 209, 191, 99, 198, 145, 63, 126, 252, 229, 215, 179, 123, 246, 241, 255, 227, 219, 171, 75, 150, 49, 98, 196, 149, 55, 110, 220, 165, 87,
   174, 65, 130, 25, 50, 100, 200, 141, 7, 14, 28, 56, 112, 224, 221, 167, 83, 166, 81, 162, 89, 178, 121, 242, 249, 239, 195, 155, 43, 86, 172, 69,
   138, 9, 18, 36, 72, 144, 61, 122, 244, 245, 247, 243, 251, 235, 203, 139, 11, 22, 44, 88, 176, 125, 250, 233, 207, 131, 27, 54, 108, 216, 173, 71,
   142]
def lgl : List Nat :=
  [0, 0, 1, 25, 2, 50, 26, 198, 3, 223, 51, 238, 27, 104, 199, 75, 4, 100, 224, 14, 52, 141, 239, 129, 28, 193, 105, 248, 200, 8, 76, 113, 5, 138,
   101, 47, 225, 36, 15, 33, 53, 147, 142, 218, 240, 18, 130, 69, 29, 181, 194, 125, 106, 39, 249, 185, 201, 154, 9, 120, 77, 228, 114, 166, 6, 191,
   139, 98, 102, 221, 48, 253, 226, 152, 37, 179, 16, 145, 34, 136, 54, 208, 148, 206, 143, 150, 219, 189, 241, 210, 19, 92, 131, 56, 70, 64, 30, 66,
   182, 163, 195, 72, 126, 110, 107, 58, 40, 84, 250, 133, 186, 61, 202, 94, 155, 159, 10, 21, 121, 43, 78, 212, 229, 172, 115, 243, 167, 87, 7, 112,
   192, 247, 140, 128, 99, 13, 103, 74, 222, 237, 49, 197, 254, 24, 227, 165, 153, 119, 38, 184, 180, 124, 17, 68, 146, 217, 35, 32, 137, 46, 55, 63,
   209, 91, 149, 188, 207, 205, 144, 135, 151, 178, 220, 252, 190, 97, 242, 86, 211, 171, 20, 42, 93, 158, 132, 60, 57, 83, 71, 109, 65, 162, 31, 45,
   67, 216, 183, 123, 164, 118, 196, 23, 73, 236, 127, 12, 111, 246, 108, 161, 59, 82, 41, 157, 85, 170, 251, 96, 134, 177, 187, 204, 62, 90, 203,
   89, 95, 176, 156, 169, 160, 81, 11, 245, 22, 235, 122, 117, 44, 215, 79, 174, 213, 233, 230, 231, 173, 232, 116, 214, 244, 234, 168, 80, 88, 175]
def pw : Nat → UInt8
  | 0 => 1
  | n + 1 => mul (pw n) 2
def lg (a : UInt8) : Nat := lgl.getD a.toNat 0
theorem pwl_step : (List.range 254).all (fun i => decide (mulN (pwl.getD i 0) 2 = pwl.getD (i + 1) 0)) = true := by decide +kernel
theorem pw_list (i : Nat) (hi : i < 255) : (pw i).toNat = pwl.getD i 0 := by
  induction i with
  | zero => rfl
  | succ i ih =>
    rw [pw, mul_toNat, ih (by omega)]
    exact forall_lt_of_all (n := 254) (p := fun i => mulN (pwl.getD i 0) 2 = pwl.getD (i + 1) 0) pwl_step i (by omega)
theorem lg_all : (List.range 256).all (fun a => decide (lgl.getD a 0 < 255) && (decide (a = 0) || decide (pwl.getD (lgl.getD a 0) 0 = a))) = true := by decide +kernel
theorem lg_lt (a : UInt8) : lg a < 255 := by
  have := List.all_eq_true.1 lg_all a.toNat (by simpa using a.toNat_lt)
  simp only [Bool.and_eq_true, decide_eq_true_iff] at this
  exact this.1
theorem pw_lg (a : UInt8) (ha : a ≠ 0) : pw (lg a) = a := by
  have := List.all_eq_true.1 lg_all a.toNat (by simpa using a.toNat_lt)
  simp only [Bool.and_eq_true, Bool.or_eq_true, decide_eq_true_iff] at this
  apply UInt8.toNat_inj.1
  rw [pw_list _ (lg_lt a)]
  rcases this.2 with h | h
  · exact absurd (UInt8.toNat_inj.1 (by simpa using h)) ha
  · exact h
theorem pwl_back : (List.range 255).all (fun i => decide (lgl.getD (pwl.getD i 0) 0 = i) && decide (pwl.getD i 0 ≠ 0)) = true := by decide +kernel
theorem lg_pw (i : Nat) (hi : i < 255) : lg (pw i) = i := by
  have := List.all_eq_true.1 pwl_back i (by simpa using hi)
  simp only [Bool.and_eq_true, decide_eq_true_iff] at this
  rw [lg, pw_list i hi]; exact this.1
theorem pw_add (m n : Nat) : pw (m + n) = mul (pw m) (pw n) := by
  induction n with
  | zero => rw [Nat.add_zero, pw, mul_one]
  | succ n ih => rw [Nat.add_succ, pw, ih, pw, mul_assoc]
theorem pw_255 : pw 255 = 1 := by
  show mul (pw 254) 2 = 1
  apply UInt8.toNat_inj.1
  rw [mul_toNat, pw_list 254 (by decide)]; decide +kernel
theorem pw_mul255 (k : Nat) : pw (255 * k) = 1 := by
  induction k with
  | zero => rfl
  | succ k ih => rw [Nat.mul_succ, pw_add, ih, pw_255, mul_one]
theorem pw_mod (n : Nat) : pw (n % 255) = pw n := by
  conv => rhs; rw [← Nat.mod_add_div n 255, pw_add, pw_mul255, mul_one]
theorem pw_ne (n : Nat) : pw n ≠ 0 := by
  rw [← pw_mod]
  have hi : n % 255 < 255 := Nat.mod_lt _ (by decide)
  have := List.all_eq_true.1 pwl_back (n % 255) (by simpa using hi)
  simp only [Bool.and_eq_true, decide_eq_true_iff] at this
  intro h
  have h2 := congrArg UInt8.toNat h
  rw [pw_list _ hi] at h2
  exact this.2 h2
theorem lg_pw_mod (n : Nat) : lg (pw n) = n % 255 := by rw [← pw_mod]; exact lg_pw _ (Nat.mod_lt _ (by decide))
theorem pw_inj {m n : Nat} (h : pw m = pw n) : m % 255 = n % 255 := by rw [← lg_pw_mod, h, lg_pw_mod]
theorem mul_pw {a b : UInt8} (ha : a ≠ 0) (hb : b ≠ 0) : mul a b = pw (lg a + lg b) := by rw [pw_add, pw_lg a ha, pw_lg b hb]
theorem mul_eq_zero {a b : UInt8} (h : mul a b = 0) : a = 0 ∨ b = 0 := by
  by_cases ha : a = 0
  · exact .inl ha
  · by_cases hb : b = 0
    · exact .inr hb
    · rw [mul_pw ha hb] at h; exact absurd h (pw_ne _)
theorem mul_ne {a b : UInt8} (ha : a ≠ 0) (hb : b ≠ 0) : mul a b ≠ 0 := fun h => (mul_eq_zero h).elim ha hb
theorem lg_mul {a b : UInt8} (ha : a ≠ 0) (hb : b ≠ 0) : lg (mul a b) = (lg a + lg b) % 255 := by rw [mul_pw ha hb, lg_pw_mod]

/-- The inverse; the quotient. -/
def inv (a : UInt8) : UInt8 := if a = 0 then 0 else pw (255 - lg a)
theorem inv_mul {a : UInt8} (ha : a ≠ 0) : mul (inv a) a = 1 := by
  have h := lg_lt a
  unfold inv; rw [if_neg ha]
  conv => lhs; arg 2; rw [← pw_lg a ha]
  rw [← pw_add, show 255 - lg a + lg a = 255 by omega, pw_255]
theorem mul_inv {a : UInt8} (ha : a ≠ 0) : mul a (inv a) = 1 := by rw [mul_comm, inv_mul ha]
theorem inv_ne {a : UInt8} (ha : a ≠ 0) : inv a ≠ 0 := by unfold inv; rw [if_neg ha]; exact pw_ne _
theorem inv_of {a b : UInt8} (h : mul a b = 1) : b = inv a := by
  have ha : a ≠ 0 := by rintro rfl; rw [zero_mul] at h; exact absurd h (by decide)
  rw [← one_mul b, ← inv_mul ha, mul_assoc, h, mul_one]
def div (a b : UInt8) : UInt8 := mul a (inv b)
theorem div_pw {a b : UInt8} (ha : a ≠ 0) (hb : b ≠ 0) : div a b = pw (lg a + 255 - lg b) := by
  have h := lg_lt b
  unfold div inv; rw [if_neg hb]
  conv => lhs; arg 1; rw [← pw_lg a ha]
  rw [← pw_add]; congr 1; omega
theorem zero_div (b : UInt8) : div 0 b = 0 := zero_mul _
theorem one_div (b : UInt8) : div 1 b = inv b := one_mul _
theorem div_zero (a : UInt8) : div a 0 = 0 := by unfold div inv; rw [if_pos rfl, mul_zero]
theorem mul_div {a b : UInt8} (hb : b ≠ 0) : div (mul a b) b = a := by rw [div, mul_assoc, mul_inv hb, mul_one]
theorem div_mul {a b : UInt8} (hb : b ≠ 0) : mul (div a b) b = a := by rw [div, mul_assoc, inv_mul hb, mul_one]

/-- A power by so many products. -/
def rp (a : UInt8) : Nat → UInt8
  | 0 => 1
  | n + 1 => mul (rp a n) a
theorem rp_pw {a : UInt8} (ha : a ≠ 0) (n : Nat) : rp a n = pw (lg a * n) := by
  induction n with
  | zero => rfl
  | succ n ih => rw [rp, ih, Nat.mul_succ, pw_add, pw_lg a ha]
/-- A power. -/
def pow (a : UInt8) (n : Int) : UInt8 := if n = 0 then 1 else if a = 0 then 0 else rp a (n % 255).toNat
theorem pow_zero (a : UInt8) : pow a 0 = 1 := if_pos rfl
theorem zero_pow {n : Int} (h : n ≠ 0) : pow 0 n = 0 := by rw [pow, if_neg h, if_pos rfl]
theorem pow_pw {a : UInt8} (ha : a ≠ 0) (n : Int) : pow a n = pw (lg a * (n % 255).toNat) := by
  unfold pow
  by_cases h : n = 0
  · subst h; rfl
  · rw [if_neg h, if_neg ha, rp_pw ha]
theorem lg_two : lg 2 = 1 := by decide +kernel
theorem pow_two (n : Int) : pow 2 n = pw (n % 255).toNat := by rw [pow_pw (by decide), lg_two, Nat.one_mul]
theorem pw_cong {m n : Nat} (h : m % 255 = n % 255) : pw m = pw n := by rw [← pw_mod m, h, pw_mod]
theorem pow_add {a : UInt8} (ha : a ≠ 0) (m n : Int) : pow a (m + n) = mul (pow a m) (pow a n) := by
  rw [pow_pw ha, pow_pw ha, pow_pw ha, ← pw_add, ← Nat.mul_add]
  apply pw_cong
  have e : (((m + n) % 255).toNat) % 255 = ((m % 255).toNat + (n % 255).toNat) % 255 := by omega
  rw [Nat.mul_mod, e, ← Nat.mul_mod]

/-- The order. -/
def ord (a : UInt8) : Nat := if a = 0 then 0 else 255 / Nat.gcd (lg a) 255
theorem pw_one {n : Nat} : pw n = 1 ↔ n % 255 = 0 := by
  constructor
  · intro h; have := pw_inj (m := n) (n := 0) h; simpa using this
  · intro h; rw [← pw_mod, h]; rfl
theorem rp_one {a : UInt8} (ha : a ≠ 0) (n : Nat) : rp a n = 1 ↔ lg a * n % 255 = 0 := by rw [rp_pw ha, pw_one]
theorem ord_all : (List.range 255).all (fun l => let o := 255 / Nat.gcd l 255; decide (0 < o) && decide (o ≤ 255) && decide (255 % o = 0) && decide (l * o % 255 = 0) && (List.range o).all (fun n => decide (n = 0) || decide (l * n % 255 ≠ 0))) = true := by decide +kernel
theorem ord_facts {a : UInt8} (ha : a ≠ 0) : 0 < ord a ∧ ord a ≤ 255 ∧ 255 % ord a = 0 ∧ rp a (ord a) = 1 ∧ ∀ n, 0 < n → n < ord a → rp a n ≠ 1 := by
  have h := List.all_eq_true.1 ord_all (lg a) (by simpa using lg_lt a)
  simp only [Bool.and_eq_true, decide_eq_true_iff] at h
  have e : ord a = 255 / Nat.gcd (lg a) 255 := by rw [ord, if_neg ha]
  rw [← e] at h
  obtain ⟨⟨⟨⟨h1, h2⟩, h3⟩, h4⟩, h5⟩ := h
  refine ⟨h1, h2, h3, (rp_one ha _).2 h4, fun n h0 hn => ?_⟩
  have := List.all_eq_true.1 h5 n (by simpa using hn)
  simp only [Bool.or_eq_true, decide_eq_true_iff] at this
  rw [Ne, rp_one ha]
  rcases this with h | h
  · omega
  · exact h
end Go.Proofs.Ythdapoipfnnaeaa.Gf
