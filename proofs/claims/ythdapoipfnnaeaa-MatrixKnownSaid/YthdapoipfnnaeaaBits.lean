/- Words of one, four and eight bytes: what the model's arithmetic on their numbers is, said of Lean's own bit vectors. Plain facts, no program in sight. -/
import Derived.Laws.BitsAllLaws
import Derived.Laws.BitsLemmas
namespace Go.Proofs.Ythdapoipfnnaeaa.Bv

/-- The number of a bit vector, as an integer. -/
theorem ofInt_toNat {n : Nat} (x : BitVec n) : BitVec.ofInt n (x.toNat : Int) = x := by
  rw [BitVec.ofInt_natCast]; exact BitVec.ofNat_toNat n x |>.trans (BitVec.setWidth_eq x)

/-- A word's number, behind a name that the walk does not open. -/
def i32 (x : BitVec 32) : Int := (x.toNat : Int)
theorem i32_ge (x : BitVec 32) : 0 ≤ i32 x := by unfold i32; omega
theorem i32_lt (x : BitVec 32) : i32 x ≤ 4294967295 := by unfold i32; have := x.isLt; omega
theorem ofInt_i32 (x : BitVec 32) : BitVec.ofInt 32 (i32 x) = x := ofInt_toNat x
theorem i32_ofInt (n : Int) (h0 : 0 ≤ n) (h1 : n ≤ 4294967295) : i32 (BitVec.ofInt 32 n) = n := by
  obtain ⟨k, rfl⟩ := Int.eq_ofNat_of_zero_le h0
  unfold i32; rw [BitVec.ofInt_natCast, BitVec.toNat_ofNat, Nat.mod_eq_of_lt (by omega)]
theorem i32_inj {x y : BitVec 32} (h : i32 x = i32 y) : x = y := by
  have := congrArg (BitVec.ofInt 32) h; rwa [ofInt_i32, ofInt_i32] at this
theorem i32_eq (x y : BitVec 32) : (i32 x == i32 y) = (x == y) := by
  rw [Bool.eq_iff_iff, beq_iff_eq, beq_iff_eq]; exact ⟨i32_inj, congrArg _⟩
theorem and32 (x y : Int) : bits .and .u32 x y = i32 (BitVec.ofInt 32 x &&& BitVec.ofInt 32 y) := by
  have h := (BitVec.ofInt 32 x &&& BitVec.ofInt 32 y).isLt
  show IntKind.u32.wrap ((BitVec.ofInt 32 x &&& BitVec.ofInt 32 y).toNat : Int) = ((BitVec.ofInt 32 x &&& BitVec.ofInt 32 y).toNat : Int)
  rw [IntKind.wrap_u32']; omega
theorem or32 (x y : Int) : bits .or .u32 x y = i32 (BitVec.ofInt 32 x ||| BitVec.ofInt 32 y) := by
  have h := (BitVec.ofInt 32 x ||| BitVec.ofInt 32 y).isLt
  show IntKind.u32.wrap ((BitVec.ofInt 32 x ||| BitVec.ofInt 32 y).toNat : Int) = ((BitVec.ofInt 32 x ||| BitVec.ofInt 32 y).toNat : Int)
  rw [IntKind.wrap_u32']; omega
theorem xor32 (x y : Int) : bits .xor .u32 x y = i32 (BitVec.ofInt 32 x ^^^ BitVec.ofInt 32 y) := by
  have h := (BitVec.ofInt 32 x ^^^ BitVec.ofInt 32 y).isLt
  show IntKind.u32.wrap ((BitVec.ofInt 32 x ^^^ BitVec.ofInt 32 y).toNat : Int) = ((BitVec.ofInt 32 x ^^^ BitVec.ofInt 32 y).toNat : Int)
  rw [IntKind.wrap_u32']; omega
/-- A shift to the right is a quotient. -/
theorem shr32 (x : BitVec 32) (k : Nat) (d : Int) (hd : d = ((2 ^ k : Nat) : Int)) : i32 x / d = i32 (x >>> k) := by
  subst hd; unfold i32
  rw [BitVec.toNat_ushiftRight, Nat.shiftRight_eq_div_pow]; rfl
/-- A shift to the left is a product, wrapped. -/
theorem shl32 (x : BitVec 32) (k : Nat) (d : Int) (hd : d = ((2 ^ k : Nat) : Int)) : i32 x * d % (4294967296 : Int) = i32 (x <<< k) := by
  subst hd; unfold i32
  rw [BitVec.toNat_shiftLeft, Nat.shiftLeft_eq]; rfl
theorem shr32_1 (x : BitVec 32) : i32 x / (2 : Int) = i32 (x >>> 1) := shr32 x 1 2 rfl
theorem shr32_2 (x : BitVec 32) : i32 x / (4 : Int) = i32 (x >>> 2) := shr32 x 2 4 rfl
theorem shr32_4 (x : BitVec 32) : i32 x / (16 : Int) = i32 (x >>> 4) := shr32 x 4 16 rfl
theorem shr32_8 (x : BitVec 32) : i32 x / (256 : Int) = i32 (x >>> 8) := shr32 x 8 256 rfl
theorem shr32_16 (x : BitVec 32) : i32 x / (65536 : Int) = i32 (x >>> 16) := shr32 x 16 65536 rfl
theorem shr32_28 (x : BitVec 32) : i32 x / (268435456 : Int) = i32 (x >>> 28) := shr32 x 28 268435456 rfl
theorem shl32_1 (x : BitVec 32) : i32 x * (2 : Int) % (4294967296 : Int) = i32 (x <<< 1) := shl32 x 1 2 rfl
theorem shl32_2 (x : BitVec 32) : i32 x * (4 : Int) % (4294967296 : Int) = i32 (x <<< 2) := shl32 x 2 4 rfl
theorem shl32_4 (x : BitVec 32) : i32 x * (16 : Int) % (4294967296 : Int) = i32 (x <<< 4) := shl32 x 4 16 rfl
theorem shl32_8 (x : BitVec 32) : i32 x * (256 : Int) % (4294967296 : Int) = i32 (x <<< 8) := shl32 x 8 256 rfl
theorem shl32_16 (x : BitVec 32) : i32 x * (65536 : Int) % (4294967296 : Int) = i32 (x <<< 16) := shl32 x 16 65536 rfl
theorem shl32_24 (x : BitVec 32) : i32 x * (16777216 : Int) % (4294967296 : Int) = i32 (x <<< 24) := shl32 x 24 16777216 rfl

/-- Is a bit 1? -/
theorem bit_eq {n : Nat} (x : BitVec n) (k : Nat) : x.getLsbD k = (x.toNat / 2 ^ k % 2 == 1) := by
  rw [BitVec.getLsbD, Nat.testBit_eq_decide_div_mod_eq]; simp [Bool.beq_eq_decide_eq]
theorem bit32 (x : BitVec 32) (k : Nat) (d : Int) (hd : d = ((2 ^ k : Nat) : Int)) : (bits .and .u32 (i32 x / d) (1 : Int) == (1 : Int)) = x.getLsbD k := by
  rw [shr32 x k d hd, and32, ofInt_i32, bit_eq]
  unfold i32
  rw [Bool.eq_iff_iff, beq_iff_eq, beq_iff_eq]
  have e : (x >>> k &&& BitVec.ofInt 32 (1 : Int)).toNat = x.toNat / 2 ^ k % 2 := by
    rw [BitVec.toNat_and, BitVec.toNat_ushiftRight, Nat.shiftRight_eq_div_pow]
    exact Nat.and_two_pow_sub_one_eq_mod _ 1
  omega
theorem bit32z (x : BitVec 32) (k : Nat) (d : Int) (hd : d = ((2 ^ k : Nat) : Int)) : (bits .and .u32 (i32 x / d) (1 : Int) == (0 : Int)) = !x.getLsbD k := by
  have h := bit32 x k d hd
  rw [← h]
  have h2 : bits .and .u32 (i32 x / d) (1 : Int) = 0 ∨ bits .and .u32 (i32 x / d) (1 : Int) = 1 := by
    rw [shr32 x k d hd, and32, ofInt_i32]
    have e : (x >>> k &&& BitVec.ofInt 32 (1 : Int)).toNat = x.toNat / 2 ^ k % 2 := by
      rw [BitVec.toNat_and, BitVec.toNat_ushiftRight, Nat.shiftRight_eq_div_pow]
      exact Nat.and_two_pow_sub_one_eq_mod _ 1
    unfold i32; omega
  rcases h2 with h2 | h2 <;> rw [h2] <;> rfl
theorem bit32_0 (x : BitVec 32) : (bits .and .u32 (i32 x) (1 : Int) == (1 : Int)) = x.getLsbD 0 := by
  rw [← bit32 x 0 1 rfl, Int.ediv_one]

theorem add_pow (k : Nat) (hk : k < 32) (x : BitVec 32) : (i32 x + 2 ^ k % (4294967296 : Int)) % (4294967296 : Int) = i32 (x + (1#32 <<< k)) := by
  have hp : (2 : Nat) ^ k < 2 ^ 32 := Nat.pow_lt_pow_right (by decide) hk
  have e : (1#32 <<< k).toNat = 2 ^ k := by
    rw [BitVec.toNat_shiftLeft, Nat.shiftLeft_eq]
    show 1 * 2 ^ k % 2 ^ 32 = 2 ^ k
    rw [Nat.one_mul, Nat.mod_eq_of_lt hp]
  unfold i32
  rw [BitVec.toNat_add, e]
  have e2 : (2 : Int) ^ k = ((2 ^ k : Nat) : Int) := by simp
  rw [e2]
  generalize 2 ^ k = q at *
  omega
theorem bit8 (c : UInt8) (k : Nat) (d : Int) (hd : d = ((2 ^ k : Nat) : Int)) : (bits .and .u8 ((c.toNat : Int) / d) (1 : Int) == (1 : Int)) = c.toBitVec.getLsbD k := by
  subst hd
  have hlt : c.toNat / 2 ^ k < 256 := Nat.lt_of_le_of_lt (Nat.div_le_self _ _) c.toNat_lt
  have e : ((c.toNat : Int) / ((2 ^ k : Nat) : Int)) = ((c.toNat / 2 ^ k : Nat) : Int) := rfl
  rw [e, show (1 : Int) = ((1 : Nat) : Int) from rfl, u8_and_nat _ _ hlt (by decide), bit_eq, Nat.and_one_is_mod]
  show ((((c.toNat / 2 ^ k % 2 : Nat) : Int)) == ((1 : Nat) : Int)) = (c.toNat / 2 ^ k % 2 == 1)
  rw [Bool.eq_iff_iff, beq_iff_eq, beq_iff_eq]; omega
theorem bitI (n : Nat) (hn : n < 9223372036854775808) (k : Nat) : (bits .and .i64 ((n : Int) / 2 ^ k) (1 : Int) == (1 : Int)) = n.testBit k := by
  have hlt : n / 2 ^ k < 9223372036854775808 := Nat.lt_of_le_of_lt (Nat.div_le_self _ _) hn
  have e : ((n : Int) / 2 ^ k) = ((n / 2 ^ k : Nat) : Int) := by simp
  rw [e, Nat.testBit_eq_decide_div_mod_eq]
  have hb : bits .and .i64 ((n / 2 ^ k : Nat) : Int) (1 : Int) = ((n / 2 ^ k % 2 : Nat) : Int) := by
    have ha : (BitVec.ofInt 64 ((n / 2 ^ k : Nat) : Int)).toNat = n / 2 ^ k := by
      rw [BitVec.ofInt_natCast, BitVec.toNat_ofNat]; exact Nat.mod_eq_of_lt (by omega)
    show IntKind.i64.wrap ((BitVec.ofInt 64 ((n / 2 ^ k : Nat) : Int) &&& BitVec.ofInt 64 (1 : Int)).toNat : Int) = _
    rw [BitVec.toNat_and, ha, show (BitVec.ofInt 64 (1 : Int)).toNat = 1 from rfl, Nat.and_one_is_mod, IntKind.wrap_i64]
    omega
  rw [hb, Bool.eq_iff_iff, beq_iff_eq, decide_eq_true_iff]; omega

/-- The bits of a bit vector that a vector of one bit only has: the vector as a sum. -/
def low {n : Nat} (x : BitVec n) : Nat → BitVec n
  | 0 => 0#n
  | k + 1 => low x k ^^^ (if x.getLsbD k then BitVec.twoPow n k else 0#n)
theorem low_bit {n : Nat} (x : BitVec n) (k : Nat) (i : Nat) (hi : i < n) : (low x k).getLsbD i = (decide (i < k) && x.getLsbD i) := by
  induction k with
  | zero => simp [low]
  | succ k ih =>
    simp only [low, BitVec.getLsbD_xor, ih]
    by_cases hk : x.getLsbD k
    · rw [if_pos hk]
      by_cases hik : i = k
      · subst hik; simp [hk, hi]
      · rw [BitVec.getLsbD_twoPow]
        have : decide (k = i) = false := by simp; omega
        have h2 : decide (i < k + 1) = decide (i < k) := by simp; omega
        simp [this, h2]
    · rw [if_neg hk]
      by_cases hik : i = k
      · subst hik; simp [hk]
      · have h2 : decide (i < k + 1) = decide (i < k) := by simp; omega
        simp [h2]
theorem low_all {n : Nat} (x : BitVec n) : low x n = x := by
  apply BitVec.eq_of_getLsbD_eq
  intro i hi
  rw [low_bit x n i hi]; simp [hi]
/-- Two functions of a bit vector that turn sums into sums are the same if they are the same at each vector of one bit. -/
theorem lin_ext {n m : Nat} (f g : BitVec n → BitVec m) (hf : ∀ x y, f (x ^^^ y) = f x ^^^ f y) (hg : ∀ x y, g (x ^^^ y) = g x ^^^ g y)
    (h : ∀ i, i < n → f (BitVec.twoPow n i) = g (BitVec.twoPow n i)) (x : BitVec n) : f x = g x := by
  have zf : f 0#n = 0#m := by have := hf 0#n 0#n; simpa using this
  have zg : g 0#n = 0#m := by have := hg 0#n 0#n; simpa using this
  have key : ∀ k, k ≤ n → f (low x k) = g (low x k) := by
    intro k
    induction k with
    | zero => intro _; simp [low, zf, zg]
    | succ k ih =>
      intro hk
      simp only [low, hf, hg, ih (by omega)]
      by_cases hb : x.getLsbD k
      · rw [if_pos hb, h k (by omega)]
      · rw [if_neg hb, zf, zg]
  have := key n (Nat.le_refl n)
  rwa [low_all] at this
theorem forall_lt_of_all {n : Nat} {p : Nat → Prop} [DecidablePred p] (h : (List.range n).all (fun i => decide (p i)) = true) (i : Nat) (hi : i < n) : p i := by
  have := List.all_eq_true.1 h i (by simpa using hi)
  simpa using this
end Go.Proofs.Ythdapoipfnnaeaa.Bv
