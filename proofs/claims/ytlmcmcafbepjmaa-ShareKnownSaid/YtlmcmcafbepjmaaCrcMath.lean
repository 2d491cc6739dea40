/- What the check of bytes reckons, in plain Lean: the register's step, the Sum, the document's long division; and the laws of both. No program in sight. -/
import Derived.Test.YtlmcmcafbepjmaaBits
import Derived.Lib.Tables
namespace Go.Proofs.Ytlmcmcafbepjmaa.Crc
open Bv

theorem ite_xor {m : Nat} (p q : Bool) (d : BitVec m) : (if (p ^^ q) = true then d else 0#m) = (if p = true then d else 0#m) ^^^ (if q = true then d else 0#m) := by
  cases p <;> cases q <;> simp
theorem xor4 {m : Nat} (a b c d : BitVec m) : (a ^^^ b) ^^^ (c ^^^ d) = (a ^^^ c) ^^^ (b ^^^ d) := by
  rw [BitVec.xor_assoc, BitVec.xor_assoc, ← BitVec.xor_assoc b c d, ← BitVec.xor_assoc c b d, BitVec.xor_comm b c]
theorem xor_cancel {m : Nat} (a b : BitVec m) : a ^^^ (a ^^^ b) = b := by rw [← BitVec.xor_assoc]; simp
theorem xor_eq_zero {m : Nat} {a b : BitVec m} (h : a ^^^ b = 0#m) : a = b := by
  have := xor_cancel a b; rw [h] at this; simpa using this

/-- The sum of the table's entries at the bits that are 1. -/
def linOf {n m : Nat} (t : Nat → BitVec m) (x : BitVec n) : Nat → BitVec m
  | 0 => 0#m
  | k + 1 => linOf t x k ^^^ (if x.getLsbD k = true then t k else 0#m)
theorem linOf_xor {n m : Nat} (t : Nat → BitVec m) (x y : BitVec n) (k : Nat) : linOf t (x ^^^ y) k = linOf t x k ^^^ linOf t y k := by
  induction k with
  | zero => simp [linOf]
  | succ k ih => simp only [linOf, ih, BitVec.getLsbD_xor, ite_xor]; exact xor4 _ _ _ _

/-- The divisor's powers below x^32. -/
def D : BitVec 32 := 517762881#32
/-- What the loop over the multiples has made of a register after k rounds. -/
def overK (top v : BitVec 32) : Nat → BitVec 32
  | 0 => v
  | k + 1 => if top.getLsbD k = true then overK top v k ^^^ (D <<< k) else overK top v k
def over (v : BitVec 32) : BitVec 32 := overK (v >>> 28) (v <<< 4) 4
theorem overK_eq (top v : BitVec 32) (k : Nat) : overK top v k = v ^^^ linOf (D <<< ·) top k := by
  induction k with
  | zero => simp [overK, linOf]
  | succ k ih =>
    simp only [overK, linOf, ih]
    split <;> simp [BitVec.xor_assoc]
theorem over_xor (x y : BitVec 32) : over (x ^^^ y) = over x ^^^ over y := by
  simp only [over, overK_eq, BitVec.ushiftRight_xor_distrib, BitVec.shiftLeft_xor_distrib, linOf_xor]
  exact xor4 _ _ _ _
theorem over_zero : over 0#32 = 0#32 := by decide +kernel

/-- The other way: out of what is left the register that was divided. -/
def backTable : List (BitVec 32) := [300795636#32, 601591272#32, 1203182544#32, 2406365088#32, 1#32, 2#32, 4#32, 8#32, 16#32, 32#32, 64#32, 128#32, 256#32, 512#32, 1024#32, 2048#32, 4096#32, 8192#32, 16384#32, 32768#32, 65536#32, 131072#32, 262144#32, 524288#32, 1048576#32, 2097152#32, 4194304#32, 8388608#32, 16777216#32, 33554432#32, 67108864#32, 134217728#32]
def back (v : BitVec 32) : BitVec 32 := linOf (fun i => backTable.getD i 0#32) v 32
theorem back_xor (x y : BitVec 32) : back (x ^^^ y) = back x ^^^ back y := linOf_xor _ _ _ _
theorem back_over (v : BitVec 32) : back (over v) = v := by
  refine lin_ext (fun v => back (over v)) (fun v => v) (fun x y => ?_) (fun _ _ => rfl) ?_ v
  · simp only [over_xor, back_xor]
  · exact forall_lt_of_all (by decide +kernel)
theorem over_inj {x y : BitVec 32} (h : over x = over y) : x = y := by
  have := congrArg back h; rwa [back_over, back_over] at this

/-- A byte, turned about, at the register's upper end. -/
def rv (c : BitVec 8) : BitVec 32 := linOf (fun i => BitVec.twoPow 32 (31 - i)) c 8
theorem rv_xor (x y : BitVec 8) : rv (x ^^^ y) = rv x ^^^ rv y := linOf_xor _ _ _ _
theorem rv_table (c : UInt8) : (Lib.rev8 (c.toNat : Int)) * (16777216 : Int) % (4294967296 : Int) = i32 (rv c.toBitVec) := by
  have h : ∀ i, i < 256 → (Lib.rev8 ((UInt8.ofNat i).toNat : Int)) * (16777216 : Int) % (4294967296 : Int) = i32 (rv (UInt8.ofNat i).toBitVec) := forall_lt_of_all (by decide +kernel)
  have := h c.toNat c.toNat_lt
  rwa [UInt8.ofNat_toNat] at this

def overN : Nat → BitVec 32 → BitVec 32
  | 0, v => v
  | k + 1, v => over (overN k v)
/-- A byte is put into the register. -/
def into (v : BitVec 32) (c : UInt8) : BitVec 32 := over (over (v ^^^ rv c.toBitVec))
theorem into_xor (x y : BitVec 32) (c d : UInt8) : into (x ^^^ y) (c ^^^ d) = into x c ^^^ into y d := by
  simp only [into, UInt8.toBitVec_xor, rv_xor]
  rw [xor4 x y, over_xor, over_xor]
theorem into_inj {x y : BitVec 32} {c : UInt8} (h : into x c = into y c) : x = y := by
  have := over_inj (over_inj h)
  have h2 := congrArg (· ^^^ rv c.toBitVec) this
  simpa [BitVec.xor_assoc] using h2

/-- The register behind bytes. -/
def reg (v : BitVec 32) (l : List UInt8) : BitVec 32 := l.foldl into v
theorem reg_append (v : BitVec 32) (l r : List UInt8) : reg v (l ++ r) = reg (reg v l) r := List.foldl_append
theorem reg_inj {x y : BitVec 32} {l : List UInt8} (h : reg x l = reg y l) : x = y := by
  induction l generalizing x y with
  | nil => exact h
  | cons c l ih => exact into_inj (ih h)
/-- With the same bytes behind, the difference of two registers goes its own way. -/
theorem reg_xor (x y : BitVec 32) (l : List UInt8) : reg (x ^^^ y) l = reg x l ^^^ reg y (l.map fun _ => 0) := by
  induction l generalizing x y with
  | nil => rfl
  | cons c l ih =>
    show reg (into (x ^^^ y) c) l = reg (into x c) l ^^^ reg (into y 0) _
    rw [← ih, ← into_xor]; congr 2; simp

/-- The register, turned about. -/
def turnStage (m : BitVec 32) (k : Nat) (v : BitVec 32) : BitVec 32 := ((v >>> k) &&& m) ||| ((v &&& m) <<< k)
def turnBytes (v : BitVec 32) : BitVec 32 :=
  let d := turnStage (BitVec.ofInt 32 16711935) 8 v
  (d >>> 16) ||| (d <<< 16)
def turn (v : BitVec 32) : BitVec 32 :=
  let a := turnStage (BitVec.ofInt 32 1431655765) 1 v
  let b := turnStage (BitVec.ofInt 32 858993459) 2 a
  let c := turnStage (BitVec.ofInt 32 252645135) 4 b
  turnBytes c
theorem or_is_xor {n : Nat} (a b : BitVec n) (h : a &&& b = 0#n) : a ||| b = a ^^^ b := by
  apply BitVec.eq_of_getLsbD_eq
  intro i hi
  have := congrArg (fun z => BitVec.getLsbD z i) h
  simp only [BitVec.getLsbD_and, BitVec.getLsbD_or, BitVec.getLsbD_xor] at this ⊢
  cases ha : a.getLsbD i <;> cases hb : b.getLsbD i <;> simp_all
theorem turnStage_eq (m : BitVec 32) (k : Nat) (hm : m &&& (m <<< k) = 0#32) (v : BitVec 32) : turnStage m k v = ((v >>> k) &&& m) ^^^ ((v &&& m) <<< k) := by
  unfold turnStage
  apply or_is_xor
  apply BitVec.eq_of_getLsbD_eq
  intro i hi
  have := congrArg (fun z => BitVec.getLsbD z i) hm
  simp only [BitVec.getLsbD_and, BitVec.getLsbD_shiftLeft, BitVec.getLsbD_zero] at this ⊢
  cases ha : m.getLsbD i <;> cases hb : m.getLsbD (i - k) <;> simp_all
theorem xor_and {n : Nat} (a b m : BitVec n) : (a ^^^ b) &&& m = (a &&& m) ^^^ (b &&& m) := by
  apply BitVec.eq_of_getLsbD_eq
  intro i hi
  simp only [BitVec.getLsbD_and, BitVec.getLsbD_xor]
  cases a.getLsbD i <;> cases b.getLsbD i <;> cases m.getLsbD i <;> rfl
theorem turnStage_xor (m : BitVec 32) (k : Nat) (hm : m &&& (m <<< k) = 0#32) (x y : BitVec 32) : turnStage m k (x ^^^ y) = turnStage m k x ^^^ turnStage m k y := by
  simp only [turnStage_eq m k hm, BitVec.ushiftRight_xor_distrib, xor_and, BitVec.shiftLeft_xor_distrib]
  exact xor4 _ _ _ _
theorem turn_xor (x y : BitVec 32) : turn (x ^^^ y) = turn x ^^^ turn y := by
  have h16 : ∀ d : BitVec 32, (d >>> 16) ||| (d <<< 16) = (d >>> 16) ^^^ (d <<< 16) := by
    intro d; apply or_is_xor
    apply BitVec.eq_of_getLsbD_eq
    intro i hi
    simp only [BitVec.getLsbD_and, BitVec.getLsbD_shiftLeft, BitVec.getLsbD_ushiftRight, BitVec.getLsbD_zero]
    by_cases h : i < 16
    · simp [h]
    · have : d.getLsbD (16 + i) = false := BitVec.getLsbD_of_ge _ _ (by omega)
      simp [this]
  simp only [turn, turnBytes, h16]
  rw [turnStage_xor _ 1 (by decide +kernel), turnStage_xor _ 2 (by decide +kernel), turnStage_xor _ 4 (by decide +kernel), turnStage_xor _ 8 (by decide +kernel),
    BitVec.ushiftRight_xor_distrib, BitVec.shiftLeft_xor_distrib]
  exact xor4 _ _ _ _
theorem turn_turn (v : BitVec 32) : turn (turn v) = v := by
  refine lin_ext (fun v => turn (turn v)) (fun v => v) (fun x y => ?_) (fun _ _ => rfl) ?_ v
  · simp only [turn_xor]
  · exact forall_lt_of_all (by decide +kernel)
theorem turn_inj {x y : BitVec 32} (h : turn x = turn y) : x = y := by
  have := congrArg turn h; rwa [turn_turn, turn_turn] at this

def step (r : BitVec 32) (c : UInt8) : BitVec 32 := turn (into (turn r) c)
def ones : BitVec 32 := 4294967295#32
def sum (l : List UInt8) : BitVec 32 := turn (reg ones l ^^^ ones)
theorem sum_eq_iff (a b : List UInt8) : sum a = sum b ↔ reg ones a = reg ones b := by
  constructor
  · intro h
    have := turn_inj h
    have h2 := congrArg (· ^^^ ones) this
    simpa [BitVec.xor_assoc] using h2
  · intro h; unfold sum; rw [h]
/-- The divisor's coefficients, the highest first. -/
def P : BitVec 40 := BitVec.ofNat 40 ((List.range 33).foldl (fun n k => if k == 0 || 517762881 / 2 ^ (32 - k) % 2 == 1 then n + 2 ^ k else n) 0)
theorem P_bit (k : Nat) (h0 : k ≠ 0) (hk : k ≤ 32) : P.getLsbD k = Nat.testBit 517762881 (32 - k) := by
  have := forall_lt_of_all (p := fun k => k ≠ 0 → P.getLsbD k = Nat.testBit 517762881 (32 - k)) (n := 33) (by decide +kernel) k (by omega)
  exact this h0
/-- 40 cells that bear a row of bits. -/
theorem xor_bne (a b : Bool) : (a ^^ b) = !(a == b) := by cases a <;> cases b <;> rfl
def cells40 (x : BitVec 40) : Array Value := ((List.range 40).map fun i => Value.bool (x.getLsbD i)).toArray
theorem cells40_zero : (#[Value.bool false, Value.bool false, Value.bool false, Value.bool false, Value.bool false, Value.bool false, Value.bool false, Value.bool false, Value.bool false, Value.bool false, Value.bool false, Value.bool false, Value.bool false, Value.bool false, Value.bool false, Value.bool false, Value.bool false, Value.bool false, Value.bool false, Value.bool false, Value.bool false, Value.bool false, Value.bool false, Value.bool false, Value.bool false, Value.bool false, Value.bool false, Value.bool false, Value.bool false, Value.bool false, Value.bool false, Value.bool false, Value.bool false, Value.bool false, Value.bool false, Value.bool false, Value.bool false, Value.bool false, Value.bool false, Value.bool false] : Array Value) = cells40 0#40 := by rfl
theorem cells40_at (x : BitVec 40) (k : Nat) (hk : k < 40) : (cells40 x)[k]? = some (.bool (x.getLsbD k)) := by
  simp [cells40, hk]
theorem cells40_size (x : BitVec 40) : (cells40 x).size = 40 := by simp [cells40]
theorem cells40_set (x y : BitVec 40) (k : Nat) (b : Bool) (hk : k < 40) (h : ∀ j, j < 40 → y.getLsbD j = if j = k then b else x.getLsbD j) : (cells40 x).setIfInBounds k (.bool b) = cells40 y := by
  apply Array.ext_getElem?
  intro j
  rw [Array.getElem?_setIfInBounds]
  by_cases hj : j < 40
  · rw [cells40_at y j hj, cells40_at x j hj, h j hj, cells40_size]
    by_cases e : k = j
    · subst e; simp [hj]
    · rw [if_neg e, if_neg (fun x => e x.symm)]
  · have e : ¬ k = j := by omega
    rw [if_neg e, Array.getElem?_eq_none (by rw [cells40_size]; omega), Array.getElem?_eq_none (by rw [cells40_size]; omega)]
/-- The row behind k rounds of the first loop, of the second one. -/
def row1 (r : BitVec 32) (k : Nat) : BitVec 40 := low (r.setWidth 40) k
def row2 (r : BitVec 32) (c : UInt8) (k : Nat) : BitVec 40 := r.setWidth 40 ^^^ low (c.toBitVec.setWidth 40) k
theorem row1_step (r : BitVec 32) (k : Nat) (hk : k < 32) : (cells40 (row1 r k)).setIfInBounds k (.bool (r.getLsbD k)) = cells40 (row1 r (k + 1)) := by
  refine cells40_set _ _ _ _ (by omega) fun j hj => ?_
  unfold row1
  rw [low_bit _ _ _ hj, low_bit _ _ _ hj]
  by_cases e : j = k
  · subst e; simp; omega
  · rw [if_neg e]
    have : decide (j < k + 1) = decide (j < k) := by simp; omega
    rw [this]
theorem row1_all (r : BitVec 32) (c : UInt8) : row1 r 32 = row2 r c 0 := by
  unfold row1 row2
  apply BitVec.eq_of_getLsbD_eq
  intro i hi
  rw [low_bit _ _ _ hi]
  by_cases h : i < 32
  · simp [low, h]
  · have : r.getLsbD i = false := BitVec.getLsbD_of_ge _ _ (by omega)
    simp [low, this]
theorem row2_step (r : BitVec 32) (c : UInt8) (k : Nat) (hk : k < 8) : (cells40 (row2 r c k)).setIfInBounds k (.bool (!((row2 r c k).getLsbD k == c.toBitVec.getLsbD k))) = cells40 (row2 r c (k + 1)) := by
  refine cells40_set _ _ _ _ (by omega) fun j hj => ?_
  unfold row2
  simp only [BitVec.getLsbD_xor]
  rw [low_bit _ _ _ hj, low_bit _ _ _ hj]
  by_cases e : j = k
  · subst e
    rw [if_pos rfl, low_bit _ _ _ hj]
    simp only [Nat.lt_irrefl, decide_false, Bool.false_and, Bool.xor_false, Nat.lt_succ_self, decide_true, Bool.true_and]
    exact xor_bne _ _
  · rw [if_neg e]
    have : decide (j < k + 1) = decide (j < k) := by simp; omega
    rw [this]
/-- One round of the division; the inner loop's rounds. -/
def div1 (x : BitVec 40) (i : Nat) (k : Nat) : BitVec 40 := x ^^^ (low P k <<< i)
theorem div1_step (x : BitVec 40) (i k : Nat) (hi : i < 8) (hk : k ≤ 32) : (cells40 (div1 x i k)).setIfInBounds (i + k) (.bool (!((div1 x i k).getLsbD (i + k) == P.getLsbD k))) = cells40 (div1 x i (k + 1)) := by
  refine cells40_set _ _ _ _ (by omega) fun j hj => ?_
  unfold div1
  simp only [BitVec.getLsbD_xor, BitVec.getLsbD_shiftLeft]
  by_cases hji : j < i
  · have : ¬ j = i + k := by omega
    simp [hji, this]
  · rw [low_bit _ _ (j - i) (by omega), low_bit _ _ (j - i) (by omega)]
    by_cases e : j = i + k
    · subst e
      rw [if_pos rfl, low_bit _ _ _ (by omega)]
      have e1 : i + k - i = k := by omega
      have e2 : decide (i + k < i) = false := by simp
      have e3 : decide (i + k < 40) = true := by simp; omega
      simp only [e1, e2, e3, Nat.lt_irrefl, decide_false, Bool.false_and, Bool.and_false, Bool.xor_false, Nat.lt_succ_self, decide_true, Bool.true_and, Bool.not_false]
      exact xor_bne _ _
    · rw [if_neg e]
      have : decide (j - i < k + 1) = decide (j - i < k) := by simp; omega
      rw [this]
theorem div1_zero (x : BitVec 40) (i : Nat) : div1 x i 0 = x := by simp [div1, low]
theorem div1_all (x : BitVec 40) (i : Nat) : div1 x i 33 = x ^^^ (P <<< i) := by
  have : low P 33 = P := by decide +kernel
  simp [div1, this]
def divN (x : BitVec 40) : Nat → BitVec 40
  | 0 => x
  | i + 1 => if (divN x i).getLsbD i = true then divN x i ^^^ (P <<< i) else divN x i
/-- What is left, as the document says. -/
def refStep (r : BitVec 32) (c : UInt8) : BitVec 32 := (divN (row2 r c 8) 8 >>> 8).setWidth 32
/-- What the last loop has put together. -/
def outN (x : BitVec 32) : Nat → BitVec 32
  | 0 => 0#32
  | k + 1 => if x.getLsbD k = true then outN x k + (1#32 <<< k) else outN x k
theorem outN_low (x : BitVec 32) (k : Nat) (hk : k ≤ 32) : outN x k = low x k := by
  induction k with
  | zero => rfl
  | succ k ih =>
    simp only [outN, low, ih (by omega)]
    split
    · have e : (1#32 <<< k) = BitVec.twoPow 32 k := (BitVec.twoPow_eq 32 k).symm
      rw [e]
      have hz : low x k &&& BitVec.twoPow 32 k = 0#32 := by
        apply BitVec.eq_of_getLsbD_eq
        intro i hi
        rw [BitVec.getLsbD_and, low_bit _ _ _ hi, BitVec.getLsbD_twoPow]
        by_cases h : k = i
        · subst h; simp
        · simp [h]
      rw [BitVec.add_eq_or_of_and_eq_zero _ _ hz, or_is_xor _ _ hz]
    · simp
theorem outN_all (x : BitVec 32) : outN x 32 = x := by rw [outN_low x 32 (by omega), low_all]
/-- The document's Sum: a bit at a time. -/
def refBit (v : BitVec 32) (b : Bool) : BitVec 32 := if (v.getLsbD 31 ^^ b) = true then (v <<< 1) ^^^ D else v <<< 1
def refBits (v : BitVec 32) (c : UInt8) : Nat → BitVec 32
  | 0 => v
  | k + 1 => refBit (refBits v c k) (c.toBitVec.getLsbD k)
def refReg (l : List UInt8) : BitVec 32 := l.foldl (fun v c => refBits v c 8) ones
theorem refReg_snoc (l : List UInt8) (c : UInt8) : refReg (l ++ [c]) = refBits (refReg l) c 8 := by simp [refReg]
def outR (v : BitVec 32) : Nat → BitVec 32
  | 0 => 0#32
  | k + 1 => if v.getLsbD (31 - k) = false then outR v k + (1#32 <<< k) else outR v k
def refSum (l : List UInt8) : BitVec 32 := outR (refReg l) 32

theorem turned_bit (x : BitVec 32) (k : Nat) (hk : k ≤ 32) (j : Nat) (hj : j < 32) : (linOf (fun i => BitVec.twoPow 32 (31 - i)) x k).getLsbD j = (decide (31 - j < k) && x.getLsbD (31 - j)) := by
  induction k with
  | zero => simp [linOf]
  | succ k ih =>
    simp only [linOf, BitVec.getLsbD_xor, ih (by omega)]
    by_cases hb : x.getLsbD k = true
    · rw [if_pos hb, BitVec.getLsbD_twoPow]
      by_cases e : j = 31 - k
      · have e2 : 31 - j = k := by omega
        have e3 : decide (31 - k = j) = true := by simp; omega
        simp [e2, hb, e3]; omega
      · have e3 : decide (31 - k = j) = false := by simp; omega
        have e4 : decide (31 - j < k + 1) = decide (31 - j < k) := by simp; omega
        simp [e3, e4]
    · rw [if_neg hb]
      by_cases e : 31 - j = k
      · simp [e, hb]
      · have e4 : decide (31 - j < k + 1) = decide (31 - j < k) := by simp; omega
        simp [e4]
theorem turn_lin (x : BitVec 32) : turn x = linOf (fun i => BitVec.twoPow 32 (31 - i)) x 32 :=
  lin_ext turn (fun x => linOf (fun i => BitVec.twoPow 32 (31 - i)) x 32) turn_xor (fun x y => linOf_xor _ x y 32) (forall_lt_of_all (by decide +kernel)) x
theorem turn_bit (x : BitVec 32) (j : Nat) (hj : j < 32) : (turn x).getLsbD j = x.getLsbD (31 - j) := by
  rw [turn_lin, turned_bit x 32 (Nat.le_refl _) j hj]
  have : decide (31 - j < 32) = true := by simp; omega
  simp [this]
theorem ones_bit (j : Nat) (hj : j < 32) : ones.getLsbD j = true := forall_lt_of_all (p := fun j => ones.getLsbD j = true) (by decide +kernel) j hj
theorem outR_eq (v : BitVec 32) : outR v 32 = turn (v ^^^ ones) := by
  have h : ∀ k, k ≤ 32 → outR v k = outN (turn (v ^^^ ones)) k := by
    intro k
    induction k with
    | zero => intro _; rfl
    | succ k ih =>
      intro hk
      simp only [outR, outN, ih (by omega)]
      rw [turn_bit _ k (by omega), BitVec.getLsbD_xor, ones_bit _ (by omega)]
      cases v.getLsbD (31 - k) <;> rfl
  rw [h 32 (Nat.le_refl _), outN_all]

theorem refBit_xor (x y : BitVec 32) (a b : Bool) : refBit (x ^^^ y) (a ^^ b) = refBit x a ^^^ refBit y b := by
  have e : ∀ v b, refBit v b = (v <<< 1) ^^^ (if (v.getLsbD 31 ^^ b) = true then D else 0#32) := by
    intro v b; unfold refBit; split <;> simp
  have e2 : ((x ^^^ y).getLsbD 31 ^^ (a ^^ b)) = ((x.getLsbD 31 ^^ a) ^^ (y.getLsbD 31 ^^ b)) := by
    rw [BitVec.getLsbD_xor]; cases x.getLsbD 31 <;> cases y.getLsbD 31 <;> cases a <;> cases b <;> rfl
  rw [e, e x, e y, e2, ite_xor, BitVec.shiftLeft_xor_distrib]
  exact xor4 _ _ _ _
theorem refBits_xor (x y : BitVec 32) (c d : UInt8) (k : Nat) : refBits (x ^^^ y) (c ^^^ d) k = refBits x c k ^^^ refBits y d k := by
  induction k with
  | zero => rfl
  | succ k ih => simp only [refBits, ih, UInt8.toBitVec_xor, BitVec.getLsbD_xor]; exact refBit_xor _ _ _ _
/-- A register and a byte, as one. -/
def lo40 (z : BitVec 40) : BitVec 32 := z.setWidth 32
def hi40 (z : BitVec 40) : UInt8 := ⟨(z >>> 32).setWidth 8⟩
def both (v : BitVec 32) (c : UInt8) : BitVec 40 := v.setWidth 40 ||| (c.toBitVec.setWidth 40 <<< 32)
theorem lo_both (v : BitVec 32) (c : UInt8) : lo40 (both v c) = v := by
  apply BitVec.eq_of_getLsbD_eq; intro i hi
  simp [lo40, both, hi]
theorem hi_both (v : BitVec 32) (c : UInt8) : hi40 (both v c) = c := by
  have : (hi40 (both v c)).toBitVec = c.toBitVec := by
    show (both v c >>> 32).setWidth 8 = c.toBitVec
    apply BitVec.eq_of_getLsbD_eq; intro i hi
    have h2 : decide (32 + i < 40) = true := by simp; omega
    have h3 : decide (i < 40) = true := by simp; omega
    simp [both, hi, h2]
    simp [h3]
  exact UInt8.toBitVec_inj.1 this
theorem lo_xor (x y : BitVec 40) : lo40 (x ^^^ y) = lo40 x ^^^ lo40 y := by
  apply BitVec.eq_of_getLsbD_eq; intro i hi; simp [lo40, hi]
theorem hi_xor (x y : BitVec 40) : hi40 (x ^^^ y) = hi40 x ^^^ hi40 y := by
  apply UInt8.toBitVec_inj.1
  apply BitVec.eq_of_getLsbD_eq; intro i hi
  simp [hi40, hi]
/-- Two ways to put a byte into the register that turn sums into sums are the same if they are so at each bit. -/
theorem pair_ext (f g : BitVec 32 → UInt8 → BitVec 32) (hf : ∀ x y c d, f (x ^^^ y) (c ^^^ d) = f x c ^^^ f y d) (hg : ∀ x y c d, g (x ^^^ y) (c ^^^ d) = g x c ^^^ g y d)
    (h : ∀ i, i < 40 → f (lo40 (BitVec.twoPow 40 i)) (hi40 (BitVec.twoPow 40 i)) = g (lo40 (BitVec.twoPow 40 i)) (hi40 (BitVec.twoPow 40 i))) (v : BitVec 32) (c : UInt8) : f v c = g v c := by
  have := lin_ext (fun z => f (lo40 z) (hi40 z)) (fun z => g (lo40 z) (hi40 z)) (fun x y => by simp only [lo_xor, hi_xor, hf]) (fun x y => by simp only [lo_xor, hi_xor, hg]) h (both v c)
  simpa only [lo_both, hi_both] using this
theorem refBits_into (v : BitVec 32) (c : UInt8) : refBits v c 8 = into v c :=
  pair_ext (fun v c => refBits v c 8) into (fun x y c d => refBits_xor x y c d 8) into_xor (forall_lt_of_all (by decide +kernel)) v c
theorem refSum_eq (l : List UInt8) : refSum l = sum l := by
  have : refReg l = reg ones l := by
    unfold refReg reg
    congr 1
    funext v c; exact refBits_into v c
  unfold refSum sum
  rw [outR_eq, this]
theorem row2_all (r : BitVec 32) (c : UInt8) : row2 r c 8 = r.setWidth 40 ^^^ c.toBitVec.setWidth 40 := by
  unfold row2
  congr 1
  apply BitVec.eq_of_getLsbD_eq; intro i hi
  rw [low_bit _ _ _ hi]
  by_cases h : i < 8
  · simp [h]
  · have : c.toBitVec.getLsbD i = false := BitVec.getLsbD_of_ge _ _ (by omega)
    simp [this]
theorem divN_xor (x y : BitVec 40) (k : Nat) : divN (x ^^^ y) k = divN x k ^^^ divN y k := by
  have e : ∀ x k, divN x (k + 1) = divN x k ^^^ (if (divN x k).getLsbD k = true then P <<< k else 0#40) := by
    intro x k; simp only [divN]; split <;> simp
  induction k with
  | zero => rfl
  | succ k ih => rw [e, e x, e y, ih, BitVec.getLsbD_xor, ite_xor]; exact xor4 _ _ _ _
theorem refStep_xor (x y : BitVec 32) (c d : UInt8) : refStep (x ^^^ y) (c ^^^ d) = refStep x c ^^^ refStep y d := by
  have e : row2 (x ^^^ y) (c ^^^ d) 8 = row2 x c 8 ^^^ row2 y d 8 := by
    simp only [row2_all, UInt8.toBitVec_xor]
    apply BitVec.eq_of_getLsbD_eq; intro i hi
    simp only [BitVec.getLsbD_xor, BitVec.getLsbD_setWidth]
    cases x.getLsbD i <;> cases y.getLsbD i <;> cases c.toBitVec.getLsbD i <;> cases d.toBitVec.getLsbD i <;> simp
  unfold refStep
  rw [e, divN_xor]
  apply BitVec.eq_of_getLsbD_eq; intro i hi
  simp [hi]
theorem step_xor (x y : BitVec 32) (c d : UInt8) : step (x ^^^ y) (c ^^^ d) = step x c ^^^ step y d := by
  simp only [step, turn_xor, into_xor]
theorem refStep_eq (r : BitVec 32) (c : UInt8) : refStep r c = step r c :=
  pair_ext refStep step refStep_xor step_xor (forall_lt_of_all (by decide +kernel)) r c
/-- The register by steps. -/
def stepReg (l : List UInt8) : BitVec 32 := l.foldl step ones
theorem stepReg_snoc (l : List UInt8) (c : UInt8) : stepReg (l ++ [c]) = step (stepReg l) c := by simp [stepReg]
theorem turn_ones : turn ones = ones := by decide +kernel
theorem stepReg_eq (l : List UInt8) : stepReg l = turn (reg ones l) := by
  have h : ∀ (l : List UInt8) (v : BitVec 32), l.foldl step (turn v) = turn (reg v l) := by
    intro l
    induction l with
    | nil => intro v; rfl
    | cons c l ih => intro v; show l.foldl step (step (turn v) c) = turn (reg (into v c) l); rw [← ih, step, turn_turn]
  have := h l ones
  rwa [turn_ones] at this
theorem sum_stepReg (l : List UInt8) : stepReg l ^^^ ones = sum l := by
  rw [stepReg_eq, sum, turn_xor, turn_ones]
/-- A number's four bytes, the lowest first. -/
def byte (n : BitVec 32) : UInt8 := ⟨n.setWidth 8⟩
def sh (n : BitVec 32) : Nat → BitVec 32
  | 0 => n
  | k + 1 => sh n k >>> 8
def leK (n : BitVec 32) : Nat → List UInt8
  | 0 => []
  | k + 1 => leK n k ++ [byte (sh n k)]
theorem leK_length (n : BitVec 32) (k : Nat) : (leK n k).length = k := by
  induction k with
  | zero => rfl
  | succ k ih => simp [leK, ih]
theorem byte_eq (n : BitVec 32) : ((byte n).toNat : Int) = i32 n % (256 : Int) := by
  show ((n.setWidth 8).toNat : Int) = i32 n % (256 : Int)
  unfold i32
  rw [BitVec.toNat_setWidth]; rfl
/-- The register behind a number's four bytes. -/
def reg4 (v n : BitVec 32) : BitVec 32 := reg v (leK n 4)
theorem reg4_eq (v n : BitVec 32) : reg4 v n = into (into (into (into v (byte n)) (byte (n >>> 8))) (byte (n >>> 8 >>> 8))) (byte (n >>> 8 >>> 8 >>> 8)) := rfl
theorem byte_xor (x y : BitVec 32) : byte (x ^^^ y) = byte x ^^^ byte y := by
  apply UInt8.toBitVec_inj.1
  apply BitVec.eq_of_getLsbD_eq; intro i hi
  simp [byte, hi]
theorem reg4_xor (x y m n : BitVec 32) : reg4 (x ^^^ y) (m ^^^ n) = reg4 x m ^^^ reg4 y n := by
  simp only [reg4_eq, BitVec.ushiftRight_xor_distrib, byte_xor, into_xor]
/-- A register with its own four bytes behind it leaves nothing. -/
theorem reg4_own (v : BitVec 32) : reg4 v (turn v) = 0#32 :=
  lin_ext (fun v => reg4 v (turn v)) (fun _ => 0#32) (fun x y => by simp only [turn_xor, reg4_xor]) (fun _ _ => by simp) (forall_lt_of_all (by decide +kernel)) v
/-- The same bytes with two numbers behind them. -/
theorem reg4_inj {v m n : BitVec 32} (h : reg4 v m = reg4 v n) : m = n := by
  have e1 : reg4 v m = reg4 (v ^^^ turn m) 0#32 := by
    have := reg4_xor v (turn m) m m
    rw [BitVec.xor_self, show reg4 (turn m) m = 0#32 by have := reg4_own (turn m); rwa [turn_turn] at this] at this
    simpa using this.symm
  have e2 : reg4 v n = reg4 (v ^^^ turn n) 0#32 := by
    have := reg4_xor v (turn n) n n
    rw [BitVec.xor_self, show reg4 (turn n) n = 0#32 by have := reg4_own (turn n); rwa [turn_turn] at this] at this
    simpa using this.symm
  rw [e1, e2] at h
  have h2 : v ^^^ turn m = v ^^^ turn n := into_inj (into_inj (into_inj (into_inj h)))
  have h3 := congrArg (v ^^^ ·) h2
  simp only [xor_cancel] at h3
  exact turn_inj h3
theorem residue : turn (reg4 0#32 (turn ones) ^^^ ones) = 1214729159#32 := by decide +kernel
/-- Any bytes with their Sum behind them have one and the same Sum; with another number they have another one. -/
theorem sum_behind (l : List UInt8) (n : BitVec 32) : (sum (l ++ leK n 4) = 1214729159#32) ↔ n = sum l := by
  have hown : reg4 (reg ones l) (sum l) = reg4 0#32 (turn ones) := by
    have := reg4_xor (reg ones l) 0#32 (turn (reg ones l)) (turn ones)
    rw [reg4_own] at this
    simpa [sum, turn_xor] using this
  have hs : sum (l ++ leK n 4) = turn (reg4 (reg ones l) n ^^^ ones) := by rw [sum, reg_append]; rfl
  rw [hs, ← residue]
  constructor
  · intro h
    have h2 := congrArg (· ^^^ ones) (turn_inj h)
    simp only [BitVec.xor_assoc, BitVec.xor_self, BitVec.xor_zero] at h2
    rw [← hown] at h2
    exact reg4_inj h2
  · rintro rfl; rw [hown]
/-- Rows that end alike. -/
theorem sum_ends (a b e : List UInt8) : (sum (a ++ e) = sum (b ++ e)) ↔ (sum a = sum b) := by
  rw [sum_eq_iff, sum_eq_iff, reg_append, reg_append]
  exact ⟨reg_inj, fun h => by rw [h]⟩
/-- Four bytes that differ. -/
theorem sum_amid (a e : List UInt8) (m n : BitVec 32) : (sum (a ++ leK m 4 ++ e) = sum (a ++ leK n 4 ++ e)) ↔ m = n := by
  rw [sum_ends, sum_eq_iff, reg_append, reg_append]
  exact ⟨reg4_inj, fun h => by rw [h]⟩
/-- A byte that is turned. -/
theorem reg_set (v : BitVec 32) (a z : List UInt8) (c d : UInt8) : reg v (a ++ c :: z) ^^^ reg v (a ++ (c ^^^ d) :: z) = reg (into 0#32 d) (z.map fun _ => 0) := by
  have e : ∀ c, reg v (a ++ c :: z) = reg (into (reg v a) c) z := by intro c; rw [reg_append]; rfl
  rw [e, e, show into (reg v a) (c ^^^ d) = into (reg v a) c ^^^ into 0#32 d by rw [← into_xor]; simp, reg_xor]
  exact xor_cancel _ _
theorem reg_zero (l : List UInt8) (h : ∀ c ∈ l, c = 0) : reg 0#32 l = 0#32 := by
  induction l with
  | nil => rfl
  | cons c l ih =>
    have hc : c = 0 := h c (by simp)
    subst hc
    show reg (into 0#32 0) l = 0#32
    rw [show into 0#32 0 = 0#32 by decide +kernel]
    exact ih fun c hc => h c (by simp [hc])
theorem rv_ne {d : UInt8} (h : d ≠ 0) : into 0#32 d ≠ 0#32 := by
  intro e
  have h2 : into 0#32 d = into 0#32 0 := by rw [e]; decide +kernel
  have h3 := over_inj (over_inj h2)
  simp only [BitVec.zero_xor] at h3
  have : ∀ i, i < 256 → rv (UInt8.ofNat i).toBitVec = rv (0 : UInt8).toBitVec → UInt8.ofNat i = 0 := forall_lt_of_all (p := fun i => rv (UInt8.ofNat i).toBitVec = rv (0 : UInt8).toBitVec → UInt8.ofNat i = 0) (by decide +kernel)
  have h4 := this d.toNat d.toNat_lt
  rw [UInt8.ofNat_toNat] at h4
  exact h (h4 h3)
theorem sum_turned (a z : List UInt8) (c d : UInt8) : sum (a ++ c :: z) ^^^ sum (a ++ (c ^^^ d) :: z) = turn (reg (into 0#32 d) (z.map fun _ => 0)) := by
  unfold sum
  rw [← turn_xor, xor4, BitVec.xor_self, BitVec.xor_zero, reg_set]
theorem turned_set (l : List UInt8) (k : Nat) (d : UInt8) (hk : k < l.length) : sum l ^^^ sum (l.set k (l[k] ^^^ d)) = turn (reg (into 0#32 d) (List.replicate (l.length - (k + 1)) 0)) := by
  have e1 : l = l.take k ++ l[k] :: l.drop (k + 1) := by
    conv => lhs; rw [← List.take_append_drop k l, List.drop_eq_getElem_cons hk]
  have e2 : l.set k (l[k] ^^^ d) = l.take k ++ (l[k] ^^^ d) :: l.drop (k + 1) := by
    rw [List.set_eq_take_append_cons_drop, if_pos hk]
  rw [e2]
  conv => lhs; arg 1; rw [e1]
  rw [sum_turned, List.map_const', List.length_drop]
theorem xor_bit (c bit : UInt8) : bits .xor .u8 (c.toNat : Int) (2 ^ (bit.toNat % 8) % (256 : Int)) = ((c ^^^ UInt8.ofNat (2 ^ (bit.toNat % 8))).toNat : Int) := by
  have hlt : 2 ^ (bit.toNat % 8) < 2 ^ 8 := Nat.pow_lt_pow_right (by decide) (Nat.mod_lt _ (by decide))
  have e : (2 : Int) ^ (bit.toNat % 8) % (256 : Int) = ((2 ^ (bit.toNat % 8) : Nat) : Int) := by
    have : (2 : Int) ^ (bit.toNat % 8) = ((2 ^ (bit.toNat % 8) : Nat) : Int) := by simp
    rw [this]; generalize (2 ^ (bit.toNat % 8) : Nat) = q at *; omega
  rw [e, u8_xor_nat _ _ c.toNat_lt hlt, UInt8.toNat_xor, UInt8.toNat_ofNat', Nat.mod_eq_of_lt hlt]
theorem bit_ne (bit : UInt8) : UInt8.ofNat (2 ^ (bit.toNat % 8)) ≠ 0 := by
  have : ∀ k, k < 8 → UInt8.ofNat (2 ^ k) ≠ 0 := forall_lt_of_all (p := fun k => UInt8.ofNat (2 ^ k) ≠ 0) (by decide +kernel)
  exact this _ (Nat.mod_lt _ (by decide))
theorem sum_turned_ne (n : Nat) {d : UInt8} (h : d ≠ 0) : turn (reg (into 0#32 d) (List.replicate n 0)) ≠ 0#32 := by
  intro e
  have h2 : turn (reg (into 0#32 d) (List.replicate n 0)) = turn (reg 0#32 (List.replicate n 0)) := by
    rw [e, reg_zero _ (by simp), show turn 0#32 = 0#32 by decide +kernel]
  exact rv_ne h (reg_inj (turn_inj h2))
end Go.Proofs.Ytlmcmcafbepjmaa.Crc
