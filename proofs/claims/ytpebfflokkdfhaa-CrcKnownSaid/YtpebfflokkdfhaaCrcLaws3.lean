/- The walk of the law of chapter 1 on a bit that is turned. -/
import Derived.Test.YtpebfflokkdfhaaCrcLaws2
namespace Go.Proofs.Ytpebfflokkdfhaa.CrcW
open Go.RowKit Bv Crc Mem
set_option linter.unusedVariables false

def turnedLong (n n' : Nat) (m : Nat) : Prop := (500 : Int) < (n : Int) ∨ (n : Int) ≤ 500 ∧ (500 : Int) < (n' : Int) ∨ (n : Int) ≤ 500 ∧ (n' : Int) ≤ 500 ∧ (n : Int) < (m : Int) + 1 ∨ (n : Int) ≤ 500 ∧ (n' : Int) ≤ 500 ∧ (m : Int) + 1 ≤ (n : Int) ∧ (n' : Int) < (m : Int) + 1
set_option maxHeartbeats 1000000 in
theorem turned_long (w : World) (A : Option Addr) (n c : Nat) (A' : Option Addr) (n' c' : Nat) (bit : UInt8) (m : Nat) (hm : (m : Int) ≤ 65535) (h : turnedLong n n' m) :
    Calls Try.prog 7 #[.slice A n c, .slice A' n' c', .int .u8 (bit.toNat : Int), .int .u16 (m : Int)] w fun e w' => e = .returned (.bool true) ∧ Below w.heap.size w w' := by
  rcases h with h | ⟨h1, h⟩ | ⟨h1, h2, h⟩ | ⟨h1, h2, h3, h⟩ <;>
  · go_enter Try.func7, Try.ntmps7
    go_wp2_with fail
    refine (works_any _).mono ?_
    rintro e w1 ⟨rfl, hb1⟩
    go_wp2_with fail
    go_ret
    exact ⟨rfl, hb1⟩

set_option maxHeartbeats 1000000 in
theorem turned_any (w : World) (A : Option Addr) (a : List UInt8) (c : Nat) (hle : a.length ≤ c) (hmx : c ≤ maxLen) (hA : Bytes w w.heap.size A a)
    (A' : Option Addr) (b : List UInt8) (c' : Nat) (hle' : b.length ≤ c') (hmx' : c' ≤ maxLen) (hA' : Bytes w w.heap.size A' b) (bit : UInt8) (bh : Int) (hbh : 0 ≤ bh ∧ bh ≤ 65535) :
    Calls Try.prog 7 #[.slice A a.length c, .slice A' b.length c', .int .u8 (bit.toNat : Int), .int .u16 bh] w fun e w' => e = .returned (.bool true) ∧ Below w.heap.size w w' := by
  clear hle hmx hle' hmx'
  obtain ⟨m, rfl⟩ := Int.eq_ofNat_of_zero_le hbh.1
  obtain ⟨_, hm⟩ := hbh
  obtain ⟨i0, hi0, hz0, hz1, hz2⟩ := info_parts u8info
  by_cases hl : turnedLong a.length b.length m
  · exact turned_long w A _ c A' _ c' bit m hm hl
  · have h1 : (a.length : Int) ≤ 500 := by unfold turnedLong at hl; omega
    have h2 : (b.length : Int) ≤ 500 := by unfold turnedLong at hl; omega
    have h3 : (m : Int) + 1 ≤ (a.length : Int) := by unfold turnedLong at hl; omega
    have h4 : (m : Int) + 1 ≤ (b.length : Int) := by unfold turnedLong at hl; omega
    clear hl
    go_enter Try.func7, Try.ntmps7
    go_wp2_with (first
      | ((with_reducible show wpList _ _ _ ((⟨some 39, _, _, _, _, _⟩ : Oper) :: _) _ _); refine wpList_app _ rfl _ _ _ rfl w.heap.size 5 i0 _ 1 Try.underlying26 hi0 hz0 hz1 hz2 rfl _ 0 0 [] rfl rfl (own_made w #[] _ (by simp) (Nat.le_refl _)) w.heap.size A c a.length (a.map u8v) rfl (by simp) (hA.below ((Below.refl _ _).alloc (Nat.le_refl _) _)) u8v_one (by simp [maxLen]; omega) (by simp; omega) (by simp) a.length (by simp) ?_; intro A1 c1 w1 ho1 hb1 _ _)
      | ((with_reducible show wpList _ _ _ ((⟨some 42, _, _, _, _, _⟩ : Oper) :: _) _ _); refine wpList_app _ rfl _ _ _ rfl w1.heap.size 5 i0 _ 1 Try.underlying26 hi0 hz0 hz1 hz2 rfl _ 0 0 [] rfl rfl (own_made w1 #[] _ (by simp) (Nat.le_refl _)) w.heap.size A' c' b.length (b.map u8v) rfl (by simp) (hA'.below ((((Below.refl w.heap.size w).alloc (Nat.le_refl _) _).trans hb1).alloc (((Below.refl w.heap.size w).alloc (Nat.le_refl _) _).trans hb1).size _)) u8v_one (by simp [maxLen]; omega) (by simp; omega) (by simp) b.length (by simp) ?_; intro A2 c2 w2 ho2 hb2 _ _))
    have hb01 : Below w.heap.size w w1 := ((Below.refl w.heap.size w).alloc (Nat.le_refl _) _).trans hb1
    have hb12 : Below w1.heap.size w1 w2 := ((Below.refl _ _).alloc (Nat.le_refl _) _).trans hb2
    have hx : Own w2 w.heap.size 5 A1 c1 (a.map u8v) := ho1.keep hb12
    have hy : Own w2 w1.heap.size 5 A2 c2 (b.map u8v) := ho2
    have hb02 := next hb01 hb12
    have hka : a.length - (m + 1) < (a.map u8v).length := by simp; omega
    have hkb : b.length - (m + 1) < (b.map u8v).length := by simp; omega
    obtain ⟨g1, rfl, hg1, hs1, hc1, hf1, hu1⟩ := hx.at_ hka
    obtain ⟨g2, rfl, hg2, hs2, hc2, hf2, hu2⟩ := hy.at_ hkb
    have hne : g1 ≠ g2 := by
      obtain ⟨_, hq, _, hq2, _⟩ := ho1.at_ (k := a.length - (m + 1)) hka
      injection hq with hq
      injection hq with hq
      omega
    simp only [List.getElem_map, u8v] at hc1 hc2
    have hs01 := hb01.size
    clear ho1 ho2 hb1 hb2 hb12 hb01
    have HU1 := Lib.hid hu1
    clear hu1 hu2
    have hi1 : (0 : Int) ≤ (a.length : Int) - ((m : Int) + 1) := by omega
    have hi2 : (a.length : Int) - ((m : Int) + 1) < (a.length : Int) := by omega
    have hi3 : (0 : Int) ≤ (b.length : Int) - ((m : Int) + 1) := by omega
    have hi4 : (b.length : Int) - ((m : Int) + 1) < (b.length : Int) := by omega
    go_simp
    go_bits
    go_wp2_with fail
    rw [xor_bit, xor_bit]
    have HT1 := Lib.hid (turned_set a (a.length - (m + 1)) (UInt8.ofNat (2 ^ (bit.toNat % 8))) (by omega))
    have HT2 := Lib.hid (turned_set b (b.length - (m + 1)) (UInt8.ofNat (2 ^ (bit.toNat % 8))) (by omega))
    have HNE := Lib.hid (sum_turned_ne (a.length - (a.length - (m + 1) + 1)) (bit_ne bit))
    generalize UInt8.ofNat (2 ^ (bit.toNat % 8)) = d at *
    have hx3 := (HU1.out (.int .u8 ((a[a.length - (m + 1)] ^^^ d).toNat : Int))).set_far (p := ⟨g2, b.length - (m + 1), none⟩) (u := .int .u8 ((b[b.length - (m + 1)] ^^^ d).toNat : Int)) (fun g hg => by injection hg with hg; injection hg with hg; subst hg; exact fun e => hne e.symm)
    obtain ⟨g2', hq, _, _, _, _, hu2⟩ := (hy.set_far (p := ⟨g1, a.length - (m + 1), none⟩) (u := .int .u8 ((a[a.length - (m + 1)] ^^^ d).toNat : Int)) (fun g hg => by injection hg with hg; injection hg with hg; subst hg; exact hne)).at_ hkb
    injection hq with hq
    injection hq with hq
    subst hq
    have hy3 := hu2 (.int .u8 ((b[b.length - (m + 1)] ^^^ d).toNat : Int))
    have hb03 := (hb02.setCell (p := ⟨g1, a.length - (m + 1), none⟩) hg1 (.int .u8 ((a[a.length - (m + 1)] ^^^ d).toNat : Int))).setCell (p := ⟨g2, b.length - (m + 1), none⟩) (Nat.le_trans hs01 hg2) (.int .u8 ((b[b.length - (m + 1)] ^^^ d).toNat : Int))
    clear hu2 hc1 hc2 hf1 hf2 hx hy hb02
    generalize (w2.setCell ⟨g1, a.length - (m + 1), none⟩ (.int .u8 ((a[a.length - (m + 1)] ^^^ d).toNat : Int))).setCell ⟨g2, b.length - (m + 1), none⟩ (.int .u8 ((b[b.length - (m + 1)] ^^^ d).toNat : Int)) = w3 at *
    have ex : (a.map u8v).set (a.length - (m + 1)) (.int .u8 ((a[a.length - (m + 1)] ^^^ d).toNat : Int)) = (a.set (a.length - (m + 1)) (a[a.length - (m + 1)] ^^^ d)).map u8v := by rw [List.map_set]; rfl
    have ey : (b.map u8v).set (b.length - (m + 1)) (.int .u8 ((b[b.length - (m + 1)] ^^^ d).toNat : Int)) = (b.set (b.length - (m + 1)) (b[b.length - (m + 1)] ^^^ d)).map u8v := by rw [List.map_set]; rfl
    rw [ex] at hx3
    rw [ey] at hy3
    clear ex ey hi1 hi2 hi3 hi4
    refine (sum_any A a c _ (by unfold maxLen; omega) ((hA.below hb03).up hb03.size)).mono ?_
    rintro e w4 ⟨rfl, hb4⟩
    have hb04 := next hb03 hb4
    have hx4 := hx3.keep hb4
    have hy4 := hy3.keep hb4
    clear hx3 hy3
    go_wp2_with fail
    refine (sum_n _ (a.set (a.length - (m + 1)) (a[a.length - (m + 1)] ^^^ d)) _ c1 _ (by simp) (by unfold maxLen; omega) hx4.bytes).mono ?_
    rintro e w5 ⟨rfl, hb5⟩
    have hb05 := next hb04 hb5
    have hy5 := hy4.keep hb5
    generalize Crc.sum (a.set (a.length - (m + 1)) (a[a.length - (m + 1)] ^^^ d)) = X at *
    clear hx4 hy4
    go_wp2_with fail
    refine (sum_any A' b c' _ (by unfold maxLen; omega) ((hA'.below hb05).up hb05.size)).mono ?_
    rintro e w6 ⟨rfl, hb6⟩
    have hb06 := next hb05 hb6
    have hy6 := hy5.keep hb6
    clear hy5
    go_wp2_with fail
    refine (sum_n _ (b.set (b.length - (m + 1)) (b[b.length - (m + 1)] ^^^ d)) _ c2 _ (by simp) (by unfold maxLen; omega) hy6.bytes).mono ?_
    rintro e w7 ⟨rfl, hb7⟩
    have hb07 := next hb06 hb7
    generalize Crc.sum (b.set (b.length - (m + 1)) (b[b.length - (m + 1)] ^^^ d)) = Y at *
    have hlen : b.length - (b.length - (m + 1) + 1) = a.length - (a.length - (m + 1) + 1) := by omega
    have ht2 : bits .xor .u32 (i32 (Crc.sum b)) (i32 Y) = bits .xor .u32 (i32 (Crc.sum a)) (i32 X) := by
      rw [xor32, xor32, ofInt_i32, ofInt_i32, ofInt_i32, ofInt_i32, HT1.out, HT2.out, hlen]
    have ht3 : (bits .xor .u32 (i32 (Crc.sum a)) (i32 X) != 0) = true := by
      rw [xor32, ofInt_i32, ofInt_i32, HT1.out, bne_iff_ne]
      exact fun e => HNE.out (i32_inj (e.trans rfl))
    clear hlen hb4 hb5 hb6 hb7 hb03 hb04 hb05 hb06 hy6
    go_wp2_with fail
    clear ht2 ht3
    refine (works_any _).mono ?_
    rintro e w9 ⟨rfl, hb9⟩
    go_wp2_with fail
    go_ret
    exact ⟨rfl, next hb07 hb9⟩
end Go.Proofs.Ytpebfflokkdfhaa.CrcW
