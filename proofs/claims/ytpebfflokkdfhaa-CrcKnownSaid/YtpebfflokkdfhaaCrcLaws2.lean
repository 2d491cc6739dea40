/- The walks of the laws of chapter 1 that put bytes together. -/
import Derived.Test.YtpebfflokkdfhaaCrcLaws
namespace Go.Proofs.Ytpebfflokkdfhaa.CrcW
open Go.RowKit Bv Crc Mem
set_option linter.unusedVariables false

theorem u8info : (Try.prog.info? 5).map (fun i => (i.zero, i.size, i.bytes)) = some (some (.int .u8 0), 1, 1) := by kernel_rfl

theorem sum_n (A : Option Addr) (l : List UInt8) (n c : Nat) (w : World) (hn : n = l.length) (hm : n ≤ maxLen) (hA : Bytes w w.heap.size A l) :
    Calls Try.prog 13 #[.slice A n c] w fun e w' => e = .returned (.int .u32 (i32 (Crc.sum l))) ∧ Below w.heap.size w w' := by
  subst hn; exact sum_any A l c w hm hA
set_option maxHeartbeats 1000000 in
theorem four_any (A : Option Addr) (l : List UInt8) (c : Nat) (n : BitVec 32) (w : World) (hm : l.length ≤ 1000000) (hA : Bytes w w.heap.size A l) :
    Calls Try.prog 15 #[.slice A l.length c, .int .u32 (i32 n)] w fun e w' => ∃ A' c', e = .returned (.slice A' (l.length + 4) c') ∧ Own w' w.heap.size 5 A' c' ((l ++ leK n 4).map u8v) ∧ Below w.heap.size w w' := by
  obtain ⟨i0, hi0, hz0, hz1, hz2⟩ := info_parts u8info
  have hN : ∀ k, k ≤ 4 → (l.map u8v ++ (leK n k).map u8v).length = l.length + k := by intro k hk; simp [leK_length]
  have HN := Lib.hid hN
  clear hN
  go_enter Try.func15, Try.ntmps15
  go_wp2_with ((with_reducible show wpList _ _ _ ((⟨some 9, _, _, _, _, _⟩ : Oper) :: _) _ _); refine wpList_app _ rfl _ _ _ rfl w.heap.size 5 i0 _ 1 Try.underlying26 hi0 hz0 hz1 hz2 rfl none 0 0 [] rfl rfl Own.nil _ A c l.length (l.map u8v) rfl (by simp) hA u8v_one (by simp [maxLen]; omega) (by simp; omega) (Nat.le_refl _) (l.length + 0) (by simp) ?_; intro A1 c1 w1 ho1 hb1 _ _)
  go_loopw [1, 5, 6] (fun m s i wr => ∃ (k : Nat) (A' : Option Addr) (c' : Nat), k ≤ 4 ∧ i = .int .i64 k ∧ m = .int .u32 (i32 (sh n k)) ∧ s = .slice A' (l.length + k) c' ∧ Own wr w.heap.size 5 A' c' (l.map u8v ++ (leK n k).map u8v) ∧ Below w.heap.size w wr) (fun _ _ i _ => 4 - (intOf i).toNat)
  case atStart => exact ⟨0, A1, c1, by omega, rfl, rfl, rfl, by simpa [leK] using ho1, hb1⟩
  case round =>
    obtain ⟨k, A', c', hk, rfl, rfl, rfl, ho, hb⟩ := hrel
    by_cases hlt : k < 4
    · have h0 := i32_ge (sh n k)
      have h1 := i32_lt (sh n k)
      have hs := hb.size
      have hln := HN.out k hk
      have HB := Lib.hid (byte_eq (sh n k))
      go_wp2_with ((with_reducible show wpList _ _ _ ((⟨some 18, _, _, _, _, _⟩ : Oper) :: _) _ _); refine wpList_app _ rfl _ _ _ rfl w.heap.size 5 i0 _ 1 Try.underlying26 hi0 hz0 hz1 hz2 rfl A' c' _ (l.map u8v ++ (leK n k).map u8v) rfl hln.symm (ho.alloc _) _ _ _ 1 [.int .u8 (i32 (sh n k) % 256)] rfl rfl (cells_one wr _ _ (wr.heap.size + 1) (by omega)) (by simp [Value.oneCell']) (by rw [hln]; simp [maxLen]; omega) (by rw [hln]; simp; omega) (by simp; omega) (l.length + (k + 1)) rfl ?_; intro A2 c2 w2 ho2 hb2 _ _)
      go_roundw
      case rel =>
        refine ⟨k + 1, A2, c2, by omega, by go_num, by rw [shr32_8]; rfl, rfl, ?_, hb.trans (Below.trans ((Below.refl _ _).alloc hs _) hb2)⟩
        rw [leK, List.map_append, ← List.append_assoc]
        simpa only [List.map_cons, List.map_nil, u8v, HB.out] using ho2
      case measure => simp [intOf]; omega
    · obtain rfl : k = 4 := by omega
      go_wp2
      go_ret
      exact ⟨A', c', rfl, by rw [List.map_append]; exact ho, hb⟩

theorem behind_eq (l : List UInt8) (n : BitVec 32) : (i32 (sum (l ++ leK n 4)) == (1214729159 : Int)) = (n == sum l) := by
  rw [show (1214729159 : Int) = i32 1214729159#32 from rfl, i32_eq, Bool.eq_iff_iff, beq_iff_eq, beq_iff_eq, sum_behind]
set_option maxHeartbeats 1000000 in
theorem behind_any (w : World) (A : Option Addr) (l : List UInt8) (c : Nat) (hle : l.length ≤ c) (hmx : c ≤ maxLen) (hA : Bytes w w.heap.size A l) (other : BitVec 32) :
    Calls Try.prog 5 #[.slice A l.length c, .int .u32 (i32 other)] w fun e w' => e = .returned (.bool true) ∧ Below w.heap.size w w' := by
  have hm : l.length ≤ maxLen := Nat.le_trans hle hmx
  clear hle hmx
  unfold maxLen at hm
  by_cases hl : 1000 < l.length
  · have hl' : (1000 : Int) < (l.length : Int) := by omega
    go_enter Try.func5, Try.ntmps5
    go_wp2_with fail
    refine (works_any _).mono ?_
    rintro e w1 ⟨rfl, hb1⟩
    go_wp2_with fail
    go_ret
    exact ⟨rfl, hb1⟩
  · have hl' : (l.length : Int) ≤ (1000 : Int) := by omega
    have hln : ∀ n, (l ++ leK n 4).length = l.length + 4 := by intro n; simp [leK_length]
    have HL := Lib.hid hln
    clear hln
    go_enter Try.func5, Try.ntmps5
    go_wp2_with fail
    refine (sum_any A l c _ (by unfold maxLen; omega) hA).mono ?_
    rintro e w1 ⟨rfl, hb1⟩
    go_wp2_with fail
    refine (four_any A l c _ _ (by omega) ((hA.below hb1).up hb1.size)).mono ?_
    rintro e w2 ⟨A2, c2, rfl, ho2, hb2⟩
    go_wp2_with fail
    refine (sum_n A2 _ _ c2 _ (HL.out _).symm (by unfold maxLen; omega) ho2.bytes).mono ?_
    rintro e w3 ⟨rfl, hb3⟩
    have hb123 := next (next hb1 hb2) hb3
    clear ho2
    have ht1 := behind_eq l (sum l)
    simp only [beq_self_eq_true] at ht1
    go_wp2_with fail
    clear ht1
    refine (four_any A l c _ _ (by omega) ((hA.below hb123).up hb123.size)).mono ?_
    rintro e w4 ⟨A4, c4, rfl, ho4, hb4⟩
    go_wp2_with fail
    refine (sum_n A4 _ _ c4 _ (HL.out _).symm (by unfold maxLen; omega) ho4.bytes).mono ?_
    rintro e w5 ⟨rfl, hb5⟩
    clear ho4
    have ht1 := behind_eq l other
    have ht2 := i32_eq other (sum l)
    go_wp2_with fail
    clear ht1 ht2
    refine (works_any _).mono ?_
    rintro e w6 ⟨rfl, hb6⟩
    go_wp2_with fail
    go_ret
    exact ⟨rfl, next (next (next hb123 hb4) hb5) hb6⟩

theorem amid_eq (a e : List UInt8) (m n : BitVec 32) : (i32 (sum (a ++ leK m 4 ++ e)) == i32 (sum (a ++ leK n 4 ++ e))) = (m == n) := by
  rw [i32_eq, Bool.eq_iff_iff, beq_iff_eq, beq_iff_eq, sum_amid]
theorem app_len {l r : List UInt8} {k : Nat} (h : k = l.length) (B : List Value) (hB : B = l.map u8v ++ r.map u8v) : B.length = k + r.length := by subst h; subst hB; simp
set_option maxHeartbeats 1000000 in
theorem amid_any (w : World) (A : Option Addr) (l : List UInt8) (c : Nat) (hle : l.length ≤ c) (hmx : c ≤ maxLen) (hA : Bytes w w.heap.size A l)
    (A' : Option Addr) (r : List UInt8) (c' : Nat) (hle' : r.length ≤ c') (hmx' : c' ≤ maxLen) (hA' : Bytes w w.heap.size A' r) (m n : BitVec 32) :
    Calls Try.prog 8 #[.slice A l.length c, .slice A' r.length c', .int .u32 (i32 m), .int .u32 (i32 n)] w fun e w' => e = .returned (.bool true) ∧ Below w.heap.size w w' := by
  have hm : l.length ≤ maxLen := Nat.le_trans hle hmx
  have hm' : r.length ≤ maxLen := Nat.le_trans hle' hmx'
  clear hle hmx hle' hmx'
  unfold maxLen at hm hm'
  obtain ⟨i0, hi0, hz0, hz1, hz2⟩ := info_parts u8info
  by_cases hl : 500 < l.length
  · have hl' : (500 : Int) < (l.length : Int) := by omega
    go_enter Try.func8, Try.ntmps8
    go_wp2_with fail
    refine (works_any _).mono ?_
    rintro e w1 ⟨rfl, hb1⟩
    go_wp2_with fail
    go_ret
    exact ⟨rfl, hb1⟩
  · have hl' : (l.length : Int) ≤ (500 : Int) := by omega
    by_cases hr : 500 < r.length
    · have hr' : (500 : Int) < (r.length : Int) := by omega
      go_enter Try.func8, Try.ntmps8
      go_wp2_with fail
      refine (works_any _).mono ?_
      rintro e w1 ⟨rfl, hb1⟩
      go_wp2_with fail
      go_ret
      exact ⟨rfl, hb1⟩
    · have hr' : (r.length : Int) ≤ (500 : Int) := by omega
      have hlm : ∀ n, ((l ++ leK n 4).map u8v).length = l.length + 4 := by intro n; simp [leK_length]
      have HL := Lib.hid hlm
      clear hlm
      have hlm2 : ∀ n, l.length + 4 + r.length = (l ++ leK n 4 ++ r).length := by intro n; simp [leK_length, Nat.add_assoc]
      have HL2 := Lib.hid hlm2
      clear hlm2
      go_enter Try.func8, Try.ntmps8
      go_wp2_with fail
      refine (four_any A l c _ _ (by omega) hA).mono ?_
      rintro e w1 ⟨A1, c1, rfl, ho1, hb1⟩
      have hs1 := hb1.size
      go_wp2_with ((with_reducible show wpList _ _ _ ((⟨some 24, _, _, _, _, _⟩ : Oper) :: _) _ _); refine wpList_app _ rfl _ _ _ rfl w.heap.size 5 i0 _ 1 Try.underlying26 hi0 hz0 hz1 hz2 rfl A1 c1 _ _ rfl (HL.out m).symm ho1 _ A' c' r.length (r.map u8v) rfl (by simp) (hA'.below hb1) u8v_one (by rw [HL.out]; simp [maxLen]; omega) (by rw [HL.out]; simp; omega) hs1 (l.length + 4 + r.length) rfl ?_; intro A2 c2 w2 ho2 hb2 _ _)
      have hb12 := hb1.trans hb2
      rw [← List.map_append] at ho2
      refine (four_any A l c _ _ (by omega) ((hA.below hb12).up hb12.size)).mono ?_
      rintro e w3 ⟨A3, c3, rfl, ho3, hb3⟩
      have hs3 := hb3.size
      go_wp2_with ((with_reducible show wpList _ _ _ ((⟨some 29, _, _, _, _, _⟩ : Oper) :: _) _ _); refine wpList_app _ rfl _ _ _ rfl w2.heap.size 5 i0 _ 1 Try.underlying26 hi0 hz0 hz1 hz2 rfl A3 c3 _ _ rfl (HL.out n).symm ho3 _ A' c' r.length (r.map u8v) rfl (by simp) (hA'.below (next hb12 hb3)) u8v_one (by rw [HL.out]; simp [maxLen]; omega) (by rw [HL.out]; simp; omega) hs3 (l.length + 4 + r.length) rfl ?_; intro A4 c4 w4 ho4 hb4 _ _)
      have hb34 := hb3.trans hb4
      rw [← List.map_append] at ho4
      have hx4 := ho2.keep hb34
      refine (sum_n A2 _ _ c2 _ (HL2.out m) (by unfold maxLen; omega) hx4.bytes).mono ?_
      rintro e w5 ⟨rfl, hb5⟩
      generalize hX : Crc.sum (l ++ leK m 4 ++ r) = X
      have HX := Lib.hid hX
      clear hX
      have hy5 := ho4.keep hb5
      clear ho1 ho2 ho3 ho4 hx4
      go_wp2_with fail
      refine (sum_n A4 _ _ c4 _ (HL2.out n) (by unfold maxLen; omega) hy5.bytes).mono ?_
      rintro e w6 ⟨rfl, hb6⟩
      clear hy5
      have ht1 := amid_eq l r m n
      rw [HX.out] at ht1
      generalize Crc.sum (l ++ leK n 4 ++ r) = Y at ht1 ⊢
      have ht2 := i32_eq m n
      go_wp2_with fail
      clear ht1 ht2
      refine (works_any _).mono ?_
      rintro e w7 ⟨rfl, hb7⟩
      go_wp2_with fail
      go_ret
      exact ⟨rfl, next (next (next (next hb12 hb34) hb5) hb6) hb7⟩

theorem ends_eq (a b e : List UInt8) : (i32 (sum (a ++ e)) == i32 (sum (b ++ e))) = (sum a == sum b) := by
  rw [i32_eq, Bool.eq_iff_iff, beq_iff_eq, beq_iff_eq, sum_ends]
set_option maxHeartbeats 1000000 in
theorem ends_long (w : World) (A : Option Addr) (n c : Nat) (A' : Option Addr) (n' c' : Nat) (A'' : Option Addr) (n'' c'' : Nat) (h : (500 : Int) < (n : Int) ∨ (n : Int) ≤ 500 ∧ (500 : Int) < (n' : Int) ∨ (n : Int) ≤ 500 ∧ (n' : Int) ≤ 500 ∧ (500 : Int) < (n'' : Int)) :
    Calls Try.prog 6 #[.slice A n c, .slice A' n' c', .slice A'' n'' c''] w fun e w' => e = .returned (.bool true) ∧ Below w.heap.size w w' := by
  rcases h with h | ⟨h1, h⟩ | ⟨h1, h2, h⟩ <;>
  · go_enter Try.func6, Try.ntmps6
    go_wp2_with fail
    refine (works_any _).mono ?_
    rintro e w1 ⟨rfl, hb1⟩
    go_wp2_with fail
    go_ret
    exact ⟨rfl, hb1⟩
theorem cat_len {l r : List UInt8} : ((l ++ r).map u8v).length = l.length + r.length := by simp
set_option maxHeartbeats 1000000 in
theorem ends_any (w : World) (A : Option Addr) (a : List UInt8) (c : Nat) (hle : a.length ≤ c) (hmx : c ≤ maxLen) (hA : Bytes w w.heap.size A a)
    (A' : Option Addr) (b : List UInt8) (c' : Nat) (hle' : b.length ≤ c') (hmx' : c' ≤ maxLen) (hA' : Bytes w w.heap.size A' b)
    (A'' : Option Addr) (r : List UInt8) (c'' : Nat) (hle'' : r.length ≤ c'') (hmx'' : c'' ≤ maxLen) (hA'' : Bytes w w.heap.size A'' r) :
    Calls Try.prog 6 #[.slice A a.length c, .slice A' b.length c', .slice A'' r.length c''] w fun e w' => e = .returned (.bool true) ∧ Below w.heap.size w w' := by
  clear hle hmx hle' hmx' hle'' hmx''
  obtain ⟨i0, hi0, hz0, hz1, hz2⟩ := info_parts u8info
  by_cases hl : ((500 : Int) < (a.length : Int) ∨ (a.length : Int) ≤ 500 ∧ (500 : Int) < (b.length : Int) ∨ (a.length : Int) ≤ 500 ∧ (b.length : Int) ≤ 500 ∧ (500 : Int) < (r.length : Int))
  · exact ends_long w A _ c A' _ c' A'' _ c'' hl
  · have h1 : (a.length : Int) ≤ 500 := by omega
    have h2 : (b.length : Int) ≤ 500 := by omega
    have h3 : (r.length : Int) ≤ 500 := by omega
    clear hl
    go_enter Try.func6, Try.ntmps6
    go_wp2_with (first
      | ((with_reducible show wpList _ _ _ ((⟨some 25, _, _, _, _, _⟩ : Oper) :: _) _ _); refine wpList_app _ rfl _ _ _ rfl w.heap.size 5 i0 _ 1 Try.underlying26 hi0 hz0 hz1 hz2 rfl _ 0 0 [] rfl rfl (own_made w #[] _ (by simp) (Nat.le_refl _)) w.heap.size A c a.length (a.map u8v) rfl (by simp) (hA.below ((Below.refl _ _).alloc (Nat.le_refl _) _)) u8v_one (by simp [maxLen]; omega) (by simp; omega) (by simp) (a.length) (by simp) ?_; intro A1 c1 w1 ho1 hb1 _ _)
      | ((with_reducible show wpList _ _ _ ((⟨some 27, _, _, _, _, _⟩ : Oper) :: _) _ _); refine wpList_app _ rfl _ _ _ rfl w.heap.size 5 i0 _ 1 Try.underlying26 hi0 hz0 hz1 hz2 rfl A1 c1 _ ([] ++ a.map u8v) rfl (by simp) ho1 w.heap.size A'' c'' r.length (r.map u8v) rfl (by simp) (hA''.below (((Below.refl _ _).alloc (Nat.le_refl _) _).trans hb1)) u8v_one (by simp [maxLen]; omega) (by simp; omega) (by have := hb1.size; simp at this; omega) (a.length + r.length) (by simp) ?_; intro A2 c2 w2 ho2 hb2 _ _)
      | ((with_reducible show wpList _ _ _ ((⟨some 30, _, _, _, _, _⟩ : Oper) :: _) _ _); refine wpList_app _ rfl _ _ _ rfl w2.heap.size 5 i0 _ 1 Try.underlying26 hi0 hz0 hz1 hz2 rfl _ 0 0 [] rfl rfl (own_made w2 #[] _ (by simp) (Nat.le_refl _)) w.heap.size A' c' b.length (b.map u8v) rfl (by simp) (hA'.below (((((Below.refl w.heap.size w).alloc (Nat.le_refl _) _).trans hb1).trans hb2).alloc ((((Below.refl w.heap.size w).alloc (Nat.le_refl _) _).trans hb1).trans hb2).size _)) u8v_one (by simp [maxLen]; omega) (by simp; omega) (by simp) (b.length) (by simp) ?_; intro A3 c3 w3 ho3 hb3 _ _)
      | ((with_reducible show wpList _ _ _ ((⟨some 32, _, _, _, _, _⟩ : Oper) :: _) _ _); refine wpList_app _ rfl _ _ _ rfl w2.heap.size 5 i0 _ 1 Try.underlying26 hi0 hz0 hz1 hz2 rfl A3 c3 _ ([] ++ b.map u8v) rfl (by simp) ho3 w.heap.size A'' c'' r.length (r.map u8v) rfl (by simp) (hA''.below (((((Below.refl w.heap.size w).alloc (Nat.le_refl _) _).trans hb1).trans hb2).trans ((((Below.refl _ _).alloc (Nat.le_refl _) _).trans hb3).mono ((((Below.refl w.heap.size w).alloc (Nat.le_refl _) _).trans hb1).trans hb2).size))) u8v_one (by simp [maxLen]; omega) (by simp; omega) (by have := hb3.size; simp at this; omega) (b.length + r.length) (by simp) ?_; intro A4 c4 w4 ho4 hb4 _ _))
    have hb12 := ((((Below.refl w.heap.size w).alloc (Nat.le_refl _) _).trans hb1).trans hb2)
    have hb34 : Below w2.heap.size w2 w4 := (((Below.refl _ _).alloc (Nat.le_refl _) _).trans hb3).trans hb4
    have hb14 := next hb12 hb34
    have hx : Own w4 w.heap.size 5 A2 c2 ((a ++ r).map u8v) := by simpa using ho2.keep hb34
    have hy : Own w4 w2.heap.size 5 A4 c4 ((b ++ r).map u8v) := by simpa using ho4
    clear ho1 ho2 ho3 ho4 hb1 hb2 hb3 hb4
    refine (sum_n A2 (a ++ r) _ c2 _ (by simp) (by unfold maxLen; omega) hx.bytes).mono ?_
    rintro e w5 ⟨rfl, hb5⟩
    generalize hX : Crc.sum (a ++ r) = X
    have HX := Lib.hid hX
    have hy5 := hy.keep hb5
    have hb15 := next hb14 hb5
    clear hX hx hy
    go_wp2_with fail
    refine (sum_n A4 (b ++ r) _ c4 _ (by simp) (by unfold maxLen; omega) hy5.bytes).mono ?_
    rintro e w6 ⟨rfl, hb6⟩
    have hb16 := next hb15 hb6
    have ht1 := ends_eq a b r
    rw [HX.out] at ht1
    generalize Crc.sum (b ++ r) = Y at ht1 ⊢
    have HT := Lib.hid ht1
    clear ht1 hy5
    go_wp2_with fail
    refine (sum_any A a c _ (by unfold maxLen; omega) ((hA.below hb16).up hb16.size)).mono ?_
    rintro e w7 ⟨rfl, hb7⟩
    have hb17 := next hb16 hb7
    go_wp2_with fail
    refine (sum_any A' b c' _ (by unfold maxLen; omega) ((hA'.below hb17).up hb17.size)).mono ?_
    rintro e w8 ⟨rfl, hb8⟩
    have hb18 := next hb17 hb8
    have ht1 := HT.out
    have ht2 := i32_eq (Crc.sum a) (Crc.sum b)
    clear hb34 hb14 hb5 hb15 hb6 hb16 hb7 hb17 hb8 hb12
    go_wp2_with fail
    clear ht1 ht2
    refine (works_any _).mono ?_
    rintro e w9 ⟨rfl, hb9⟩
    go_wp2_with fail
    go_ret
    exact ⟨rfl, next hb18 hb9⟩
end Go.Proofs.Ytpebfflokkdfhaa.CrcW
