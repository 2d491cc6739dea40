/- Orders: of numbers, of bytes, of shares. -/
import Derived.Test.YtlmcmcafbepjmaaShOps
namespace Go.Proofs.Ytlmcmcafbepjmaa.ShW
open Go.RowKit Go.Shelf Mem Fds Bv Rng
set_option linter.unusedVariables false

def cmpI (a b : Int) : Int := if a < b then -1 else if b < a then 1 else 0
def cmpL : List UInt8 → List UInt8 → Int
  | [], [] => 0
  | [], _ :: _ => -1
  | _ :: _, [] => 1
  | a :: x, b :: y => if cmpI (a.toNat : Int) (b.toNat : Int) = 0 then cmpL x y else cmpI (a.toNat : Int) (b.toNat : Int)
def orI (a b c : Int) : Int := if a ≠ 0 then a else if b ≠ 0 then b else c
def Sh.cmp (a b : Sh) : Int := orI (cmpL a.key b.key) (cmpI a.ver b.ver) (cmpI a.node b.node)
section
variable {w : World}
theorem nan_i64 (a : Int) : Calls Try.prog 58 #[.int .i64 a] w fun e w' => e = .returned (.bool false) ∧ w = w' := by
  go_enter Try.func58, Try.ntmps58
  go_wp2_with fail
  go_ret
  exact ⟨by simp, rfl⟩
theorem cmp_i64 (a b : Int) : Calls Try.prog 38 #[.int .i64 a, .int .i64 b] w fun e w' => e = .returned (.int .i64 (cmpI a b)) ∧ w = w' := by
  unfold cmpI
  by_cases h1 : a < b
  · rw [if_pos h1]
    go_enter Try.func38, Try.ntmps38
    go_wp2_with fail
    refine (nan_i64 a).mono ?_
    rintro e w' ⟨rfl, rfl⟩
    go_wp2_with fail
    refine (nan_i64 b).mono ?_
    rintro e w' ⟨rfl, rfl⟩
    go_wp2_with fail
    go_ret
    exact ⟨rfl, rfl⟩
  · rw [if_neg h1]
    by_cases h2 : b < a
    · rw [if_pos h2]
      go_enter Try.func38, Try.ntmps38
      go_wp2_with fail
      refine (nan_i64 a).mono ?_
      rintro e w' ⟨rfl, rfl⟩
      go_wp2_with fail
      refine (nan_i64 b).mono ?_
      rintro e w' ⟨rfl, rfl⟩
      go_wp2_with fail
      go_ret
      exact ⟨rfl, rfl⟩
    · rw [if_neg h2]
      go_enter Try.func38, Try.ntmps38
      go_wp2_with fail
      refine (nan_i64 a).mono ?_
      rintro e w' ⟨rfl, rfl⟩
      go_wp2_with fail
      refine (nan_i64 b).mono ?_
      rintro e w' ⟨rfl, rfl⟩
      go_wp2_with fail
      go_ret
      exact ⟨rfl, rfl⟩
theorem nan_int (a : Int) : Calls Try.prog 59 #[.int .i64 a] w fun e w' => e = .returned (.bool false) ∧ w = w' := by
  go_enter Try.func59, Try.ntmps59
  go_wp2_with fail
  go_ret
  exact ⟨by simp, rfl⟩
theorem cmp_int (a b : Int) : Calls Try.prog 39 #[.int .i64 a, .int .i64 b] w fun e w' => e = .returned (.int .i64 (cmpI a b)) ∧ w = w' := by
  unfold cmpI
  by_cases h1 : a < b
  · rw [if_pos h1]
    go_enter Try.func39, Try.ntmps39
    go_wp2_with fail
    refine (nan_int a).mono ?_
    rintro e w' ⟨rfl, rfl⟩
    go_wp2_with fail
    refine (nan_int b).mono ?_
    rintro e w' ⟨rfl, rfl⟩
    go_wp2_with fail
    go_ret
    exact ⟨rfl, rfl⟩
  · rw [if_neg h1]
    by_cases h2 : b < a
    · rw [if_pos h2]
      go_enter Try.func39, Try.ntmps39
      go_wp2_with fail
      refine (nan_int a).mono ?_
      rintro e w' ⟨rfl, rfl⟩
      go_wp2_with fail
      refine (nan_int b).mono ?_
      rintro e w' ⟨rfl, rfl⟩
      go_wp2_with fail
      go_ret
      exact ⟨rfl, rfl⟩
    · rw [if_neg h2]
      go_enter Try.func39, Try.ntmps39
      go_wp2_with fail
      refine (nan_int a).mono ?_
      rintro e w' ⟨rfl, rfl⟩
      go_wp2_with fail
      refine (nan_int b).mono ?_
      rintro e w' ⟨rfl, rfl⟩
      go_wp2_with fail
      go_ret
      exact ⟨rfl, rfl⟩
theorem nan_byte (a : Int) : Calls Try.prog 71 #[.int .u8 a] w fun e w' => e = .returned (.bool false) ∧ w = w' := by
  go_enter Try.func71, Try.ntmps71
  go_wp2_with fail
  go_ret
  exact ⟨by simp, rfl⟩
theorem cmp_byte (a b : Int) : Calls Try.prog 57 #[.int .u8 a, .int .u8 b] w fun e w' => e = .returned (.int .i64 (cmpI a b)) ∧ w = w' := by
  unfold cmpI
  by_cases h1 : a < b
  · rw [if_pos h1]
    go_enter Try.func57, Try.ntmps57
    go_wp2_with fail
    refine (nan_byte a).mono ?_
    rintro e w' ⟨rfl, rfl⟩
    go_wp2_with fail
    refine (nan_byte b).mono ?_
    rintro e w' ⟨rfl, rfl⟩
    go_wp2_with fail
    go_ret
    exact ⟨rfl, rfl⟩
  · rw [if_neg h1]
    by_cases h2 : b < a
    · rw [if_pos h2]
      go_enter Try.func57, Try.ntmps57
      go_wp2_with fail
      refine (nan_byte a).mono ?_
      rintro e w' ⟨rfl, rfl⟩
      go_wp2_with fail
      refine (nan_byte b).mono ?_
      rintro e w' ⟨rfl, rfl⟩
      go_wp2_with fail
      go_ret
      exact ⟨rfl, rfl⟩
    · rw [if_neg h2]
      go_enter Try.func57, Try.ntmps57
      go_wp2_with fail
      refine (nan_byte a).mono ?_
      rintro e w' ⟨rfl, rfl⟩
      go_wp2_with fail
      refine (nan_byte b).mono ?_
      rintro e w' ⟨rfl, rfl⟩
      go_wp2_with fail
      go_ret
      exact ⟨rfl, rfl⟩
theorem cmpL_same (a b : List UInt8) (j : Nat) (h : a.take j = b.take j) (ha : j ≤ a.length) (hb : j ≤ b.length) : cmpL a b = cmpL (a.drop j) (b.drop j) := by
  induction j generalizing a b with
  | zero => rfl
  | succ j ih =>
    cases a with
    | nil => simp at ha
    | cons x a =>
      cases b with
      | nil => simp at hb
      | cons y b =>
        rw [List.take_succ_cons, List.take_succ_cons] at h
        injection h with h1 h2
        subst h1
        show (if cmpI (x.toNat : Int) (x.toNat : Int) = 0 then cmpL a b else _) = _
        rw [if_pos (by unfold cmpI; rw [if_neg (by omega), if_neg (by omega)])]
        exact ih a b h2 (by simpa using ha) (by simpa using hb)
theorem cmpL_at {a b : List UInt8} {j : Nat} (h : a.take j = b.take j) {x y : UInt8} (hx : a[j]? = some x) (hy : b[j]? = some y) (hne : cmpI (x.toNat : Int) (y.toNat : Int) ≠ 0) : cmpL a b = cmpI (x.toNat : Int) (y.toNat : Int) := by
  obtain ⟨h1, e1⟩ := List.getElem?_eq_some_iff.1 hx
  obtain ⟨h2, e2⟩ := List.getElem?_eq_some_iff.1 hy
  rw [cmpL_same a b j h (by omega) (by omega), ← List.getElem_cons_drop h1, ← List.getElem_cons_drop h2, e1, e2]
  show (if cmpI _ _ = 0 then _ else _) = _
  rw [if_neg hne]
theorem cmpL_long {a b : List UInt8} (h : a.take b.length = b) (hl : b.length < a.length) : cmpL a b = 1 := by
  rw [cmpL_same a b b.length (by rw [h, List.take_length]) (by omega) (Nat.le_refl _), List.drop_length, ← List.getElem_cons_drop hl]; rfl
theorem cmpL_short {a b : List UInt8} (h : a = b.take a.length) (hl : a.length < b.length) : cmpL a b = -1 := by
  rw [cmpL_same a b a.length (by rw [List.take_length]; exact h) (Nat.le_refl _) (by omega), List.drop_length, ← List.getElem_cons_drop hl]; rfl
theorem cmpL_eq (a : List UInt8) : cmpL a a = 0 := by
  rw [cmpL_same a a a.length rfl (Nat.le_refl _) (Nat.le_refl _), List.drop_length]; rfl
theorem cmpI_zero {a b : Int} : cmpI a b = 0 ↔ a = b := by
  unfold cmpI
  split
  · constructor <;> intro h <;> omega
  · split
    · constructor <;> intro h <;> omega
    · constructor <;> intro h <;> omega
theorem u8_eq {x y : UInt8} (h : (x.toNat : Int) = (y.toNat : Int)) : x = y := UInt8.toNat_inj.1 (by omega)
set_option maxHeartbeats 4000000 in
theorem cmpB_any (A B : Option Addr) (a b : List UInt8) (n c m d : Nat) (hn : a.length = n) (hm : b.length = m) (hn3 : n ≤ 256 ^ 3) (hm3 : m ≤ 256 ^ 3) (hA : Bytes w w.heap.size A a) (hB : Bytes w w.heap.size B b) :
    Calls Try.prog 37 #[.slice A n c, .slice B m d] w fun e w' => e = .returned (.int .i64 (cmpL a b)) ∧ w = w' := by
  have hn4 : (n : Int) ≤ 256 ^ 3 := by omega
  have hm4 : (m : Int) ≤ 256 ^ 3 := by omega
  have H := Lib.hid (And.intro hn (And.intro hm (And.intro hA hB)))
  clear hn hm hA hB hn3 hm3
  go_enter Try.func37, Try.ntmps37
  go_wp2_with fail
  go_loop [11] (fun i => ∃ j : Nat, i = .int .i64 (j : Int) ∧ j ≤ n ∧ j ≤ m ∧ a.take j = b.take j) (fun i => n - (intOf i).toNat)
  case atStart => exact ⟨0, rfl, Nat.zero_le _, Nat.zero_le _, rfl⟩
  case round =>
    obtain ⟨j, rfl, hj, hjm, heq⟩ := hrel
    have HE := Lib.hid heq
    clear heq
    have hj0 : (0 : Int) ≤ (j : Int) := by omega
    by_cases hjn : j < n
    · have hj1 : (j : Int) < (n : Int) := by omega
      obtain ⟨ba, oa, rfl, _, hca⟩ := H.out.2.2.1.at_ (k := j) (by rw [H.out.1]; exact hjn)
      obtain ⟨x, hx⟩ : ∃ x, a[j]? = some x := ⟨a[j]'(by rw [H.out.1]; exact hjn), List.getElem?_eq_getElem _⟩
      rw [(List.getElem?_eq_some_iff.1 hx).2] at hca
      have HX := Lib.hid hx
      clear hx
      by_cases hjm2 : j < m
      · have hj2 : (j : Int) < (m : Int) := by omega
        obtain ⟨bb, ob, rfl, _, hcb⟩ := H.out.2.2.2.at_ (k := j) (by rw [H.out.2.1]; exact hjm2)
        obtain ⟨y, hy⟩ : ∃ y, b[j]? = some y := ⟨b[j]'(by rw [H.out.2.1]; exact hjm2), List.getElem?_eq_getElem _⟩
        rw [(List.getElem?_eq_some_iff.1 hy).2] at hcb
        have HY := Lib.hid hy
        clear hy
        obtain ⟨z, hz⟩ : ∃ z, cmpI (x.toNat : Int) (y.toNat : Int) = z := ⟨_, rfl⟩
        have HZ := Lib.hid hz
        have HC := Lib.hid (cmp_byte (w := w) (x.toNat : Int) (y.toNat : Int))
        rw [hz] at HC
        clear hz
        by_cases hz0 : z = 0
        · subst hz0
          go_wp2_with fail
          refine HC.out.mono ?_
          rintro e w' ⟨rfl, rfl⟩
          go_wp2_with fail
          go_round
          case rel =>
            refine ⟨j + 1, by simp, hjn, hjm2, ?_⟩
            have he := u8_eq (cmpI_zero.1 HZ.out)
            obtain ⟨h1, e1⟩ := List.getElem?_eq_some_iff.1 HX.out
            obtain ⟨h2, e2⟩ := List.getElem?_eq_some_iff.1 HY.out
            rw [List.take_succ_eq_append_getElem h1, List.take_succ_eq_append_getElem h2, e1, e2, he, HE.out]
          case measure => simp [intOf]; omega
        · have hz1 : (z == 0) = false := by simp [hz0]
          have HR := Lib.hid (show cmpL a b = z from by rw [cmpL_at HE.out HX.out HY.out (by rw [HZ.out]; exact hz0), HZ.out])
          clear hz0
          go_wp2_with fail
          refine HC.out.mono ?_
          rintro e w' ⟨rfl, rfl⟩
          go_wp2_with fail
          go_ret
          exact ⟨by rw [HR.out]; rfl, rfl⟩
      · obtain rfl : j = m := by omega
        have HR := Lib.hid (show cmpL a b = 1 from cmpL_long (by rw [H.out.2.1, HE.out, ← H.out.2.1, List.take_length]) (by rw [H.out.1, H.out.2.1]; exact hjn))
        go_wp2_with fail
        go_ret
        exact ⟨by rw [HR.out]; rfl, rfl⟩
    · obtain rfl : j = n := by omega
      by_cases hjm2 : j < m
      · have hj2 : (j : Int) < (m : Int) := by omega
        have HR := Lib.hid (show cmpL a b = -1 from cmpL_short (by rw [H.out.1, ← HE.out, ← H.out.1, List.take_length]) (by rw [H.out.1, H.out.2.1]; exact hjm2))
        go_wp2_with fail
        go_ret
        exact ⟨by rw [HR.out]; rfl, rfl⟩
      · obtain rfl : j = m := by omega
        have HR := Lib.hid (show cmpL a b = 0 from by
          have h := HE.out
          have e1 : a.take j = a := by rw [← H.out.1, List.take_length]
          have e2 : b.take j = b := by rw [← H.out.2.1, List.take_length]
          rw [e1, e2] at h
          rw [h]; exact cmpL_eq b)
        go_wp2_with fail
        go_ret
        exact ⟨by rw [HR.out]; rfl, rfl⟩
theorem or_any (g : Nat) (x y z : Int) (h0 : w.cell? ⟨g, 0, none⟩ = some (.int .i64 x)) (h1 : w.cell? ⟨g, 1, none⟩ = some (.int .i64 y)) (h2 : w.cell? ⟨g, 2, none⟩ = some (.int .i64 z)) :
    Calls Try.prog 36 #[.slice (some ⟨g, 0, none⟩) 3 3] w fun e w' => e = .returned (.int .i64 (orI x y z)) ∧ w = w' := by
  obtain ⟨r, hr⟩ : ∃ r, orI x y z = r := ⟨_, rfl⟩
  have HR := Lib.hid hr
  rw [hr]
  clear hr
  go_enter Try.func36, Try.ntmps36
  go_wp2_with fail
  go_loop [8] (fun i => ∃ k : Nat, i = .int .i64 (k : Int) ∧ k ≤ 3 ∧ (0 < k → x = 0) ∧ (1 < k → y = 0) ∧ (2 < k → z = 0)) (fun i => 3 - (intOf i).toNat)
  case atStart => exact ⟨0, rfl, Nat.zero_le _, fun h => by omega, fun h => by omega, fun h => by omega⟩
  case round =>
    obtain ⟨k, rfl, hk, hx, hy, hz⟩ := hrel
    have HA := Lib.hid (And.intro hx (And.intro hy hz))
    clear hx hy hz
    have hr : k = 0 ∨ k = 1 ∨ k = 2 ∨ k = 3 := by omega
    rcases hr with rfl | rfl | rfl | rfl
    · by_cases hv : x = 0
      · have HV := Lib.hid hv
        have hv1 : (x == 0) = true := by simp [hv]
        clear hv
        go_wp2_with fail
        go_round
        case rel => exact ⟨1, rfl, by omega, fun _ => HV.out, fun h => by omega, fun h => by omega⟩
        case measure => decide
      · have hv1 : (x == 0) = false := by simp [hv]
        have HV := Lib.hid hv
        have HF := Lib.hid (show orI x y z = x from by unfold orI; rw [if_pos HV.out])
        clear hv
        go_wp2_with fail
        go_ret
        exact ⟨by rw [← HR.out, HF.out]; rfl, rfl⟩
    · by_cases hv : y = 0
      · have HV := Lib.hid hv
        have hv1 : (y == 0) = true := by simp [hv]
        clear hv
        go_wp2_with fail
        go_round
        case rel => exact ⟨2, rfl, by omega, fun _ => HA.out.1 (by omega), fun _ => HV.out, fun h => by omega⟩
        case measure => decide
      · have hv1 : (y == 0) = false := by simp [hv]
        have HV := Lib.hid hv
        have HF := Lib.hid (show orI x y z = y from by unfold orI; rw [if_neg (by rw [HA.out.1 (by omega)]; decide), if_pos HV.out])
        clear hv
        go_wp2_with fail
        go_ret
        exact ⟨by rw [← HR.out, HF.out]; rfl, rfl⟩
    · by_cases hv : z = 0
      · have HV := Lib.hid hv
        have hv1 : (z == 0) = true := by simp [hv]
        clear hv
        go_wp2_with fail
        go_round
        case rel => exact ⟨3, rfl, by omega, fun _ => HA.out.1 (by omega), fun _ => HA.out.2.1 (by omega), fun _ => HV.out⟩
        case measure => decide
      · have hv1 : (z == 0) = false := by simp [hv]
        have HV := Lib.hid hv
        have HF := Lib.hid (show orI x y z = z from by unfold orI; rw [if_neg (by rw [HA.out.1 (by omega)]; decide), if_neg (by rw [HA.out.2.1 (by omega)]; decide)])
        clear hv
        go_wp2_with fail
        go_ret
        exact ⟨by rw [← HR.out, HF.out]; rfl, rfl⟩
    · have HF := Lib.hid (show orI x y z = 0 from by unfold orI; rw [if_neg (by rw [HA.out.1 (by omega)]; decide), if_neg (by rw [HA.out.2.1 (by omega)]; decide)]; exact HA.out.2.2 (by omega))
      go_wp2_with fail
      go_ret
      exact ⟨by rw [← HR.out, HF.out]; rfl, rfl⟩
theorem equal_any (A B : Option Addr) (a b : List UInt8) (n c m d M N : Nat) (hn : a.length = n) (hm : b.length = m) (hA : Bytes w M A a) (hB : Bytes w N B b) :
    Calls Try.prog 40 #[.slice A n c, .slice B m d] w fun e w' => e = .returned (.bool (decide (a = b))) ∧ w = w' := by
  have h1 := convB hA n c hn.symm
  have h2 := convB hB m d hm.symm
  have h3 := str_beq a b
  obtain ⟨x, hx⟩ : ∃ x, str a = x := ⟨_, rfl⟩
  obtain ⟨y, hy⟩ : ∃ y, str b = y := ⟨_, rfl⟩
  rw [hx] at h1 h3
  rw [hy] at h2 h3
  have H3 := Lib.hid h3
  clear hx hy hA hB hn hm h3
  go_enter Try.func40, Try.ntmps40
  go_wp2_with fail
  go_ret
  refine ⟨?_, rfl⟩
  rw [← H3.out]; rfl
end
end Go.Proofs.Ytlmcmcafbepjmaa.ShW
