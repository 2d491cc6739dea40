/- The document's polynomials: Trim, Add; the same bytes. -/
import Derived.Test.YtciilojlfaihjaaPlThr
import Derived.Test.YtciilojlfaihjaaFdRef
namespace Go.Proofs.Ytciilojlfaihjaa.PlW
open Go.RowKit Mem Gf FdW Pl
set_option linter.unusedVariables false

/-- Are two lists the same? -/
def sameB (a b : List UInt8) : Bool := decide (a = b)
theorem sameB_yes {a b : List UInt8} (h : a = b) : sameB a b = true := by simp [sameB, h]
theorem sameB_no {a b : List UInt8} (h : a ≠ b) : sameB a b = false := by simp [sameB, h]
theorem str_beq (a b : List UInt8) : ((str a).toList == (str b).toList) = sameB a b := by
  rw [str_toList, str_toList, Bool.eq_iff_iff, beq_iff_eq, sameB, decide_eq_true_iff]
set_option maxHeartbeats 400000 in
theorem same_any (w : World) {M M' : Nat} {A B : Option Addr} {a b : List UInt8} (hA : Bytes w M A a) (hB : Bytes w M' B b) (n m ca cb : Nat) (hn : n = a.length) (hm : m = b.length) :
    Calls Try.prog 17 #[.slice A n ca, .slice B m cb] w fun e w' => e = .returned (.bool (sameB a b)) ∧ w = w' := by
  subst hn; subst hm
  have ea := run_str (P := Try.prog) w 22 5 Try.underlying22 Try.underlying5 hA ca 9 Try.underlying9
  have eb := run_str (P := Try.prog) w 22 5 Try.underlying22 Try.underlying5 hB cb 9 Try.underlying9
  have HE := Lib.hid (str_beq a b)
  clear hA hB
  go_enter Try.func17, Try.ntmps17
  go_wp2_with fail
  go_ret
  exact ⟨by rw [← HE.out]; rfl, rfl⟩

theorem back_step {a : List UInt8} {k : Nat} (h : ∀ i, k + 1 ≤ i → cf a i = 0) (h0 : cf a k = 0) : ∀ i, k ≤ i → cf a i = 0 := fun i hi => by
  by_cases e : i = k
  · rw [e]; exact h0
  · exact h i (by omega)
set_option maxRecDepth 100000 in
set_option maxHeartbeats 1000000 in
theorem rpTrim_any (w : World) (A : Option Addr) (a : List UInt8) (n c : Nat) (hn : n = a.length) (hl : (a.length : Int) ≤ 1000000) (hc : a.length ≤ c) (hA : Bytes w w.heap.size A a) :
    Calls Try.prog 18 #[.slice A n c] w (NewOk w (trim a)) := by
  obtain ⟨i0, hi0, hz0, hz1, hz2⟩ := info_parts u8info
  subst hn
  have HL := Lib.hid hl
  have HA := Lib.hid hA
  clear hl hA
  go_enter Try.func18, Try.ntmps18
  go_wp2_with fail
  go_loop [3] (fun s => ∃ k : Nat, s = .int .i64 (k : Int) ∧ k ≤ a.length ∧ ∀ i, k ≤ i → cf a i = 0) (fun s => (intOf s).toNat)
  case atStart => exact ⟨a.length, rfl, Nat.le_refl _, fun i hi => cf_ge hi⟩
  case round =>
    obtain ⟨k, rfl, hk, hz⟩ := hrel
    have HZ := Lib.hid hz
    clear hz
    have hki : (k : Int) ≤ 1000000 := by have := HL.out; omega
    have hstop : ∀ (m : Nat), m = k → (k = 0 ∨ cf a (k - 1) ≠ 0) → trim a = a.take m := fun m hm h => by subst hm; exact trim_take hk HZ.out h
    by_cases hk0 : k = 0
    · subst hk0
      have HT := Lib.hid (hstop 0 rfl (.inl rfl))
      clear hstop
      go_wp2_with ((with_reducible show wpList _ _ _ ((⟨some 23, _, _, _, _, _⟩ : Oper) :: _) _ _); refine wpList_app _ rfl _ _ _ rfl w.heap.size 5 i0 _ 1 Try.underlying22 hi0 hz0 hz1 hz2 rfl none 0 0 [] rfl rfl (Own.nil) w.heap.size A c 0 [] rfl rfl (Bytes.nil) (by simp) (by simp [maxLen]) (by simp) (by simp) 0 (by simp) ?_; intro A1 c1 w2 ho1 hb1 _ _)
      go_ret
      refine ⟨A1, c1, by rw [HT.out]; rfl, ?_, hb1⟩
      rw [HT.out]; simpa using ho1
    · obtain ⟨m, rfl⟩ : ∃ m, k = m + 1 := ⟨k - 1, by omega⟩
      obtain ⟨b, off, rfl, hb, hcell⟩ := HA.out.at_ (k := m) (by omega)
      rw [← cf_lt (show m < a.length by omega)] at hcell
      have hmi : ((m + 1 : Nat) : Int) - 1 = (m : Int) := by omega
      have hm0 : (0 : Int) < ((m + 1 : Nat) : Int) := by omega
      have hml : (m : Int) < (a.length : Int) := by omega
      by_cases hz : cf a m = 0
      · have HB := Lib.hid (back_step HZ.out hz)
        rw [hz] at hcell
        have hzz : (((0 : UInt8).toNat : Int) == 0) = true := rfl
        clear hz hstop
        go_wp2_with fail
        go_round
        case rel => exact ⟨m, by congr 1, by omega, HB.out⟩
        case measure => simp [intOf]
      · have hzz := u8_zero_no hz
        have HT := Lib.hid (hstop (m + 1) rfl (.inr hz))
        have HK := Lib.hid hk
        have hmc : m + 1 ≤ c := by omega
        clear hstop hz
        generalize cf a m = x at *
        go_wp2_with ((with_reducible show wpList _ _ _ ((⟨some 23, _, _, _, _, _⟩ : Oper) :: _) _ _); refine wpList_app _ rfl _ _ _ rfl w.heap.size 5 i0 _ 1 Try.underlying22 hi0 hz0 hz1 hz2 rfl none 0 0 [] rfl rfl (Own.nil) w.heap.size (some ⟨b, off, none⟩) c (m + 1) ((a.take (m + 1)).map u8v) rfl (by simp; have := HK.out; omega) (HA.out.take (m + 1)) u8v_one (by simp [maxLen]; omega) (by simp; omega) (by simp) (m + 1) (by simp) ?_; intro A1 c1 w2 ho1 hb1 _ _)
        go_ret
        refine ⟨A1, c1, ?_, ?_, hb1⟩
        · rw [HT.out, List.length_take, Nat.min_eq_left HK.out]; rfl
        · rw [HT.out]; simpa using ho1
end Go.Proofs.Ytciilojlfaihjaa.PlW
