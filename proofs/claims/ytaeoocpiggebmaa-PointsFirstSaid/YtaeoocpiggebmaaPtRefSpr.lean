/- The document's points: Common, Spread. -/
import Derived.Test.YtaeoocpiggebmaaPtRefOf
namespace Go.Proofs.Ytaeoocpiggebmaa.PtW
open Go.RowKit Go.Shelf Mem Gf FdW Rng
set_option linter.unusedVariables false
set_option linter.unusedSimpArgs false

/-- The greatest common divisor of a and b among those below i. -/
def CdI (a b i d : Nat) : Prop := 1 ≤ d ∧ d ∣ a ∧ d ∣ b ∧ ∀ e, e < i → e ∣ a → e ∣ b → e ≤ d
theorem CdI.start (a b : Nat) : CdI a b 1 1 := ⟨Nat.le_refl _, Nat.one_dvd _, Nat.one_dvd _, fun e h _ _ => by omega⟩
theorem CdI.no {a b i d : Nat} (h : CdI a b i d) (hn : ¬ (i ∣ a ∧ i ∣ b)) : CdI a b (i + 1) d :=
  ⟨h.1, h.2.1, h.2.2.1, fun e he h1 h2 => by
    rcases (by omega : e < i ∨ e = i) with he | rfl
    · exact h.2.2.2 e he h1 h2
    · exact absurd ⟨h1, h2⟩ hn⟩
theorem CdI.yes {a b i d : Nat} (hi : 1 ≤ i) (h1 : i ∣ a) (h2 : i ∣ b) : CdI a b (i + 1) i := ⟨hi, h1, h2, fun e he _ _ => by omega⟩
theorem CdI.done {a b i d : Nat} (h : CdI a b i d) (ha : 1 ≤ a) (hi : a < i ∨ b < i) (hb : 1 ≤ b) : d = Nat.gcd a b := by
  have h1 : Nat.gcd a b ≤ a := Nat.gcd_le_left _ ha
  have h2 : Nat.gcd a b ≤ b := Nat.gcd_le_right _ hb
  have h3 := h.2.2.2 (Nat.gcd a b) (by omega) (Nat.gcd_dvd_left _ _) (Nat.gcd_dvd_right _ _)
  have h4 := Nat.le_of_dvd (Nat.gcd_pos_of_pos_left _ ha) (Nat.dvd_gcd h.2.1 h.2.2.1)
  omega
set_option maxRecDepth 100000 in
set_option maxHeartbeats 8000000 in
theorem refCommon_any (w : World) (a b : Nat) (ha : 1 ≤ a ∧ a ≤ 1000) (hb : 1 ≤ b ∧ b ≤ 1000) : Calls Try.prog 27 #[.int .i64 (a : Int), .int .i64 (b : Int)] w fun e w' => e = .returned (.int .i64 (Nat.gcd a b : Int)) ∧ Below w.heap.size w w' := by
  have a0 : (0 : Int) ≤ (a : Int) := by omega
  have a1 : (a : Int) ≤ 1000 := by omega
  have b0 : (0 : Int) ≤ (b : Int) := by omega
  have b1 : (b : Int) ≤ 1000 := by omega
  have HAB := Lib.hid (And.intro ha hb)
  clear ha hb
  go_enter Try.func27, Try.ntmps27
  go_wp2_with fail
  go_loopw [5, 6] (fun s t wr => ∃ d i : Nat, s = .int .i64 (d : Int) ∧ t = .int .i64 (i : Int) ∧ 1 ≤ i ∧ i ≤ 1001 ∧ CdI a b i d ∧ Below w.heap.size w wr) (fun _ t _ => 1001 - (intOf t).toNat)
  case atStart => exact ⟨1, 1, rfl, rfl, by omega, by omega, CdI.start a b, Mem.start w⟩
  case round =>
    obtain ⟨d, i, rfl, rfl, hi1, hi2, hc, hbl⟩ := hrel
    have HR := Lib.hid (And.intro hc hbl)
    clear hc hbl
    have hi0 : (0 : Int) ≤ (i : Int) := by omega
    by_cases hia : i ≤ a
    · have hia1 : (i : Int) ≤ (a : Int) := by omega
      by_cases hib : i ≤ b
      · have hib1 : (i : Int) ≤ (b : Int) := by omega
        have hin : ((i : Int) == 0) = false := by simp; omega
        have hi11 : (1 : Int) ≤ (i : Int) := by omega
        obtain ⟨ra, hra⟩ : ∃ r, a % i = r := ⟨_, rfl⟩
        obtain ⟨rb, hrb⟩ : ∃ r, b % i = r := ⟨_, rfl⟩
        have hta : (a : Int).tmod (i : Int) = (ra : Int) := by rw [Int.tmod_eq_emod_of_nonneg a0, ← hra]; rfl
        have htb : (b : Int).tmod (i : Int) = (rb : Int) := by rw [Int.tmod_eq_emod_of_nonneg b0, ← hrb]; rfl
        have HY := Lib.hid (And.intro hra hrb)
        clear hra hrb
        by_cases hza : ra = 0
        · subst hza
          by_cases hzb : rb = 0
          · subst hzb
            go_wp2_with fail
            go_roundw
            case rel =>
              exact ⟨i, i + 1, rfl, by simp, by omega, by omega, CdI.yes (d := d) hi1 (Nat.dvd_of_mod_eq_zero HY.out.1) (Nat.dvd_of_mod_eq_zero HY.out.2), HR.out.2⟩
            case measure => simp [intOf]; omega
          · have hzbf : ((rb : Int) == 0) = false := by simp; omega
            go_wp2_with fail
            go_roundw
            case rel => exact ⟨d, i + 1, rfl, by simp, by omega, by omega, HR.out.1.no (fun h => hzb (by rw [← HY.out.2]; exact Nat.mod_eq_zero_of_dvd h.2)), HR.out.2⟩
            case measure => simp [intOf]; omega
        · have hzaf : ((ra : Int) == 0) = false := by simp; omega
          go_wp2_with fail
          go_roundw
          case rel => exact ⟨d, i + 1, rfl, by simp, by omega, by omega, HR.out.1.no (fun h => hza (by rw [← HY.out.1]; exact Nat.mod_eq_zero_of_dvd h.1)), HR.out.2⟩
          case measure => simp [intOf]; omega
      · have hib1 : ¬ (i : Int) ≤ (b : Int) := by omega
        go_wp2_with fail
        go_ret
        exact ⟨by rw [HR.out.1.done HAB.out.1.1 (.inr (by omega)) HAB.out.2.1]; rfl, HR.out.2⟩
    · have hia1 : ¬ (i : Int) ≤ (a : Int) := by omega
      go_wp2_with fail
      go_ret
      exact ⟨by rw [HR.out.1.done HAB.out.1.1 (.inl (by omega)) HAB.out.2.1]; rfl, HR.out.2⟩

theorem ROk.lift {w w1 w2 : World} {l : List UInt8} {e : Ending} (hb : Below w.heap.size w w1) (h : ROk w1 l e w2) : ROk w l e w2 := by
  obtain ⟨A, c, h1, h2, h3⟩ := h
  exact ⟨A, c, h1, h2.down hb.size, next hb h3⟩
def SprR (w : World) (n al : Int) (e : Ending) (w' : World) : Prop := (SprOk n al ∧ ROk w (pts n.toNat) e w') ∨ (¬ SprOk n al ∧ RNo w e w')
set_option maxHeartbeats 2000000 in
theorem refSpread_out (w : World) (n al : Int) (h : al < 1 ∨ 255 < al) : Calls Try.prog 13 #[.int .i64 n, .int .i64 al] w (SprR w n al) := by
  have HR := Lib.hid (show SprR w n al (.returned (.tuple #[.slice none 0 0, .int .i64 2])) w from .inr ⟨fun h' => by have h1 := h'.1; have h2 := h'.2.1; omega, rfl, Mem.start w⟩)
  rcases h with h | h
  · go_enter Try.func13, Try.ntmps13
    go_wp2_with fail
    go_ret2
    exact HR.out
  · have h0 : ¬ al < 1 := by omega
    go_enter Try.func13, Try.ntmps13
    go_wp2_with fail
    go_ret2
    exact HR.out
set_option maxHeartbeats 2000000 in
theorem refSpread_in (w : World) (n : Int) (k : Nat) (h1 : 1 ≤ k) (h2 : k ≤ 255) : Calls Try.prog 13 #[.int .i64 n, .int .i64 (k : Int)] w (SprR w n (k : Int)) := by
  have hk1 : ¬ (k : Int) < 1 := by omega
  have hk2 : ¬ (255 : Int) < (k : Int) := by omega
  have HC := Lib.hid (refCommon_any w k 255 (by omega) (by omega))
  have hgp : 1 ≤ Nat.gcd k 255 := Nat.gcd_pos_of_pos_left _ h1
  have hgl : Nat.gcd k 255 ≤ k := Nat.gcd_le_left _ h1
  have HS := Lib.hid (show SprOk n (k : Int) ↔ 0 ≤ n ∧ n ≤ ((255 / Nat.gcd k 255 : Nat) : Int) from by
    unfold SprOk; rw [show ((k : Int)).toNat = k from rfl]
    exact ⟨fun h => ⟨h.2.2.1, h.2.2.2⟩, fun h => ⟨by omega, by omega, h.1, h.2⟩⟩)
  generalize Nat.gcd k 255 = g at *
  obtain ⟨q, hq⟩ : ∃ q, 255 / g = q := ⟨_, rfl⟩
  have hqi : (255 : Int).tdiv (g : Int) = (q : Int) := by rw [Int.tdiv_eq_ediv_of_nonneg (by omega), ← hq]; first | rfl | simp | (push_cast; rfl)
  have hql : q ≤ 255 := by rw [← hq]; exact Nat.div_le_self _ _
  have hg0 : ((g : Int) == 0) = false := by simp; omega
  have hg1 : (1 : Int) ≤ (g : Int) := by omega
  have hqi2 : (q : Int) ≤ 255 := by omega
  have hqi0 : (0 : Int) ≤ (q : Int) := by omega
  have hg2 : (g : Int) ≤ 255 := by omega
  rw [hq] at HS
  have HQL := Lib.hid hql
  clear hq hgp hgl h1 h2 hql
  by_cases hn0 : n < 0
  · go_enter Try.func13, Try.ntmps13
    go_wp2_with fail
    go_ret2
    exact .inr ⟨fun h => by have := HS.out.1 h; omega, rfl, Mem.start w⟩
  · by_cases hnq : (q : Int) < n
    · go_enter Try.func13, Try.ntmps13
      go_wp2_with fail
      refine HC.out.mono ?_
      rintro e w1 ⟨rfl, hb⟩
      have HB := Lib.hid hb
      clear hb HC
      go_wp2_with fail
      go_ret2
      exact .inr ⟨fun h => by have := HS.out.1 h; omega, rfl, HB.out⟩
    · obtain ⟨m, rfl⟩ : ∃ m : Nat, n = (m : Int) := ⟨n.toNat, by omega⟩
      go_enter Try.func13, Try.ntmps13
      go_wp2_with fail
      refine HC.out.mono ?_
      rintro e w1 ⟨rfl, hb⟩
      have HB := Lib.hid hb
      have HO := Lib.hid (refOf_ok w1 m (by have := HQL.out; omega))
      clear hb HC
      go_wp2_with fail
      refine HO.out.mono ?_
      rintro e w2 ⟨A, c, rfl, ho, hb2⟩
      have H2 := Lib.hid (And.intro ho hb2)
      clear ho hb2
      go_wp2_with fail
      go_ret2
      exact .inl ⟨HS.out.2 ⟨by omega, by omega⟩, ROk.lift HB.out ⟨A, c, rfl, H2.out⟩⟩
theorem refSpread_any (w : World) (n al : Int) : Calls Try.prog 13 #[.int .i64 n, .int .i64 al] w (SprR w n al) := by
  by_cases h : al < 1 ∨ 255 < al
  · exact refSpread_out w n al h
  · obtain ⟨k, rfl⟩ : ∃ k : Nat, al = (k : Int) := ⟨al.toNat, by omega⟩
    exact refSpread_in w n k (by omega) (by omega)
end Go.Proofs.Ytaeoocpiggebmaa.PtW
