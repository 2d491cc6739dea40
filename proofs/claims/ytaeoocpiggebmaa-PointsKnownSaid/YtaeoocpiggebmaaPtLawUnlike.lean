/- The law PointsUnlike: its walk. -/
import Derived.Test.YtaeoocpiggebmaaPtLawFirst
import Derived.Deep.RegionHeld3
namespace Go.Proofs.Ytaeoocpiggebmaa.PtW
open Go.RowKit Go.Shelf Mem Gf FdW Rng
set_option linter.unusedVariables false

theorem pl_pw (k : Nat) : pl 0 1 k = pw k := by unfold pl; congr 1; omega
theorem pts_get {N k : Nat} (h : k < N) : (pts N)[k]? = some (pw k) := by
  unfold pts; rw [List.getElem?_map, List.getElem?_range h, Option.map_some, pl_pw]
theorem unlike_pw {i k : Nat} (hk : k < i) (hi : i < 255) : pw i ≠ pw k := fun h => by
  have := pw_inj h
  rw [Nat.mod_eq_of_lt hi, Nat.mod_eq_of_lt (by omega)] at this
  omega
theorem pow_nat {i al : Nat} : pow (pw i) (al : Int) = pw (i * al) := by
  rw [pow_pw (pw_ne i)]
  refine pw_cong ?_
  rw [lg_pw_mod, show (((al : Int) % 255).toNat) = al % 255 from by omega, ← Nat.mul_mod]
theorem unlike_pow {i k al : Nat} (hk : k < i) (hi : i < 255 / Nat.gcd al 255) (ha : 1 ≤ al) : pow (pw i) (al : Int) ≠ pow (pw k) (al : Int) := fun h => by
  rw [pow_nat, pow_nat] at h
  have h1 := Nat.sub_mod_eq_zero_of_mod_eq (pw_inj h)
  rw [← Nat.sub_mul] at h1
  have h2 : 255 ∣ (i - k) * al := Nat.dvd_of_mod_eq_zero h1
  have hg : 0 < Nat.gcd al 255 := Nat.gcd_pos_of_pos_left _ ha
  have h3 : 255 / Nat.gcd al 255 ∣ (i - k) * (al / Nat.gcd al 255) := by
    obtain ⟨q, hq⟩ := h2
    obtain ⟨u, hu⟩ := Nat.gcd_dvd_left al 255
    obtain ⟨v, hv⟩ := Nat.gcd_dvd_right al 255
    have e1 : 255 / Nat.gcd al 255 = v := Nat.div_eq_of_eq_mul_right hg hv
    have e2 : al / Nat.gcd al 255 = u := Nat.div_eq_of_eq_mul_right hg hu
    rw [e1, e2]
    refine ⟨q, ?_⟩
    apply Nat.eq_of_mul_eq_mul_left hg
    rw [← Nat.mul_assoc, Nat.mul_comm _ (i - k), Nat.mul_assoc, ← hu, hq, ← Nat.mul_assoc, ← hv]
  have h4 := (Nat.Coprime.symm (Nat.coprime_div_gcd_div_gcd hg)).dvd_of_dvd_mul_right h3
  have h5 := Nat.le_of_dvd (by omega) h4
  omega
theorem cellP {w0 w : World} {p id g c k : Nat} {l : List UInt8} {R : List Rw} {x : UInt8} (h : PT w0 p (⟨id, some ⟨g, 0, none⟩, l, c⟩ :: R) w) (hk : l[k]? = some x) : w.cell? ⟨g, k, none⟩ = some (.int .u8 (x.toNat : Int)) := by
  have hlt : k < l.length := (List.getElem?_eq_some_iff.1 hk).1
  obtain ⟨g', hA, _, _, hc, _⟩ := (h.rows _ (List.mem_cons_self ..)).at_ (k := k) (by rw [List.length_map]; exact hlt)
  injection hA with hA; injection hA with hA; subst hA
  rw [hc, List.getElem_map, (List.getElem?_eq_some_iff.1 hk).2]; rfl
theorem rowP {w0 w : World} {p id c k : Nat} {A : Option Addr} {l : List UInt8} {R : List Rw} (h : PT w0 p (⟨id, A, l, c⟩ :: R) w) (hk : k < l.length) : ∃ g, A = some ⟨g, 0, none⟩ := by
  obtain ⟨g', hA, _⟩ := (h.rows _ (List.mem_cons_self ..)).at_ (k := k) (by rw [List.length_map]; exact hk)
  exact ⟨g', hA⟩

set_option maxRecDepth 100000 in
set_option maxHeartbeats 8000000 in
theorem unlike_no (w : World) (n al : Int) (hs : ¬ SprOk n al) : Calls Try.prog 6 #[.int .i64 n, .int .i64 al] w fun e w' => e = .returned (.bool true) ∧ Below w.heap.size w w' := by
  have HS := Lib.hid hs
  clear hs
  go_enter Try.func6, Try.ntmps6
  go_wp2_with fail
  refine (newT _).mono ?_
  rintro e w1 ⟨rfl, h⟩
  have H1 := Lib.hid h
  clear h
  go_wp2_with fail
  refine (sprT H1.out 2 n al).mono ?_
  rintro e w2 ⟨A2, c2, rfl, h⟩
  rw [sprE_no HS.out]
  have H2 := Lib.hid h
  clear h
  go_wp2_with fail
  refine (works_any _).mono ?_
  rintro e w3 ⟨rfl, hb⟩
  have H3 := Lib.hid (PT.keep H2.out hb)
  clear hb
  go_wp2_with fail
  go_ret
  exact ⟨rfl, H3.out.below⟩
set_option maxRecDepth 100000 in
set_option maxHeartbeats 16000000 in
theorem unlike_ok (w : World) (N al : Nat) (ha : 1 ≤ al ∧ al ≤ 255) (hN : N ≤ 255 / Nat.gcd al 255) (hs : SprOk (N : Int) (al : Int)) : Calls Try.prog 6 #[.int .i64 (N : Int), .int .i64 (al : Int)] w fun e w' => e = .returned (.bool true) ∧ Below w.heap.size w w' := by
  have HS := Lib.hid hs
  have hN2 : N ≤ 255 := Nat.le_trans hN (Nat.div_le_self _ _)
  have hNi : (N : Int) ≤ 255 := by omega
  have HN := Lib.hid (And.intro ha (And.intro hN hN2))
  clear hs ha hN
  go_enter Try.func6, Try.ntmps6
  go_wp2_with fail
  refine (newT _).mono ?_
  rintro e w1 ⟨rfl, h⟩
  have H1 := Lib.hid h
  clear h
  go_wp2_with fail
  refine (sprT H1.out 2 (N : Int) (al : Int)).mono ?_
  rintro e w2 ⟨A2, c2, rfl, h⟩
  rw [sprE_ok HS.out, sprL_ok HS.out, pts_len]
  rw [sprL_ok HS.out] at h
  have H2 := Lib.hid h
  clear h
  go_wp2_with fail
  go_loopw [8] (fun i wr => ∃ k : Nat, i = .int .i64 (k : Int) ∧ k ≤ N ∧ PT w w.heap.size [⟨2, A2, pts N, c2⟩] wr) (fun i _ => N - (intOf i).toNat)
  case atStart => exact ⟨0, rfl, by omega, H2.out⟩
  case round =>
    obtain ⟨k, rfl, hk, h⟩ := hrel
    have HR := Lib.hid h
    clear h H2
    obtain ⟨wo, rfl⟩ : ∃ wo : World, wo = wr := ⟨_, rfl⟩
    by_cases hkN : k < N
    · obtain ⟨g, rfl⟩ := rowP HR.out (k := k) (by rw [pts_len]; exact hkN)
      have hki : (k : Int) < (N : Int) := by omega
      have hk0 : (0 : Int) ≤ (k : Int) := by omega
      go_wp2_with fail
      go_loopw [9] (fun i wr => ∃ m : Nat, i = .int .i64 (m : Int) ∧ m ≤ k ∧ PT w w.heap.size [⟨2, some ⟨g, 0, none⟩, pts N, c2⟩] wr) (fun i _ => k - (intOf i).toNat)
      case atStart => exact ⟨0, rfl, by omega, HR.out⟩
      case round =>
        obtain ⟨m, rfl, hm, h⟩ := hrel
        obtain ⟨wp, rfl⟩ : ∃ wp : World, wp = wr := ⟨_, rfl⟩
        by_cases hmk : m < k
        · have hmi : (m : Int) < (k : Int) := by omega
          have hmN : (m : Int) < (N : Int) := by omega
          have hm0 : (0 : Int) ≤ (m : Int) := by omega
          have h1 := unlike_pw hmk (by omega)
          have h2 := unlike_pow hmk (Nat.lt_of_lt_of_le hkN HN.out.2.1) HN.out.1.1
          have HX := Lib.hid (pts_get hkN)
          have HY := Lib.hid (pts_get (N := N) (k := m) (by omega))
          generalize pw k = x at *
          generalize pw m = y at *
          obtain ⟨px, hpx⟩ : ∃ px, pow x (al : Int) = px := ⟨_, rfl⟩
          obtain ⟨py, hpy⟩ : ∃ py, pow y (al : Int) = py := ⟨_, rfl⟩
          rw [hpx, hpy] at h2
          have d1 : ((x.toNat : Int) == (y.toNat : Int)) = false := by simp; intro e; exact h1 (UInt8.toNat_inj.1 (by omega))
          have d2 : ((px.toNat : Int) == (py.toNat : Int)) = false := by simp; intro e; exact h2 (UInt8.toNat_inj.1 (by omega))
          have KX := Lib.hid (show ∀ W, PT w w.heap.size [⟨2, some ⟨g, 0, none⟩, pts N, c2⟩] W → Calls Try.prog 21 #[.pointer (some ⟨w.heap.size, 0, none⟩), .int .u8 (x.toNat : Int), .int .i64 (al : Int)] W fun e w' => e = .returned (.int .u8 (px.toNat : Int)) ∧ PT w w.heap.size [⟨2, some ⟨g, 0, none⟩, pts N, c2⟩] w' from fun W hW => by rw [← hpx]; exact powT hW _ x rfl _)
          have KY := Lib.hid (show ∀ W, PT w w.heap.size [⟨2, some ⟨g, 0, none⟩, pts N, c2⟩] W → Calls Try.prog 21 #[.pointer (some ⟨w.heap.size, 0, none⟩), .int .u8 (y.toNat : Int), .int .i64 (al : Int)] W fun e w' => e = .returned (.int .u8 (py.toNat : Int)) ∧ PT w w.heap.size [⟨2, some ⟨g, 0, none⟩, pts N, c2⟩] w' from fun W hW => by rw [← hpy]; exact powT hW _ y rfl _)
          have hc1 := cellP h HX.out
          have hc2 := cellP h HY.out
          have H3 : PT w w.heap.size [⟨2, some ⟨g, 0, none⟩, pts N, c2⟩] wp.drew := h.keep (nextN (Mem.start wp) 1)
          clear h h1 h2 hpx hpy
          go_wp2_with fail
          go_region_held3 (fun w' => w'.cell? ⟨g, k, none⟩ = some (.int .u8 (x.toNat : Int)) ∧ w'.cell? ⟨g, m, none⟩ = some (.int .u8 (y.toNat : Int)) ∧ PT w w.heap.size [⟨2, some ⟨g, 0, none⟩, pts N, c2⟩] w')
            (first | exact ⟨cellP (by assumption) HX.out, cellP (by assumption) HY.out, by assumption⟩ | go_keep)
            (first
              | ((with_reducible refine (KX.out _ (by assumption)).mono ?_); rintro e w3 ⟨rfl, h⟩)
              | ((with_reducible refine (KY.out _ (by assumption)).mono ?_); rintro e w3 ⟨rfl, h⟩))
          go_wp2_with fail
          go_roundw
          case rel => exact ⟨m + 1, by simp, by omega, by assumption⟩
          case measure => simp [intOf]; omega
        · obtain rfl : m = k := by omega
          have hx0 := pw_ne m
          have HX := Lib.hid (pts_get hkN)
          generalize pw m = x at *
          have d1 : ((x.toNat : Int) == 0) = false := by simp; intro e; exact hx0 (UInt8.toNat_inj.1 (by rw [e]; rfl))
          have hc1 := cellP h HX.out
          have H3 := Lib.hid h
          clear h hx0
          go_wp2_with fail
          go_roundw
          case rel => exact ⟨m + 1, by simp, by omega, H3.out⟩
          case measure => simp [intOf]; omega
    · obtain rfl : k = N := by omega
      go_wp2_with fail
      refine (works_any _).mono ?_
      rintro e w3 ⟨rfl, hb⟩
      have H3 := Lib.hid (PT.keep HR.out hb)
      clear hb
      go_wp2_with fail
      go_ret
      exact ⟨rfl, H3.out.below⟩
theorem unlike_law (w : World) (n : Int) (al : Int) : Calls Try.prog 6 #[.int .i64 n, .int .i64 al] w fun e w' => e = .returned (.bool true) ∧ Below w.heap.size w w' := by
  by_cases hs : SprOk n al
  · have hs' := hs
    obtain ⟨h1, h2, h3, h4⟩ := hs'
    obtain ⟨N, rfl⟩ : ∃ N : Nat, n = (N : Int) := ⟨n.toNat, by omega⟩
    obtain ⟨a, rfl⟩ : ∃ a : Nat, al = (a : Int) := ⟨al.toNat, by omega⟩
    rw [Int.toNat_natCast] at h4
    exact unlike_ok w N a (by omega) (by omega) hs
  · exact unlike_no w n al hs
theorem unlike_claim (w : World) (n : Int) (_ : B64 n) (al : Int) (_ : B64 al) : Calls Try.prog 6 #[.int .i64 n, .int .i64 al] w fun e w' => e = .returned (.bool true) ∧ Below w.heap.size w w' := unlike_law w n al
end Go.Proofs.Ytaeoocpiggebmaa.PtW
