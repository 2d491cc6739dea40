/- The law MatrixPowers: its walk. -/
import Derived.Test.YthdapoipfnnaeaaMxWorks
namespace Go.Proofs.Ythdapoipfnnaeaa.MxW
open Go.RowKit Go.Shelf Mem Gf FdW Mx Rng
open PlW (In)
set_option linter.unusedVariables false
set_option linter.unusedSectionVars false
attribute [local go_sem] Oper.semAt_some wide_fn

theorem solves_sq (r : Nat) (a : M) : solves r r r a idm = decide (rankM r r a = r) := by
  unfold solves rankM
  rw [List.drop_of_length_le (by rw [flat_len]; exact Nat.le_refl _), (Mx.redTo_A a idm (fun _ _ => 0) r r).2]
  simp [anyNz]
/-- Is place i none of the first k? -/
def frst (xs : List UInt8) (i k : Nat) : Bool := decide (∀ j, j < k → xs.getD j 0 ≠ xs.getD i 0)
theorem frst_zero (xs : List UInt8) (i : Nat) : frst xs i 0 = true := by unfold frst; exact decide_eq_true fun j hj => absurd hj (Nat.not_lt_zero _)
theorem frst_off {xs : List UInt8} {i k : Nat} (h : frst xs i k = false) : frst xs i (k + 1) = false := by
  unfold frst at h ⊢
  rw [decide_eq_false_iff_not] at h ⊢
  exact fun h2 => h fun j hj => h2 j (by omega)
theorem frst_hit {xs : List UInt8} {i k : Nat} (h : xs.getD k 0 = xs.getD i 0) : frst xs i (k + 1) = false := by
  unfold frst
  rw [decide_eq_false_iff_not]
  exact fun h2 => h2 k (by omega) h
theorem frst_on {xs : List UInt8} {i k : Nat} (h : frst xs i k = true) (h2 : xs.getD k 0 ≠ xs.getD i 0) : frst xs i (k + 1) = true := by
  unfold frst at h ⊢
  rw [decide_eq_true_iff] at h ⊢
  intro j hj
  by_cases e : j = k
  · rw [e]; exact h2
  · exact h j (by omega)
theorem unl_on {xs : List UInt8} {i : Nat} (h : frst xs i i = true) : (unl xs (i + 1)).length = (unl xs i).length + 1 := by
  unfold frst at h
  rw [decide_eq_true_iff] at h
  rw [unl, if_neg, List.length_append, List.length_singleton]
  rw [unl_mem]
  rintro ⟨j, hj, e⟩
  exact h j hj e
theorem unl_off {xs : List UInt8} {i : Nat} (h : frst xs i i = false) : (unl xs (i + 1)).length = (unl xs i).length := by
  unfold frst at h
  rw [decide_eq_false_iff_not] at h
  rw [unl, if_pos]
  rw [unl_mem]
  refine Classical.byContradiction fun h2 => h fun j hj e => h2 ⟨j, hj, e⟩
set_option maxRecDepth 100000 in
set_option maxHeartbeats 4000000 in
theorem powers_out (w : World) (A : Option Addr) (xs : List UInt8) (n c : Nat) (hn : xs.length = n) (h : (10 : Int) < n ∨ n = 0) :
    Calls Try.prog 3 #[.slice A n c] w fun e w' => e = .returned (.bool true) ∧ Below w.heap.size w w' := by
  rcases h with h | h
  · go_enter Try.func3, Try.ntmps3
    go_wp2_with fail
    refine (works_any _).mono ?_
    rintro e w1 ⟨rfl, hb⟩
    have H1 := Lib.hid hb
    clear hb
    go_wp2_with fail
    go_ret
    exact ⟨rfl, H1.out⟩
  · subst h
    clear hn
    go_enter Try.func3, Try.ntmps3
    go_wp2_with fail
    refine (works_any _).mono ?_
    rintro e w1 ⟨rfl, hb⟩
    have H1 := Lib.hid hb
    clear hb
    go_wp2_with fail
    go_ret
    exact ⟨rfl, H1.out⟩
set_option maxRecDepth 100000 in
set_option maxHeartbeats 4000000 in
theorem powers_in (w : World) (A : Option Addr) (xs : List UInt8) (n c : Nat) (hn : xs.length = n) (hc : n ≤ c) (hA : Bytes w w.heap.size A xs) (h1 : ¬ (10 : Int) < n) (h0 : ((n : Int) == 0) = false) :
    Calls Try.prog 3 #[.slice A n c] w fun e w' => e = .returned (.bool true) ∧ Below w.heap.size w w' := by
  have H0 := Lib.hid ((MS.start w).arg hA (by rw [hn]; exact hc))
  have HN := Lib.hid hn
  clear hA hn hc
  go_enter Try.func3, Try.ntmps3
  go_wp2_with fail
  refine (newR H0.out).mono ?_
  rintro e w1 ⟨rfl, h⟩
  have H1 := Lib.hid h
  clear h
  go_wp2_with fail
  go_loopw [4, 5] (fun u i wr => ∃ k : Nat, i = .int .i64 (k : Int) ∧ u = .int .i64 ((unl xs k).length : Int) ∧ k ≤ n ∧ MS w (some w.heap.size) [⟨A, xs, c⟩] [] wr) (fun _ i _ => n - (intOf i).toNat)
  case atStart => exact ⟨0, rfl, rfl, Nat.zero_le _, H1.out⟩
  case round =>
    obtain ⟨i, rfl, rfl, hi, h⟩ := hrel
    have H2 := Lib.hid h
    clear h H1
    obtain ⟨w2, rfl⟩ : ∃ w2 : World, w2 = wr := ⟨_, rfl⟩
    obtain ⟨u, hu⟩ : ∃ u, (unl xs i).length = u := ⟨_, rfl⟩
    have hu9 : (u : Int) ≤ 10 := by have := unl_len xs i; omega
    rw [hu]
    have HU := Lib.hid hu
    clear hu
    by_cases hin : i < n
    · have hi1 : (i : Int) < (n : Int) := by omega
      have hi0 : (0 : Int) ≤ (i : Int) := by omega
      have hwi : IntKind.i64.wrap ((i : Int) + 1) = ((i + 1 : Nat) : Int) := by rw [IntWalk.i64_in _ (by omega)]; omega
      have hwu : IntKind.i64.wrap ((u : Int) + 1) = ((u + 1 : Nat) : Int) := by rw [IntWalk.i64_in _ (by omega)]; omega
      go_wp2_with fail
      go_loopw [6, 7] (fun b k wr => ∃ j : Nat, k = .int .i64 (j : Int) ∧ b = .bool (frst xs i j) ∧ j ≤ i ∧ MS w (some w.heap.size) [⟨A, xs, c⟩] [] wr) (fun _ k _ => i - (intOf k).toNat)
      case atStart => exact ⟨0, rfl, by rw [frst_zero], Nat.zero_le _, H2.out⟩
      case round =>
        obtain ⟨j, rfl, rfl, hj, h⟩ := hrel
        have H3 := Lib.hid h
        clear h
        obtain ⟨w3, rfl⟩ : ∃ w3 : World, w3 = wr := ⟨_, rfl⟩
        by_cases hji : j < i
        · have hj1 : (j : Int) < (i : Int) := by omega
          have hj2 : (j : Int) < (n : Int) := by omega
          have hj0 : (0 : Int) ≤ (j : Int) := by omega
          have hwj : IntKind.i64.wrap ((j : Int) + 1) = ((j + 1 : Nat) : Int) := by rw [IntWalk.i64_in _ (by omega)]; omega
          cases hf : frst xs i j with
          | false =>
            have HF := Lib.hid (frst_off hf)
            clear hf
            go_wp2_with fail
            go_quiet (fail)
            go_wp2_with fail
            go_roundw
            case rel => exact ⟨j + 1, rfl, by rw [HF.out], hji, H3.out.keep (nextN (Mem.start _) _)⟩
            case measure => simp [intOf]; omega
          | true =>
            have HF := Lib.hid hf
            clear hf
            obtain ⟨b, o, rfl, hb, hcj⟩ := (H3.out.row _ (.head _)).1.at_ (k := j) (by rw [HN.out]; omega)
            obtain ⟨b', o', e', hb', hci⟩ := (H3.out.row _ (.head _)).1.at_ (k := i) (by rw [HN.out]; omega)
            injection e' with e'; injection e' with e' e''
            subst e'; subst e''
            dsimp only at hcj hci
            obtain ⟨x, hx⟩ : ∃ x, xs.getD j 0 = x := ⟨_, rfl⟩
            obtain ⟨y, hy⟩ : ∃ y, xs.getD i 0 = y := ⟨_, rfl⟩
            rw [show xs[j]'(by rw [HN.out]; omega) = x from by rw [← hx, List.getD_eq_getElem?_getD, List.getElem?_eq_getElem (by rw [HN.out]; omega)]; rfl] at hcj
            rw [show xs[i]'(by rw [HN.out]; omega) = y from by rw [← hy, List.getD_eq_getElem?_getD, List.getElem?_eq_getElem (by rw [HN.out]; omega)]; rfl] at hci
            by_cases hxy : x = y
            · have HF2 := Lib.hid (frst_hit (xs := xs) (i := i) (k := j) (by rw [hx, hy, hxy]))
              have hne : ((x.toNat : Int) != (y.toNat : Int)) = false := by rw [hxy]; simp
              clear hx hy hxy
              go_wp2_with fail
              go_quiet (fail)
              go_wp2_with fail
              go_roundw
              case rel => exact ⟨j + 1, rfl, by rw [HF2.out], hji, H3.out.keep (nextN (Mem.start _) _)⟩
              case measure => simp [intOf]; omega
            · have HF2 := Lib.hid (frst_on HF.out (by rw [hx, hy]; exact hxy))
              have hne : ((x.toNat : Int) != (y.toNat : Int)) = true := by
                rw [bne_iff_ne]; exact fun e => hxy (UInt8.toNat_inj.1 (by omega))
              clear hx hy hxy
              go_wp2_with fail
              go_quiet (fail)
              go_wp2_with fail
              go_roundw
              case rel => exact ⟨j + 1, rfl, by rw [HF2.out], hji, H3.out.keep (nextN (Mem.start _) _)⟩
              case measure => simp [intOf]; omega
        · obtain rfl : i = j := by omega
          cases hf : frst xs i i with
          | false =>
            have HF := Lib.hid (unl_off hf)
            clear hf
            go_wp2_with fail
            go_roundw
            case rel => exact ⟨i + 1, rfl, by rw [HF.out, HU.out], hin, H3.out⟩
            case measure => simp [intOf]; omega
          | true =>
            have HF := Lib.hid (unl_on hf)
            clear hf
            go_wp2_with fail
            go_roundw
            case rel => exact ⟨i + 1, rfl, by rw [HF.out, HU.out]; simp, hin, H3.out⟩
            case measure => simp [intOf]; omega
    · obtain rfl : n = i := by omega
      have HR := Lib.hid (show rankM n n (powM xs) = u from by rw [← HU.out, ← van_rank]; rfl)
      have hn9 : n ≤ 10 := by omega
      have HN9 := Lib.hid hn9
      go_wp2_with fail
      refine (powR H2.out (c := n) (.head _) HN.out rfl (by have := HN9.out; omega) n (n * n) ⟨rfl, rfl⟩ rfl).mono ?_
      rintro e w3 ⟨A3, c3, rfl, h⟩
      have H3 := Lib.hid h
      clear h
      have L1 := Lib.hid (H3.out.put #[.int .i64 n, .int .i64 n, .slice A3 (n * n) c3])
      obtain ⟨a1, b1, d1⟩ := L1.out.cells (.head _)
      go_wp2_with fail
      clear a1 b1 d1
      generalize w3.alloc (.cells #[.int .i64 n, .int .i64 n, .slice A3 (n * n) c3] 27) = w4 at *
      refine (rankR L1.out (.head _) rfl ⟨rfl, rfl⟩ (by have := HN9.out; omega) rfl u (by rw [HR.out])).mono ?_
      rintro e w5 ⟨rfl, h⟩
      have H5 := Lib.hid h
      clear h
      obtain ⟨a1, b1, d1⟩ := H5.out.cells (.head _)
      go_wp2_with fail
      clear a1 b1 d1
      by_cases hun : u = n
      · subst hun
        refine (invR H5.out (.head _) rfl ⟨rfl, rfl⟩ (by have := HN9.out; omega) rfl (by rw [solves_sq, HR.out]; simp) u (u * u) ⟨rfl, rfl⟩ rfl).mono ?_
        rintro e w6 ⟨A6, c6, rfl, h⟩
        have H6 := Lib.hid h
        clear h
        have L2 := Lib.hid (H6.out.put #[.int .i64 u, .int .i64 u, .slice A6 (u * u) c6])
        go_wp2_with fail
        generalize w6.alloc (.cells #[.int .i64 u, .int .i64 u, .slice A6 (u * u) c6] 27) = w7 at *
        refine (works_any _).mono ?_
        rintro e w8 ⟨rfl, hb⟩
        have H8 := Lib.hid (L2.out.keep hb)
        clear hb
        go_wp2_with fail
        go_ret
        exact ⟨rfl, H8.out.below⟩
      · refine (inv1R H5.out (.head _) rfl ⟨rfl, rfl⟩ (by have := HN9.out; omega) rfl (by rw [solves_sq, HR.out]; simpa using hun)).mono ?_
        rintro e w6 ⟨rfl, h⟩
        have H6 := Lib.hid h
        clear h
        have hun1 : ((u : Int) == (n : Int)) = false := by simp; omega
        have L2 := Lib.hid (H6.out.put #[.int .i64 0, .int .i64 0, .slice none 0 0])
        go_wp2_with fail
        generalize w6.alloc (.cells #[.int .i64 0, .int .i64 0, .slice none 0 0] 27) = w7 at *
        refine (works_any _).mono ?_
        rintro e w8 ⟨rfl, hb⟩
        have H8 := Lib.hid (L2.out.keep hb)
        clear hb
        go_wp2_with fail
        go_ret
        exact ⟨rfl, H8.out.below⟩
theorem powers_law (w : World) (A : Option Addr) (l : List UInt8) (c : Nat) (hc : l.length ≤ c) (_ : c ≤ maxLen) (hA : Bytes w w.heap.size A l) :
    Calls Try.prog 3 #[.slice A l.length c] w fun e w' => e = .returned (.bool true) ∧ Below w.heap.size w w' := by
  by_cases h : (10 : Int) < (l.length : Int) ∨ l.length = 0
  · exact powers_out w A l l.length c rfl h
  · exact powers_in w A l l.length c rfl hc hA (fun h1 => h (.inl h1)) (by simp; exact fun h1 => h (.inr (by rw [h1]; rfl)))
end Go.Proofs.Ythdapoipfnnaeaa.MxW
