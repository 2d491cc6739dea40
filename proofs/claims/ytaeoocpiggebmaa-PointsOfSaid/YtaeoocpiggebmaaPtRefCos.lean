/- The document's points: Cosets. -/
import Derived.Test.YtaeoocpiggebmaaPtCos
namespace Go.Proofs.Ytaeoocpiggebmaa.PtW
open Go.RowKit Go.Shelf Mem Gf FdW Rng
set_option linter.unusedVariables false
set_option linter.unusedSimpArgs false

def CosR (w : World) (r g : Int) (e : Ending) (w' : World) : Prop := (CosOk r g ∧ ROk w (cosL (255 / (r.toNat + 1)) (r.toNat + 1) g.toNat) e w') ∨ (¬ CosOk r g ∧ RNo w e w')
set_option maxHeartbeats 4000000 in
theorem refCosets_no (w : World) (r g : Int) (h : ¬ CosOk r g) : Calls Try.prog 15 #[.int .i64 r, .int .i64 g] w (CosR w r g) := by
  have HR := Lib.hid (show CosR w r g (.returned (.tuple #[.slice none 0 0, .int .i64 2])) w from .inr ⟨h, rfl, Mem.start w⟩)
  by_cases h1 : r < 1
  · go_enter Try.func15, Try.ntmps15
    go_wp2_with fail
    go_ret2
    exact HR.out
  by_cases h2 : 254 < r
  · go_enter Try.func15, Try.ntmps15
    go_wp2_with fail
    go_ret2
    exact HR.out
  have hr1 : (1 : Int) ≤ r := by omega
  have hr2 : r ≤ 254 := by omega
  have ht : (255 : Int).tmod (r + 1) = 255 % (r + 1) := Int.tmod_eq_emod_of_nonneg (by omega)
  have hd : (255 : Int).tdiv (r + 1) = 255 / (r + 1) := Int.tdiv_eq_ediv_of_nonneg (by omega)
  have hz : ((r + 1 : Int) == 0) = false := by simp; omega
  have HC := Lib.hid (show ¬ (255 % (r + 1) = 0 ∧ 0 ≤ g ∧ g ≤ 255 / (r + 1)) from fun h' => h ⟨hr1, hr2, h'⟩)
  clear h
  have hm0 : 0 ≤ 255 % (r + 1) := Int.emod_nonneg _ (by omega)
  have hq0 : 0 ≤ 255 / (r + 1) := Int.ediv_nonneg (by omega) (by omega)
  have hq1 : 255 / (r + 1) ≤ 255 := Int.ediv_le_self _ (by omega)
  generalize 255 % (r + 1) = m at *
  generalize 255 / (r + 1) = q at *
  by_cases h3 : m = 0
  · subst h3
    by_cases h4 : g < 0
    · go_enter Try.func15, Try.ntmps15
      go_wp2_with fail
      go_ret2
      exact HR.out
    · have h5 : q < g := by have := HC.out; omega
      go_enter Try.func15, Try.ntmps15
      go_wp2_with fail
      go_ret2
      exact HR.out
  · have h3b : (m == 0) = false := by simpa using h3
    go_enter Try.func15, Try.ntmps15
    go_wp2_with fail
    go_ret2
    exact HR.out


theorem pow_step (s e : Nat) (hs : s ≤ 255) : pow (pw s) (e : Int) = pw (s * e) := by
  rw [pow_pw (pw_ne s)]
  refine pw_cong ?_
  rw [lg_pw_mod, Nat.mul_mod, Nat.mod_mod, show (((e : Int) % 255).toNat) = e % 255 from by omega, Nat.mod_mod, ← Nat.mul_mod]
theorem cos_val (c s e : Nat) (hs : s ≤ 255) : mul (pow 2 (c : Int)) (pow (pw s) (e : Int)) = pl c s e := by
  rw [pow_step s e hs, pow_two, pl, pw_add, show (((c : Int) % 255).toNat) = c % 255 from by omega, pw_mod]

theorem cos_snoc (s R1 k e : Nat) : cosL s R1 k ++ (List.range (e + 1)).map (pl k s) = (cosL s R1 k ++ (List.range e).map (pl k s)) ++ [pl k s e] := by rw [List.range_succ, List.map_append, List.append_assoc]; rfl
theorem cos_len2 (s R1 k e : Nat) : (cosL s R1 k ++ (List.range e).map (pl k s)).length = R1 * k + e := by rw [List.length_append, cosL_len, List.length_map, List.length_range]
set_option maxRecDepth 100000 in
set_option maxHeartbeats 8000000 in
theorem refCosets_ok (w : World) (R G s : Nat) (hR : 1 ≤ R ∧ R ≤ 254) (hs : 255 / (R + 1) = s) (hm : 255 % (R + 1) = 0) (hG : G ≤ s) : Calls Try.prog 15 #[.int .i64 (R : Int), .int .i64 (G : Int)] w (ROk w (cosL s (R + 1) G)) := by
  obtain ⟨i0, hi0, hz0, hz1, hz2⟩ := info_parts u8info
  have hmul : s * (R + 1) = 255 := by have := Nat.div_add_mod 255 (R + 1); rw [hs, hm, Nat.add_zero, Nat.mul_comm] at this; exact this
  have hs1 : s ≤ 255 := by rw [← hs]; exact Nat.div_le_self _ _
  have r1 : (1 : Int) ≤ (R : Int) := by omega
  have r2 : (R : Int) ≤ 254 := by omega
  have ht : (255 : Int).tmod ((R : Int) + 1) = 0 := by rw [Int.tmod_eq_emod_of_nonneg (by omega), show (255 : Int) % ((R : Int) + 1) = ((255 % (R + 1) : Nat) : Int) from by simp, hm]; rfl
  have hd : (255 : Int).tdiv ((R : Int) + 1) = (s : Int) := by rw [Int.tdiv_eq_ediv_of_nonneg (by omega), ← hs]; simp
  have hz : (((R : Int) + 1) == 0) = false := by simp; omega
  have g0 : (0 : Int) ≤ (G : Int) := by omega
  have g1 : (G : Int) ≤ (s : Int) := by omega
  have s1 : (s : Int) ≤ 255 := by omega
  have s0 : (0 : Int) ≤ (s : Int) := by omega
  have n1 : ¬ (R : Int) < 1 := by omega
  have n2 : ¬ (254 : Int) < (R : Int) := by omega
  have n3 : ¬ (G : Int) < 0 := by omega
  have n4 : ¬ (s : Int) < (G : Int) := by omega
  have HN := Lib.hid (And.intro (And.intro hmul hs1) (And.intro hR hG))
  have HLB := Lib.hid (show ∀ k e, k < G → e ≤ R + 1 → (R + 1) * k + e ≤ 255 from fun k e h1 h2 => by
    have h3 : (R + 1) * (k + 1) ≤ (R + 1) * s := Nat.mul_le_mul_left _ (by omega)
    rw [Nat.mul_comm (R + 1) s, hmul, Nat.mul_succ] at h3; omega)
  clear hmul hs1 hs hm hR hG
  go_enter Try.func15, Try.ntmps15
  go_wp2_with fail
  refine (refPow_any 2 2 rfl (s : Int) _).mono ?_
  rintro e w' ⟨rfl, rfl⟩
  have HPS := Lib.hid (show pow 2 (s : Int) = pw s from by rw [pow_two, show (((s : Int) % 255).toNat) = s % 255 from by omega, pw_mod])
  rw [HPS.out]
  go_wp2_with fail
  go_loopw [7, 8] (fun l i wr => ∃ (k : Nat) (A : Option Addr) (c m : Nat), i = .int .i64 (k : Int) ∧ l = .slice A m c ∧ m = (R + 1) * k ∧ k ≤ G ∧ Mem.Own wr w.heap.size 5 A c ((cosL s (R + 1) k).map u8v) ∧ Below w.heap.size w wr) (fun _ i _ => G - (intOf i).toNat)
  case atStart => exact ⟨0, none, 0, 0, rfl, rfl, rfl, by omega, Mem.Own.nil, Mem.start w⟩
  case round =>
    obtain ⟨k, A, c, m, rfl, rfl, hml, hk, ho, hb⟩ := hrel
    have HR := Lib.hid (And.intro ho hb)
    have HML := Lib.hid hml
    obtain ⟨wo, rfl⟩ : ∃ wo : World, wo = wr := ⟨_, rfl⟩
    clear ho hb hml
    by_cases hkG : k < G
    · have hkg : (k : Int) < (G : Int) := by omega
      have hk0 : (0 : Int) ≤ (k : Int) := by omega
      go_wp2_with fail
      go_loopw [7, 9] (fun l i wq => ∃ (e : Nat) (A : Option Addr) (c m : Nat), i = .int .i64 (e : Int) ∧ l = .slice A m c ∧ m = (R + 1) * k + e ∧ e ≤ R + 1 ∧ Mem.Own wq w.heap.size 5 A c ((cosL s (R + 1) k ++ (List.range e).map (pl k s)).map u8v) ∧ Below w.heap.size w wq) (fun _ i _ => R + 1 - (intOf i).toNat)
      case atStart => exact ⟨0, A, c, m, rfl, rfl, by rw [HML.out]; rfl, by omega, by rw [List.range_zero, List.map_nil, List.append_nil]; exact HR.out.1, HR.out.2⟩
      case round =>
        clear HR HML
        obtain ⟨e, A, c, m, rfl, rfl, hml, he, ho, hb⟩ := hrel
        have HQ := Lib.hid (And.intro ho hb)
        have HML := Lib.hid hml
        have HLN := Lib.hid (show m = ((cosL s (R + 1) k ++ (List.range e).map (pl k s)).map u8v).length from by rw [List.length_map, cos_len2]; exact hml)
        have HM5 := Lib.hid (show m ≤ 255 from by rw [hml]; exact HLB.out k e hkG he)
        obtain ⟨wp, rfl⟩ : ∃ wp : World, wp = wr := ⟨_, rfl⟩
        clear ho hb hml
        have he0 : (0 : Int) ≤ (e : Int) := by omega
        by_cases heR : e ≤ R
        · have her : (e : Int) ≤ (R : Int) := by omega
          go_wp2_with fail
          refine (refPow_any 2 2 rfl (k : Int) _).mono ?_
          rintro x w' ⟨rfl, rfl⟩
          go_wp2_with fail
          refine (refPow_any _ (pw s) rfl (e : Int) _).mono ?_
          rintro x w' ⟨rfl, rfl⟩
          go_wp2_with fail
          refine (refMul_any _ _ (pow 2 (k : Int)) (pow (pw s) (e : Int)) rfl rfl _).mono ?_
          rintro x w' ⟨rfl, rfl⟩
          rw [cos_val k s e HN.out.1.2]
          have HCO := Lib.hid (cells_one wp (.int .u8 ((pl k s e).toNat : Int)) 5 (wp.heap.size + 1) (by omega))
          have HSZ := Lib.hid HQ.out.2.size
          go_wp2_with ((with_reducible show wpList _ _ _ ((⟨some 55, _, _, _, _, _⟩ : Oper) :: _) _ _); refine wpList_app _ rfl _ _ _ rfl w.heap.size 5 i0 _ 1 Try.underlying24 hi0 hz0 hz1 hz2 rfl A c _ ((cosL s (R + 1) k ++ (List.range e).map (pl k s)).map u8v) rfl HLN.out (HQ.out.1.alloc _) _ _ _ 1 [.int .u8 ((pl k s e).toNat : Int)] rfl rfl HCO.out (by simp [Value.oneCell']) (by rw [← HLN.out]; have := HM5.out; simp [maxLen]; omega) (by rw [← HLN.out]; have := HM5.out; simp; omega) (by have := HSZ.out; simp; omega) (m + 1) rfl ?_; intro A2 c2 w2 ho2 hb2 _ _; have H2 := Lib.hid (And.intro ho2 (HQ.out.2.trans (Below.trans ((Below.refl _ _).alloc HSZ.out _) hb2))); clear ho2 hb2)
          go_roundw
          case rel =>
            refine ⟨e + 1, A2, c2, m + 1, by simp, rfl, by rw [HML.out]; rfl, by omega, ?_, H2.out.2⟩
            have := H2.out.1
            rw [cos_snoc, List.map_append]; exact this
          case measure => simp [intOf]; omega
        · obtain rfl : e = R + 1 := by omega
          have her : ¬ (((R + 1 : Nat) : Int)) ≤ (R : Int) := by omega
          go_wp2_with fail
          go_roundw
          case rel => exact ⟨k + 1, A, c, m, by simp, rfl, by rw [HML.out, Nat.mul_succ], hkG, HQ.out.1, HQ.out.2⟩
          case measure => simp [intOf]; omega
    · obtain rfl : k = G := by omega
      go_wp2_with fail
      go_ret2
      exact ⟨A, c, by rw [cosL_len, ← HML.out]; rfl, HR.out.1, HR.out.2⟩
theorem refCosets_any (w : World) (r g : Int) : Calls Try.prog 15 #[.int .i64 r, .int .i64 g] w (CosR w r g) := by
  by_cases h : CosOk r g
  · obtain ⟨h1, h2, h3, h4, h5⟩ := h
    obtain ⟨R, rfl⟩ : ∃ R : Nat, r = (R : Int) := ⟨r.toNat, by omega⟩
    obtain ⟨G, rfl⟩ : ∃ G : Nat, g = (G : Int) := ⟨g.toNat, by omega⟩
    have e1 : (255 : Int) % ((R : Int) + 1) = ((255 % (R + 1) : Nat) : Int) := by simp
    have e2 : (255 : Int) / ((R : Int) + 1) = ((255 / (R + 1) : Nat) : Int) := by simp
    rw [e1] at h3
    rw [e2] at h5
    have h3' : 255 % (R + 1) = 0 := by omega
    have h5' : G ≤ 255 / (R + 1) := by omega
    refine (refCosets_ok w R G (255 / (R + 1)) (by omega) rfl h3' h5').mono fun e w' h => .inl ⟨⟨h1, h2, by rw [e1]; exact h3, h4, by rw [e2]; exact h5⟩, h⟩
  · exact refCosets_no w r g h
end Go.Proofs.Ytaeoocpiggebmaa.PtW
