/- points.Group; the document's Group. -/
import Derived.Test.YtaeoocpiggebmaaPtSame
namespace Go.Proofs.Ytaeoocpiggebmaa.PtW
open Go.RowKit Go.Shelf Mem Gf FdW Rng
set_option linter.unusedVariables false
set_option linter.unusedSimpArgs false

/-- The others of i among b, b + 1 .. (k of them). -/
def gl (b i : Nat) : Nat → List Int
  | 0 => []
  | k + 1 => if b + k = i then gl b i k else gl b i k ++ [((b + k : Nat) : Int)]
theorem gl_yes {b i k : Nat} (h : b + k = i) : gl b i (k + 1) = gl b i k := if_pos h
theorem gl_no {b i k : Nat} (h : b + k ≠ i) : gl b i (k + 1) = gl b i k ++ [((b + k : Nat) : Int)] := if_neg h
theorem gl_len (b i : Nat) (h : b ≤ i) : ∀ k, (gl b i k).length = if i < b + k then k - 1 else k
  | 0 => by rw [if_neg (by omega)]; rfl
  | k + 1 => by
    have ih := gl_len b i h k
    by_cases e : b + k = i
    · rw [gl_yes e, ih, if_neg (by omega), if_pos (by omega)]; omega
    · rw [gl_no e, List.length_append, ih, List.length_singleton]
      by_cases h2 : i < b + k
      · rw [if_pos h2, if_pos (by omega)]; omega
      · rw [if_neg h2, if_neg (by omega)]
theorem intinfo : (Try.prog.info? 3).map (fun i => (i.zero, i.size, i.bytes)) = some (some (.int .i64 0), 1, 8) := by kernel_rfl
/-- What Group leaves. -/
def GOk (w : World) (l : List Int) (e : Ending) (w' : World) : Prop := ∃ A c, e = .returned (.slice A l.length c) ∧ Mem.Own w' w.heap.size 3 A c (l.map i64v) ∧ Below w.heap.size w w'
theorem GOk.nil (w : World) : GOk w [] (.returned (.slice none 0 0)) w := ⟨none, 0, rfl, Mem.Own.nil, Mem.start w⟩
set_option maxRecDepth 100000 in
set_option maxHeartbeats 2000000 in
theorem group_no (w : World) (r i : Int) (h : r < 1 ∨ 255 < r ∨ i < 0) : Calls Try.prog 19 #[.int .i64 r, .int .i64 i] w (GOk w []) := by
  have HG := Lib.hid (GOk.nil w)
  by_cases h1 : r < 1
  · go_enter Try.func19, Try.ntmps19
    go_wp2_with fail
    go_ret
    exact HG.out
  by_cases h2 : 255 < r
  · go_enter Try.func19, Try.ntmps19
    go_wp2_with fail
    go_ret
    exact HG.out
  · have h3 : i < 0 := by omega
    clear h
    go_enter Try.func19, Try.ntmps19
    go_wp2_with fail
    go_ret
    exact HG.out
set_option maxRecDepth 100000 in
set_option maxHeartbeats 4000000 in
theorem group_ok (w : World) (R I b m : Nat) (hR : 1 ≤ R ∧ R ≤ 255) (hI : (I : Int) ≤ 256 ^ 5) (hm : I % (R + 1) = m) (hb : I = b + m) :
    Calls Try.prog 19 #[.int .i64 (R : Int), .int .i64 (I : Int)] w (GOk w (gl b I (R + 1))) := by
  obtain ⟨i0, hi0, hz0, hz1, hz2⟩ := info_parts intinfo
  have r1 : (1 : Int) ≤ (R : Int) := by omega
  have r2 : (R : Int) ≤ 255 := by omega
  have hi1 : (0 : Int) ≤ (I : Int) := by omega
  have ht : (I : Int).tmod ((R : Int) + 1) = (m : Int) := by rw [Int.tmod_eq_emod_of_nonneg (by omega), ← hm]; simp
  have hml : m < R + 1 := by rw [← hm]; exact Nat.mod_lt _ (by omega)
  have hz : ((R + 1 : Int) == 0) = false := by simp; omega
  have hsub : (I : Int) - (m : Int) = (b : Int) := by omega
  have hm2 : (m : Int) ≤ 255 := by omega
  have hm0 : (0 : Int) ≤ (m : Int) := by omega
  have hbI : (b : Int) ≤ 256 ^ 5 := by omega
  have HB := Lib.hid (show I = b + m ∧ m < R + 1 ∧ (1 ≤ R ∧ R ≤ 255) from ⟨hb, hml, hR⟩)
  have HLF := Lib.hid (gl_len b I (by omega))
  clear hm hb hml hR
  go_enter Try.func19, Try.ntmps19
  go_wp2_with fail
  go_loopw [5, 6] (fun s i wr => ∃ (k L : Nat) (A : Option Addr) (c : Nat), i = .int .i64 ((b : Int) + (k : Int)) ∧ s = .slice A L c ∧ L = (gl b I k).length ∧ k ≤ R + 1 ∧ Mem.Own wr w.heap.size 3 A c ((gl b I k).map i64v) ∧ Below w.heap.size w wr) (fun _ i _ => ((b : Int) + (R : Int) + 1 - intOf i).toNat)
  case atStart => exact ⟨0, 0, none, 0, by simp, rfl, rfl, by omega, Mem.Own.nil, Mem.start w⟩
  case round =>
    obtain ⟨k, L, A, c, rfl, rfl, hL, hk, ho, hbl⟩ := hrel
    have HR := Lib.hid (And.intro ho hbl)
    have hLk : L = if I < b + k then k - 1 else k := by rw [hL]; exact HLF.out k
    have HL := Lib.hid (show L = ((gl b I k).map i64v).length from by rw [List.length_map]; exact hL)
    have hL2 : (L : Int) ≤ 1000 := by split at hLk <;> omega
    clear ho hbl hL
    by_cases hLR : L < R
    · have hLRi : (L : Int) < (R : Int) := by omega
      have hkR : k ≤ R := by have := HB.out; split at hLk <;> omega
      have hki : (k : Int) ≤ 255 := by omega
      have hki0 : (0 : Int) ≤ (k : Int) := by omega
      by_cases hx : b + k = I
      · have HX := Lib.hid (gl_yes hx)
        have hxi : (I : Int) = (b : Int) + (k : Int) := by omega
        have hxb : (((b : Int) + (k : Int)) == (I : Int)) = true := by simp; omega
        have hxb2 : (((b : Int) + (k : Int)) != (I : Int)) = false := by simp; omega
        clear hLk hx hxi
        go_wp2_with fail
        go_roundw
        case rel => exact ⟨k + 1, L, A, c, by simp [Int.add_assoc], rfl, by rw [HX.out, HL.out, List.length_map], by omega, by rw [HX.out]; exact HR.out.1, HR.out.2⟩
        case measure => simp [intOf]; omega
      · have HX := Lib.hid (gl_no hx)
        have hxb : (((b : Int) + (k : Int)) == (I : Int)) = false := by simp; omega
        have hxb2 : (((b : Int) + (k : Int)) != (I : Int)) = true := by simp; omega
        have HCO := Lib.hid (cells_one wr (.int .i64 ((b : Int) + (k : Int))) 3 (wr.heap.size + 1) (by omega))
        have HSZ := Lib.hid HR.out.2.size
        clear hLk hx
        go_wp2_with (at_builtin; refine wpList_app _ rfl _ _ _ rfl w.heap.size 3 i0 _ 8 Try.underlying35 hi0 hz0 hz1 hz2 rfl A c _ ((gl b I k).map i64v) rfl HL.out (HR.out.1.alloc _) _ _ _ 1 [.int .i64 ((b : Int) + (k : Int))] rfl rfl HCO.out (by simp [Value.oneCell']) (by rw [← HL.out]; simp [maxLen]; omega) (by rw [← HL.out]; simp; omega) (by have := HSZ.out; simp; omega) (L + 1) rfl ?_; intro A2 c2 w2 ho2 hb2 _ _; have H2 := Lib.hid (And.intro ho2 (HR.out.2.trans (Below.trans ((Below.refl _ _).alloc HSZ.out _) hb2))); clear ho2 hb2)
        go_roundw
        case rel =>
          refine ⟨k + 1, L + 1, A2, c2, by simp [Int.add_assoc], rfl, ?_, by omega, ?_, H2.out.2⟩
          · rw [HX.out, List.length_append, HL.out, List.length_map]; rfl
          · have := H2.out.1
            rw [HX.out, List.map_append]; exact this
        case measure => simp [intOf]; omega
    · have hge : ¬ (L : Int) < (R : Int) := by omega
      have hE : gl b I k = gl b I (R + 1) := by
        rcases (by omega : k = R + 1 ∨ k < R + 1) with rfl | h
        · rfl
        · obtain rfl : k = R := by split at hLk <;> omega
          exact (gl_yes (by have := HB.out; split at hLk <;> omega)).symm
      have HE := Lib.hid hE
      clear hE hLk
      go_wp2_with fail
      go_ret
      refine ⟨A, c, ?_, by rw [← HE.out]; exact HR.out.1, HR.out.2⟩
      rw [← HE.out, HL.out, List.length_map]; rfl
set_option maxRecDepth 100000 in
set_option maxHeartbeats 2000000 in
theorem refGroup_no (w : World) (r i : Int) (h : r < 1 ∨ 255 < r ∨ i < 0) : Calls Try.prog 20 #[.int .i64 r, .int .i64 i] w (GOk w []) := by
  have HG := Lib.hid (GOk.nil w)
  have hd : ((decide (1 ≤ r) && decide (r ≤ 255)) && decide (0 ≤ i)) = false := by simp; omega
  go_enter Try.func20, Try.ntmps20
  go_wp2_with fail
  go_loopw [5, 6] (fun s j wr => s = .slice none 0 0 ∧ j = .int .i64 0 ∧ wr = w) (fun _ _ _ => 0)
  case atStart => exact ⟨rfl, rfl, rfl⟩
  case round =>
    obtain ⟨rfl, rfl, rfl⟩ := hrel
    by_cases h1 : r < 1
    · go_wp2_with fail
      go_ret
      exact HG.out
    by_cases h2 : 255 < r
    · go_wp2_with fail
      go_ret
      exact HG.out
    · have h3 : i < 0 := by omega
      go_wp2_with fail
      go_ret
      exact HG.out
set_option maxRecDepth 100000 in
set_option maxHeartbeats 4000000 in
theorem refGroup_ok (w : World) (R I b m q : Nat) (hR : 1 ≤ R ∧ R ≤ 255) (hI : (I : Int) ≤ 256 ^ 5) (hm : m < R + 1) (hb : I = b + m) (hq : I / (R + 1) = q) (hqb : q * (R + 1) = b) :
    Calls Try.prog 20 #[.int .i64 (R : Int), .int .i64 (I : Int)] w (GOk w (gl b I (R + 1))) := by
  obtain ⟨i0, hi0, hz0, hz1, hz2⟩ := info_parts intinfo
  have r1 : (1 : Int) ≤ (R : Int) := by omega
  have r2 : (R : Int) ≤ 255 := by omega
  have hi1 : (0 : Int) ≤ (I : Int) := by omega
  have ht : (I : Int).tdiv ((R : Int) + 1) = (q : Int) := by rw [Int.tdiv_eq_ediv_of_nonneg (by omega), ← hq]; simp
  have hz : ((R + 1 : Int) == 0) = false := by simp; omega
  have hql : q ≤ I := by rw [← hq]; exact Nat.div_le_self _ _
  have hq1 : (q : Int) ≤ 256 ^ 5 := by omega
  have hq0 : (0 : Int) ≤ (q : Int) := by omega
  have hqm : (q : Int) * ((R : Int) + 1) = (b : Int) := by rw [← hqb]; simp
  have hbI : (b : Int) ≤ 256 ^ 5 := by omega
  have hb0 : (0 : Int) ≤ (b : Int) := by omega
  have HB := Lib.hid (show I = b + m ∧ m < R + 1 ∧ (1 ≤ R ∧ R ≤ 255) from ⟨hb, hm, hR⟩)
  have HLF := Lib.hid (gl_len b I (by omega))
  clear hm hb hR hq hqb hql
  go_enter Try.func20, Try.ntmps20
  go_wp2_with fail
  go_loopw [5, 6] (fun s i wr => ∃ (k L : Nat) (A : Option Addr) (c : Nat), i = .int .i64 (k : Int) ∧ s = .slice A L c ∧ L = (gl b I k).length ∧ k ≤ R + 1 ∧ Mem.Own wr w.heap.size 3 A c ((gl b I k).map i64v) ∧ Below w.heap.size w wr) (fun _ i _ => ((R : Int) + 1 - intOf i).toNat)
  case atStart => exact ⟨0, 0, none, 0, by simp, rfl, rfl, by omega, Mem.Own.nil, Mem.start w⟩
  case round =>
    obtain ⟨k, L, A, c, rfl, rfl, hL, hk, ho, hbl⟩ := hrel
    have HR := Lib.hid (And.intro ho hbl)
    have hLk : L = if I < b + k then k - 1 else k := by rw [hL]; exact HLF.out k
    have HL := Lib.hid (show L = ((gl b I k).map i64v).length from by rw [List.length_map]; exact hL)
    have hL2 : (L : Int) ≤ 1000 := by split at hLk <;> omega
    clear ho hbl hL
    by_cases hkR : k ≤ R
    · have hkRi : (k : Int) ≤ (R : Int) := by omega
      have hki : (k : Int) ≤ 255 := by omega
      have hki0 : (0 : Int) ≤ (k : Int) := by omega
      by_cases hx : b + k = I
      · have HX := Lib.hid (gl_yes hx)
        have hxb : (((b : Int) + (k : Int)) == (I : Int)) = true := by simp; omega
        have hxb2 : (((b : Int) + (k : Int)) != (I : Int)) = false := by simp; omega
        clear hLk hx
        go_wp2_with fail
        go_roundw
        case rel => exact ⟨k + 1, L, A, c, by simp, rfl, by rw [HX.out, HL.out, List.length_map], by omega, by rw [HX.out]; exact HR.out.1, HR.out.2⟩
        case measure => simp [intOf]; omega
      · have HX := Lib.hid (gl_no hx)
        have hxb : (((b : Int) + (k : Int)) == (I : Int)) = false := by simp; omega
        have hxb2 : (((b : Int) + (k : Int)) != (I : Int)) = true := by simp; omega
        have HCO := Lib.hid (cells_one wr (.int .i64 ((b : Int) + (k : Int))) 3 (wr.heap.size + 1) (by omega))
        have HSZ := Lib.hid HR.out.2.size
        clear hLk hx
        go_wp2_with (at_builtin; refine wpList_app _ rfl _ _ _ rfl w.heap.size 3 i0 _ 8 Try.underlying35 hi0 hz0 hz1 hz2 rfl A c _ ((gl b I k).map i64v) rfl HL.out (HR.out.1.alloc _) _ _ _ 1 [.int .i64 ((b : Int) + (k : Int))] rfl rfl HCO.out (by simp [Value.oneCell']) (by rw [← HL.out]; simp [maxLen]; omega) (by rw [← HL.out]; simp; omega) (by have := HSZ.out; simp; omega) (L + 1) rfl ?_; intro A2 c2 w2 ho2 hb2 _ _; have H2 := Lib.hid (And.intro ho2 (HR.out.2.trans (Below.trans ((Below.refl _ _).alloc HSZ.out _) hb2))); clear ho2 hb2)
        go_roundw
        case rel =>
          refine ⟨k + 1, L + 1, A2, c2, by simp, rfl, ?_, by omega, ?_, H2.out.2⟩
          · rw [HX.out, List.length_append, HL.out, List.length_map]; rfl
          · have := H2.out.1
            rw [HX.out, List.map_append]; exact this
        case measure => simp [intOf]; omega
    · obtain rfl : k = R + 1 := by omega
      have hge : ¬ (((R + 1 : Nat) : Nat) : Int) ≤ (R : Int) := by omega
      clear hLk
      go_wp2_with fail
      go_ret
      refine ⟨A, c, ?_, HR.out.1, HR.out.2⟩
      rw [HL.out, List.length_map]; rfl
end Go.Proofs.Ytaeoocpiggebmaa.PtW
