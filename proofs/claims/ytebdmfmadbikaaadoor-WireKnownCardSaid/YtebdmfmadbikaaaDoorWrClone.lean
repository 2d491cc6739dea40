/- slices.Clone at ids and numbers; package wire's Tells. -/
import Derived.Test.YtebdmfmadbikaaaDoorWrFew
import Derived.Test.YtebdmfmadbikaaaDoorAppK
namespace Go.Proofs.YtebdmfmadbikaaaDoor.WiW
open Go.RowKit Go.Shelf Mem Fds FdW Wi Rng
set_option linter.unusedVariables false
set_option linter.unusedSimpArgs false

theorem iinfo : (Tryd.prog.info? 3).map (fun i => (i.zero, i.size, i.bytes)) = some (some (.int .i64 0), 1, 8) := by kernel_rfl
theorem idinfo : (Tryd.prog.info? 50).map (fun i => (i.zero, i.size, i.bytes)) = some (some (.agg #[.string (str []), .int .i64 0]), 2, 24) := by kernel_rfl
def NewI (w : World) (l : List Int) (e : Ending) (w' : World) : Prop := ∃ A c, e = .returned (.slice A l.length c) ∧ Mem.Own w' w.heap.size 3 A c (l.map iv) ∧ Below w.heap.size w w'
def NewD (w : World) (l : List (List UInt8 × Int)) (e : Ending) (w' : World) : Prop := ∃ A c, e = .returned (.slice A l.length c) ∧ OwnK w' w.heap.size 50 2 A l.length c (l.flatMap dc) ∧ Below w.heap.size w w'
theorem iv_one {l : List Int} : ∀ u ∈ l.map iv, u.oneCell' = true := by
  intro u hu
  obtain ⟨_, _, rfl⟩ := List.mem_map.1 hu
  rfl
theorem dcs_one {l : List (List UInt8 × Int)} : ∀ u ∈ l.flatMap dc, u.oneCell' = true := by
  intro u hu
  obtain ⟨x, _, hx⟩ := List.mem_flatMap.1 hu
  simp [dc] at hx
  rcases hx with rfl | rfl <;> rfl
theorem ownK_made (w : World) (T : TypeId) (K : Nat) {base : Nat} (hb : base ≤ w.heap.size) : OwnK (w.alloc (.cells #[] T)) base T K (some ⟨w.heap.size, 0, none⟩) 0 0 [] :=
  ⟨by simp, .inr ⟨w.heap.size, 0, #[], rfl, hb, new_heap w _, by simp, by unfold maxLen; omega, by simp, by simp⟩⟩
set_option maxRecDepth 100000 in
set_option maxHeartbeats 1000000 in
theorem cloneI_any (w : World) (A : Option Addr) (l : List Int) (n c : Nat) (hn : n = l.length) (hlen : n ≤ 100000000) (hA : Cells w w.heap.size A (l.map iv)) :
    Calls Tryd.prog 44 #[.slice A n c] w (NewI w l) := by
  obtain ⟨i0, hi0, hz0, hz1, hz2⟩ := info_parts iinfo
  subst hn
  cases A with
  | none =>
    have hl : l = [] := by
      rcases l with _ | ⟨x, r⟩
      · rfl
      · obtain ⟨b, off, h, _⟩ := hA (by simp)
        cases h
    subst hl
    have hnil := Lib.run_eql_slice_nil (P := Tryd.prog) w 24 3 none 0 c 0 0 Tryd.underlying24
    go_enter Tryd.func44, Tryd.ntmps44
    go_wp2_with fail
    go_ret
    exact ⟨none, 0, rfl, Own.nil, Below.refl _ _⟩
  | some a =>
    have hnil := Lib.run_eql_slice_nil (P := Tryd.prog) w 24 3 (some a) l.length c 0 0 Tryd.underlying24
    go_enter Tryd.func44, Tryd.ntmps44
    go_wp2_with ((with_reducible show wpList _ _ _ ((⟨some 7, _, _, _, _, _⟩ : Oper) :: _) _ _); refine wpList_app _ rfl _ _ _ rfl w.heap.size 3 i0 _ 8 Tryd.underlying24 hi0 hz0 hz1 hz2 rfl _ 0 0 [] rfl rfl (own_made w #[] _ (by simp) (Nat.le_refl _)) w.heap.size (some a) c l.length (l.map iv) rfl (by simp) (hA.below ((Below.refl _ _).alloc (Nat.le_refl _) _)) iv_one (by simp [maxLen]; omega) (by simp; omega) (by simp) l.length (by simp) ?_; intro A1 c1 w1 ho1 hb1 _ _)
    go_ret
    exact ⟨A1, c1, rfl, by simpa using ho1, ((Below.refl _ _).alloc (Nat.le_refl _) _).trans hb1⟩
set_option maxRecDepth 100000 in
set_option maxHeartbeats 1000000 in
theorem cloneD_any (w : World) (A : Option Addr) (l : List (List UInt8 × Int)) (n c : Nat) (hn : n = l.length) (hlen : n ≤ 100000000) (hA : Cells w w.heap.size A (l.flatMap dc)) :
    Calls Tryd.prog 43 #[.slice A n c] w (NewD w l) := by
  obtain ⟨i0, hi0, hz0, hz1, hz2⟩ := info_parts idinfo
  subst hn
  cases A with
  | none =>
    have hl : l = [] := by
      rcases l with _ | ⟨x, r⟩
      · rfl
      · obtain ⟨b, off, h, _⟩ := hA (by rw [dc_len]; simp)
        cases h
    subst hl
    have hnil := Lib.run_eql_slice_nil (P := Tryd.prog) w 23 50 none 0 c 0 0 Tryd.underlying23
    go_enter Tryd.func43, Tryd.ntmps43
    go_wp2_with fail
    go_ret
    exact ⟨none, 0, rfl, OwnK.nil, Below.refl _ _⟩
  | some a =>
    have hnil := Lib.run_eql_slice_nil (P := Tryd.prog) w 23 50 (some a) l.length c 0 0 Tryd.underlying23
    go_enter Tryd.func43, Tryd.ntmps43
    go_wp2_with ((with_reducible show wpList _ _ _ ((⟨some 7, _, _, _, _, _⟩ : Oper) :: _) _ _); refine wpList_appK _ rfl (.tmp 5) (.tmp 6) 23 rfl w.heap.size 50 i0 _ 2 24 Tryd.underlying23 hi0 hz0 hz1 hz2 rfl (by decide) (some ⟨w.heap.size, 0, none⟩) 0 0 [] rfl (ownK_made w _ _ (Nat.le_refl _)) w.heap.size (some a) c l.length (l.flatMap dc) rfl (hA.below ((Below.refl _ _).alloc (Nat.le_refl _) _)) (by rw [dc_len]; omega) dcs_one (by unfold maxLen; omega) (by omega) (by simp) l.length (by omega) ?_; intro A1 c1 w1 ho1 hb1 _ _)
    go_ret
    exact ⟨A1, c1, rfl, by simpa using ho1, ((Below.refl _ _).alloc (Nat.le_refl _) _).trans hb1⟩
/-- Is a kind's Data what a node says of a share? -/
def tells (k : Nat) : Bool := decide (k = 9) || decide (k = 20)
theorem tells_any (w : World) (k : Nat) : Calls Tryd.prog 20 #[.int .u8 (k : Int)] w fun e w' => e = .returned (.bool (tells k)) ∧ w = w' := by
  by_cases h1 : k = 9
  · subst h1
    go_enter Tryd.func20, Tryd.ntmps20
    go_wp2_with fail
    go_ret
    exact ⟨rfl, rfl⟩
  · have e1 : ((k : Int) == 9) = false := by rw [beq_eq_false_iff_ne]; omega
    have e2 : ((k : Int) == 20) = decide (k = 20) := by rw [Bool.eq_iff_iff, beq_iff_eq, decide_eq_true_iff]; omega
    have HR := Lib.hid (show tells k = decide (k = 20) by simp [tells, h1])
    clear h1
    go_enter Tryd.func20, Tryd.ntmps20
    go_wp2_with fail
    go_ret
    exact ⟨by rw [HR.out]; first | rfl | simp [e2], rfl⟩
end Go.Proofs.YtebdmfmadbikaaaDoor.WiW
