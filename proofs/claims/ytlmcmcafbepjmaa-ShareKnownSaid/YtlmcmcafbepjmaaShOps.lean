/- The law's helpers few and plain, the document's Same. -/
import Derived.Test.YtlmcmcafbepjmaaShRP2
namespace Go.Proofs.Ytlmcmcafbepjmaa.ShW
open Go.RowKit Go.Shelf Mem Fds Bv
set_option linter.unusedVariables false

theorem few_any (w : World) (v node : Int) (A B : Option Addr) (n c m d : Nat) : Calls Try.prog 8 #[.agg #[.slice A n c, .int .i64 v, .int .i64 node, .slice B m d]] w (BoolOk (decide (n ≤ 100 ∧ m ≤ 400)) w) := by
  have HB := Lib.hid (nextA (Mem.start w) (.cells #[.slice A n c, .int .i64 v, .int .i64 node, .slice B m d] 24))
  by_cases h1 : n ≤ 100
  · have k1 : (n : Int) ≤ 100 := by omega
    by_cases h2 : m ≤ 400
    · have k2 : (m : Int) ≤ 400 := by omega
      rw [decide_eq_true ⟨h1, h2⟩]
      clear h1 h2
      go_enter Try.func8, Try.ntmps8
      go_wp2_with fail
      go_ret
      exact ⟨rfl, HB.out⟩
    · have k2 : ¬ (m : Int) ≤ 400 := by omega
      rw [decide_eq_false (by omega)]
      clear h1 h2
      go_enter Try.func8, Try.ntmps8
      go_wp2_with fail
      go_ret
      exact ⟨rfl, HB.out⟩
  · have k1 : ¬ (n : Int) ≤ 100 := by omega
    rw [decide_eq_false (by omega)]
    clear h1
    go_enter Try.func8, Try.ntmps8
    go_wp2_with fail
    go_ret
    exact ⟨rfl, HB.out⟩
theorem plain_any (w : World) (v node : Int) (A B : Option Addr) (n c m d : Nat) : Calls Try.prog 12 #[.agg #[.slice A n c, .int .i64 v, .int .i64 node, .slice B m d]] w fun e w' => e = .returned (.agg #[.slice A n c, .int .i64 v, .int .i64 node, .slice B m d]) ∧ Below w.heap.size w w' := by
  go_enter Try.func12, Try.ntmps12
  go_wp2_with fail
  refine bodyPost_ret (v := .agg #[.slice A n c, .int .i64 v, .int .i64 node, .slice B m d]) (by simp [results, Try.results12, go_sem]) rfl ⟨rfl, ?_⟩
  exact nextA (nextA (Mem.start w) _) _
def Sh.same (a b : Sh) : Bool := decide (a.key = b.key ∧ a.ver = b.ver ∧ a.node = b.node ∧ a.row = b.row)
theorem rsame_any (w : World) (a b : Sh) (A B C D : Option Addr) (n c m d n' c' m' d' : Nat) (hn : a.key.length = n) (hm : a.row.length = m) (hn' : b.key.length = n') (hm' : b.row.length = m') (hA : Bytes w w.heap.size A a.key) (hB : Bytes w w.heap.size B a.row) (hC : Bytes w w.heap.size C b.key) (hD : Bytes w w.heap.size D b.row) :
    Calls Try.prog 16 #[.agg #[.slice A n c, .int .i64 a.ver, .int .i64 a.node, .slice B m d], .agg #[.slice C n' c', .int .i64 b.ver, .int .i64 b.node, .slice D m' d']] w (BoolOk (a.same b) w) := by
  have HB := Lib.hid (show Below w.heap.size w ((w.alloc (.cells #[.slice A n c, .int .i64 a.ver, .int .i64 a.node, .slice B m d] 31)).alloc (.cells #[.slice C n' c', .int .i64 b.ver, .int .i64 b.node, .slice D m' d'] 31)) from nextA (nextA (Mem.start w) _) _)
  have hk1 := convB (hA.below HB.out) n c hn.symm
  have hk2 := convB (hC.below HB.out) n' c' hn'.symm
  have hr1 := convB (hB.below HB.out) m d hm.symm
  have hr2 := convB (hD.below HB.out) m' d' hm'.symm
  have ek := str_beq a.key b.key
  have er := str_beq a.row b.row
  unfold Sh.same
  obtain ⟨ka, hka⟩ : ∃ x, str a.key = x := ⟨_, rfl⟩
  obtain ⟨kb, hkb⟩ : ∃ x, str b.key = x := ⟨_, rfl⟩
  obtain ⟨ra, hra⟩ : ∃ x, str a.row = x := ⟨_, rfl⟩
  obtain ⟨rb, hrb⟩ : ∃ x, str b.row = x := ⟨_, rfl⟩
  rw [hka] at hk1 ek
  rw [hkb] at hk2 ek
  rw [hra] at hr1 er
  rw [hrb] at hr2 er
  obtain ⟨va, hva⟩ : ∃ x, a.ver = x := ⟨_, rfl⟩
  obtain ⟨vb, hvb⟩ : ∃ x, b.ver = x := ⟨_, rfl⟩
  obtain ⟨na, hna⟩ : ∃ x, a.node = x := ⟨_, rfl⟩
  obtain ⟨nb, hnb⟩ : ∃ x, b.node = x := ⟨_, rfl⟩
  rw [hva, hvb, hna, hnb] at HB hk1 hk2 hr1 hr2 ⊢
  clear hn hm hn' hm' hA hB hC hD hka hkb hra hrb hva hvb hna hnb
  by_cases h1 : a.key = b.key
  · rw [decide_eq_true h1] at ek
    by_cases h2 : va = vb
    · have k2 : (va == vb) = true := by simp [h2]
      by_cases h3 : na = nb
      · have k3 : (na == nb) = true := by simp [h3]
        by_cases h4 : a.row = b.row
        · rw [decide_eq_true h4] at er
          rw [decide_eq_true ⟨h1, h2, h3, h4⟩]
          clear h1 h2 h3 h4
          go_enter Try.func16, Try.ntmps16
          go_wp2_with fail
          go_ret
          exact ⟨rfl, HB.out⟩
        · rw [decide_eq_false h4] at er
          rw [decide_eq_false (fun h => h4 h.2.2.2)]
          clear h1 h2 h3 h4
          go_enter Try.func16, Try.ntmps16
          go_wp2_with fail
          go_ret
          exact ⟨rfl, HB.out⟩
      · have k3 : (na == nb) = false := by simp [h3]
        rw [decide_eq_false (fun h => h3 h.2.2.1)]
        clear h1 h2 h3
        go_enter Try.func16, Try.ntmps16
        go_wp2_with fail
        go_ret
        exact ⟨rfl, HB.out⟩
    · have k2 : (va == vb) = false := by simp [h2]
      rw [decide_eq_false (fun h => h2 h.2.1)]
      clear h1 h2
      go_enter Try.func16, Try.ntmps16
      go_wp2_with fail
      go_ret
      exact ⟨rfl, HB.out⟩
  · rw [decide_eq_false h1] at ek
    rw [decide_eq_false (fun h => h1 h.1)]
    clear h1
    go_enter Try.func16, Try.ntmps16
    go_wp2_with fail
    go_ret
    exact ⟨rfl, HB.out⟩
end Go.Proofs.Ytlmcmcafbepjmaa.ShW
