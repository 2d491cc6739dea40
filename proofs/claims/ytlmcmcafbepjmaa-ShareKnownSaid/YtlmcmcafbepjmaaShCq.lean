/- Same of shares; the document's Compare. -/
import Derived.Test.YtlmcmcafbepjmaaShCp
namespace Go.Proofs.Ytlmcmcafbepjmaa.ShW
open Go.RowKit Go.Shelf Mem Fds Bv Rng
set_option linter.unusedVariables false

theorem cmpL_zero : ∀ {a b : List UInt8}, cmpL a b = 0 → a = b
  | [], [], _ => rfl
  | [], _ :: _, h => by cases h
  | _ :: _, [], h => by cases h
  | x :: a, y :: b, h => by
    have h' : (if cmpI (x.toNat : Int) (y.toNat : Int) = 0 then cmpL a b else cmpI (x.toNat : Int) (y.toNat : Int)) = 0 := h
    by_cases hz : cmpI (x.toNat : Int) (y.toNat : Int) = 0
    · rw [if_pos hz] at h'
      rw [u8_eq (cmpI_zero.1 hz), cmpL_zero h']
    · rw [if_neg hz] at h'
      exact absurd h' hz
theorem orI_zero {a b c : Int} : orI a b c = 0 ↔ a = 0 ∧ b = 0 ∧ c = 0 := by
  unfold orI
  by_cases h1 : a = 0
  · subst h1
    rw [if_neg (by decide)]
    by_cases h2 : b = 0
    · subst h2
      rw [if_neg (by decide)]
      simp
    · rw [if_pos h2]
      constructor
      · exact fun h => absurd h h2
      · exact fun h => absurd h.2.1 h2
  · rw [if_pos h1]
    constructor
    · exact fun h => absurd h h1
    · exact fun h => absurd h.1 h1
theorem cmp_zero {a b : Sh} : a.cmp b = 0 ↔ a.key = b.key ∧ a.ver = b.ver ∧ a.node = b.node := by
  unfold Sh.cmp
  rw [orI_zero, cmpI_zero, cmpI_zero]
  constructor
  · exact fun h => ⟨cmpL_zero h.1, h.2⟩
  · exact fun h => ⟨by rw [h.1]; exact cmpL_eq _, h.2⟩
theorem same_eq (a b : Sh) : a.same b = decide (a.cmp b = 0 ∧ a.row = b.row) := by
  unfold Sh.same
  rw [Bool.eq_iff_iff, decide_eq_true_iff, decide_eq_true_iff, cmp_zero]
  constructor
  · exact fun h => ⟨⟨h.1, h.2.1, h.2.2.1⟩, h.2.2.2⟩
  · exact fun h => ⟨h.1.1, h.1.2.1, h.1.2.2, h.2⟩
set_option maxHeartbeats 2000000 in
theorem same_any (w : World) (a b : Sh) (A B C D : Option Addr) (n c m d n' c' m' d' : Nat) (hn : a.key.length = n) (hm : a.row.length = m) (hn' : b.key.length = n') (hm' : b.row.length = m') (hn3 : n ≤ 256 ^ 3) (hn3' : n' ≤ 256 ^ 3) (hA : Bytes w w.heap.size A a.key) (hB : Bytes w w.heap.size B a.row) (hC : Bytes w w.heap.size C b.key) (hD : Bytes w w.heap.size D b.row) :
    Calls Try.prog 19 #[.agg #[.slice A n c, .int .i64 a.ver, .int .i64 a.node, .slice B m d], .agg #[.slice C n' c', .int .i64 b.ver, .int .i64 b.node, .slice D m' d']] w (BoolOk (a.same b) w) := by
  rw [same_eq]
  obtain ⟨w4, hw4⟩ : ∃ w4 : World, w4 = (w.alloc (.cells #[.slice A n c, .int .i64 a.ver, .int .i64 a.node, .slice B m d] 24)).alloc (.cells #[.slice C n' c', .int .i64 b.ver, .int .i64 b.node, .slice D m' d'] 24) := ⟨_, rfl⟩
  have hb4 : Below w.heap.size w w4 := by rw [hw4]; exact nextA (nextA (Mem.start w) _) _
  have hbk : Blk w4 w.heap.size 24 #[.slice A n c, .int .i64 a.ver, .int .i64 a.node, .slice B m d] ∧ Blk w4 (w.heap.size + 1) 24 #[.slice C n' c', .int .i64 b.ver, .int .i64 b.node, .slice D m' d'] := by
    rw [hw4]
    refine ⟨(Blk.new w _ _).alloc _, ?_⟩
    have := Blk.new (w.alloc (.cells #[.slice A n c, .int .i64 a.ver, .int .i64 a.node, .slice B m d] 24)) 24 #[.slice C n' c', .int .i64 b.ver, .int .i64 b.node, .slice D m' d']
    rw [World.size_alloc] at this
    exact this
  have HC := Lib.hid (compare_any w4 a b A B C D n c m d n' c' m' d' hn hn' hn3 hn3' ((hA.below hb4).up hb4.size) ((hC.below hb4).up hb4.size))
  have HB := Lib.hid hb4
  have HK := Lib.hid hbk
  have HE := Lib.hid (fun (w' : World) (hb : Below w.heap.size w w') => equal_any (w := w') B D a.row b.row m d m' d' w.heap.size w.heap.size hm hm' (hB.below hb) (hD.below hb))
  obtain ⟨z, hz⟩ : ∃ z, a.cmp b = z := ⟨_, rfl⟩
  rw [hz] at HC ⊢
  obtain ⟨va, hva⟩ : ∃ x, a.ver = x := ⟨_, rfl⟩
  obtain ⟨vb, hvb⟩ : ∃ x, b.ver = x := ⟨_, rfl⟩
  obtain ⟨na, hna⟩ : ∃ x, a.node = x := ⟨_, rfl⟩
  obtain ⟨nb, hnb⟩ : ∃ x, b.node = x := ⟨_, rfl⟩
  rw [hw4] at HC HB
  rw [hva, hvb, hna, hnb] at HC HB HK hw4 ⊢
  have HW := Lib.hid hw4.symm
  clear hz hva hvb hna hnb hw4 hb4 hbk hn hm hn' hm' hn3 hn3' hA hB hC hD
  by_cases hz0 : z = 0
  · have HZ := Lib.hid hz0
    have hz1 : (z == 0) = true := by simp [hz0]
    clear hz0
    go_enter Try.func19, Try.ntmps19
    go_wp2_with fail
    refine HC.out.mono ?_
    rintro e w5 ⟨rfl, hb⟩
    have H5 := Lib.hid (next HB.out hb)
    rw [HW.out] at hb
    have hc1 : w5.cell? ⟨w.heap.size, 3, none⟩ = some (.slice B m d) := (HK.out.1.keep hb).cell 3
    have hc2 : w5.cell? ⟨w.heap.size + 1, 3, none⟩ = some (.slice D m' d') := (HK.out.2.keep hb).cell 3
    clear hb
    go_wp2_with fail
    refine (HE.out w5 H5.out).mono ?_
    rintro e w' ⟨rfl, rfl⟩
    obtain ⟨q, hq⟩ : ∃ q, decide (a.row = b.row) = q := ⟨_, rfl⟩
    have HQ := Lib.hid hq
    rw [hq]
    clear hq
    go_wp2_with fail
    go_ret
    refine ⟨?_, H5.out⟩
    rw [show decide (z = 0 ∧ a.row = b.row) = q from by rw [← HQ.out]; simp [HZ.out]]
    rfl
  · have hz1 : (z == 0) = false := by simp [hz0]
    rw [decide_eq_false (fun h => hz0 h.1)]
    clear hz0
    go_enter Try.func19, Try.ntmps19
    go_wp2_with fail
    refine HC.out.mono ?_
    rintro e w5 ⟨rfl, hb⟩
    have H5 := Lib.hid (next HB.out hb)
    clear hb
    go_wp2_with fail
    go_ret
    exact ⟨rfl, H5.out⟩
end Go.Proofs.Ytlmcmcafbepjmaa.ShW
