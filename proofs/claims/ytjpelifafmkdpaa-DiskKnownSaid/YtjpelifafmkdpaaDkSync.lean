/- Sync, Fail, New, Read of a disk. -/
import Derived.Test.YtjpelifafmkdpaaDkStep
namespace Go.Proofs.Ytjpelifafmkdpaa.DkW
open Go.RowKit Go.Shelf Mem Rng
set_option linter.unusedVariables false

theorem step_steps (s : DS) (f : DS → DS) (hf : ∀ s, (f s).steps = s.steps) : (s.step f).1.steps = s.steps + 1 := by
  unfold DS.step
  split
  · rfl
  · rw [hf]
theorem DkOkM.ok {w w' : World} {F : Nat → Prop} {p m : Nat} {s : DS} {v : Value} {e : Ending} (h : DkOkM w F p m s v e w') (hm : m ≤ s.steps) : DkOk w F p s v e w' := by
  obtain ⟨he, F', h1, h2, h3⟩ := h
  exact ⟨he, F', h1.mono hm (Nat.le_succ _), h2, h3⟩
section
variable {F : Nat → Prop} {p : Nat} {s : DS} {w : World}
set_option maxRecDepth 100000 in
set_option maxHeartbeats 2000000 in
theorem sync_any (h : DkA F p s w) (hs : s.steps + 1 ≤ 256 ^ 3) : Calls Try.prog 22 #[.pointer (some ⟨p, 0, none⟩)] w (DkOk w F p s.sync.1 (.int .i64 s.sync.2)) := by
  have HN := Lib.hid (nextA (Mem.start w) (.cells #[.pointer (some ⟨p, 0, none⟩)] 28))
  have H1 := Lib.hid (h.keep HN.out)
  have hlt := h.lt
  obtain ⟨ms, mn, A, c, hd⟩ := H1.out
  have h6 := hd.cells.2.2.2.2.2.2
  have HST := Lib.hid (step_sync w.heap.size (by rw [new_cell]; rfl) (fun hF => by have := hlt _ hF; omega) H1.out hs)
  have hst := step_steps s DS.settle (fun _ => rfl)
  unfold DS.sync
  obtain ⟨b, hb⟩ : ∃ b, s.off = b := ⟨_, rfl⟩
  rw [hb] at h6 ⊢
  have HS := Lib.hid hst
  have HX := Lib.hid h
  clear hd hs hst hb hlt h
  cases b with
  | true =>
    rw [if_pos rfl]
    go_enter Try.func22, Try.ntmps22
    go_wp2_with fail
    go_ret
    exact DkOk.same HX.out HN.out
  | false =>
    rw [if_neg (by decide)]
    go_enter Try.func22, Try.ntmps22
    go_wp2_with fail
    refine HST.out.mono ?_
    rintro e w2 ⟨rfl, F', h2, g2, f2⟩
    have H2 := Lib.hid (And.intro h2 (And.intro g2 f2))
    clear h2 g2 f2
    go_wp2_with fail
    go_ret
    exact ⟨rfl, F', H2.out.1.mono (by rw [HS.out]; omega) (Nat.le_succ _), fun k hk => (H2.out.2.1 k hk).imp id (fun h => Nat.le_trans HN.out.size h), (Fr.quiet HN.out).trans H2.out.2.2 fun _ _ h => h⟩
set_option maxHeartbeats 1000000 in
theorem fail_any (h : DkA F p s w) (n : Int) (hn : n ≤ 9223372036854775807) : Calls Try.prog 21 #[.pointer (some ⟨p, 0, none⟩), .int .i64 n] w (DkOk w F p (s.fail n) (.tuple #[])) := by
  obtain ⟨v, hv⟩ : ∃ v, max (-1) n = v := ⟨_, rfl⟩
  have H1 := Lib.hid (h.less v (by omega))
  obtain ⟨ms, mn, A, c, hd⟩ := h
  have h5 := hd.cells.2.2.2.2.2.1
  have z5 := hd.blk.frozen 5
  unfold DS.fail
  rw [hv]
  clear hd
  by_cases hw1 : n > -1
  · obtain rfl : v = n := by rw [← hv]; omega
    clear hv hn
    go_enter Try.func21, Try.ntmps21
    go_wp2_with fail
    go_end0
    exact ⟨rfl, F, H1.out.1, fun _ h => .inl h, H1.out.2⟩
  · obtain rfl : v = -1 := by rw [← hv]; omega
    have hw2 : n ≤ -1 := by omega
    clear hv hn
    go_enter Try.func21, Try.ntmps21
    go_wp2_with fail
    go_end0
    exact ⟨rfl, F, H1.out.1, fun _ h => .inl h, H1.out.2⟩
/-- A disk at its beginning. -/
def DS.new (n : Nat) : DS := ⟨n, fun _ => z256, fun _ => z256, [], 0, -1, false⟩
def NF (w : World) (k : Nat) : Prop := w.heap.size ≤ k ∧ k < w.heap.size + 3
theorem new_dk (w : World) (K : Int) (m : Nat) (hK : K = (m : Int)) (hm : m ≤ 4096) :
    DkA (NF w) (w.heap.size + 1 + 1) (DS.new m) (((w.alloc (.map #[] 0)).alloc (.map #[] 0)).alloc (.cells #[.int .i64 K, .map (some w.heap.size), .map (some (w.heap.size + 1)), .slice none 0 0, .int .i64 0, .int .i64 (-1), .bool false] 63)) := by
  subst hK
  have e1 : (w.alloc (.map #[] 0)).heap.size = w.heap.size + 1 := World.size_alloc _ _
  have e2 : ((w.alloc (.map #[] 0)).alloc (.map #[] 0)).heap.size = w.heap.size + 1 + 1 := by rw [World.size_alloc, e1]
  have m1 := (MapB.made w Try.prog 3 z256).keep (nextA (Mem.start _) (.map #[] 0))
  have m2 := MapB.made (w.alloc (.map #[] 0)) Try.prog 3 z256
  rw [e1] at m2
  have hb := Blk.new ((w.alloc (.map #[] 0)).alloc (.map #[] 0)) 63 #[.int .i64 (m : Int), .map (some w.heap.size), .map (some (w.heap.size + 1)), .slice none 0 0, .int .i64 0, .int .i64 (-1), .bool false]
  rw [e2] at hb
  refine ⟨w.heap.size, w.heap.size + 1, none, 0, hb, ⟨0, m1.keep (nextA (Mem.start _) _), Nat.le_refl _⟩, m2.keep (nextA (Mem.start _) _), OwnK.nil, ⟨(fun x hx => by cases hx), (fun _ => z256_len), fun _ => z256_len⟩, ⟨⟨by omega, by omega⟩, ⟨by omega, by omega⟩, ⟨by omega, by omega⟩, by omega, by omega, by omega, (fun g hg => by cases hg)⟩, fun k hk => ?_, hm, (show 0 ≤ 256 ^ 3 from by decide), (show 0 ≤ 0 + 1 from by decide), (show (-1 : Int) ≤ -1 from by decide), (show (-1 : Int) ≤ 9223372036854775807 from by decide)⟩
  rw [World.size_alloc, e2]
  exact hk.2
def NewDk (w : World) (n : Int) (e : Ending) (w' : World) : Prop := ∃ F p, e = .returned (.pointer (some ⟨p, 0, none⟩)) ∧ DkA F p (DS.new (min 4096 (max 0 n)).toNat) w' ∧ (∀ k, F k → w.heap.size ≤ k) ∧ Below w.heap.size w w'
set_option maxHeartbeats 1000000 in
theorem new_any (w : World) (n : Int) : Calls Try.prog 20 #[.int .i64 n] w (NewDk w n) := by
  have hbd : ∀ (W : World) (k : Int) (a b : Nat), (Instr.build 63 #[(0, .int .i64 k), (1, .map (some a)), (2, .map (some b)), (5, .int .i64 (-1))]).run Try.prog W = .ok (.agg #[.int .i64 k, .map (some a), .map (some b), .slice none 0 0, .int .i64 0, .int .i64 (-1), .bool false]) W := fun _ _ _ _ => by kernel_rfl
  have hmk : ∀ W : World, (Instr.makeMap 60 none).run Try.prog W = .ok (.map (some W.heap.size)) (W.alloc (.map #[] 0)) := fun _ => by kernel_rfl
  go_enter Try.func20, Try.ntmps20
  go_wp2_with fail
  all_goals
    go_ret
    refine ⟨NF w, w.heap.size + 1 + 1, rfl, new_dk w _ _ (by omega) (by omega), fun k hk => hk.1, next (next (nextA (Mem.start w) _) (nextA (Mem.start _) _)) (nextA (Mem.start _) _)⟩
end
end Go.Proofs.Ytjpelifafmkdpaa.DkW
