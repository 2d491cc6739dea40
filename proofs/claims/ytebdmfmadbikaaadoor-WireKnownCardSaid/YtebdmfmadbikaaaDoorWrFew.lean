/- The law's few: small messages. Printed by genwfew.py. -/
import Derived.Test.YtebdmfmadbikaaaDoorWrWorks
namespace Go.Proofs.YtebdmfmadbikaaaDoor.WiW
open Go.RowKit Go.Shelf Mem Fds FdW Wi Rng
set_option linter.unusedVariables false
set_option linter.unusedSimpArgs false

/-- A message that came in, of any size. -/
structure MIn0 (w : World) (B : Nat) (m : Msg) (s : Sl) : Prop where
  ids : Cells w B s.ia (m.ids.flatMap dc)
  nodes : Cells w B s.na (m.nodes.map iv)
  data : Bytes w B s.da m.data
  kind : m.kind < 256
  lk : m.key.length ≤ 9223372036854775807
  li : m.ids.length ≤ 9223372036854775807
  ln : m.nodes.length ≤ 9223372036854775807
  ld : m.data.length ≤ 9223372036854775807
  lik : ∀ x ∈ m.ids, x.1.length ≤ 9223372036854775807
theorem MIn0.below {w w' : World} {B : Nat} {m : Msg} {s : Sl} (h : MIn0 w B m s) (hb : Below B w w') : MIn0 w' B m s := ⟨h.ids.below hb, h.nodes.below hb, h.data.below hb, h.kind, h.lk, h.li, h.ln, h.ld, h.lik⟩
theorem MIn0.up {w : World} {B B' : Nat} {m : Msg} {s : Sl} (h : MIn0 w B m s) (hB : B ≤ B') : MIn0 w B' m s := ⟨h.ids.up hB, h.nodes.up hB, h.data.up hB, h.kind, h.lk, h.li, h.ln, h.ld, h.lik⟩
theorem MIn0.keep {w w' : World} {m : Msg} {s : Sl} (h : MIn0 w w.heap.size m s) (hb : Below w.heap.size w w') : MIn0 w' w'.heap.size m s := (h.below hb).up hb.size
/-- The ids' keys, all their bytes. -/
def ksum : List (List UInt8 × Int) → Nat
  | [] => 0
  | x :: r => x.1.length + ksum r
theorem ksum_app (a b : List (List UInt8 × Int)) : ksum (a ++ b) = ksum a + ksum b := by
  induction a with
  | nil => simp [ksum]
  | cons x r ih => simp only [List.cons_append, ksum, ih]; omega
theorem ksum_take (l : List (List UInt8 × Int)) (j : Nat) (h : j < l.length) : ksum (l.take (j + 1)) = ksum (l.take j) + l[j].1.length := by
  rw [List.take_succ_eq_append_getElem h, ksum_app]; simp [ksum]
theorem ksum_le (l : List (List UInt8 × Int)) (j : Nat) : ksum (l.take j) ≤ ksum l := by
  have h := ksum_app (l.take j) (l.drop j)
  rw [List.take_append_drop] at h; omega
theorem ksum_mem (l : List (List UInt8 × Int)) (x : List UInt8 × Int) (h : x ∈ l) : x.1.length ≤ ksum l := by
  induction l with
  | nil => cases h
  | cons a r ih =>
    rcases List.mem_cons.1 h with rfl | h
    · simp [ksum]
    · have := ih h; simp only [ksum]; omega
/-- Has a message at most 3000 bytes and members? -/
def few (m : Msg) : Bool := decide (m.ids.length ≤ 200) && decide (m.nodes.length ≤ 600) && decide (m.data.length ≤ 3000) && decide (m.key.length ≤ 300) && decide (ksum m.ids ≤ 3000)
theorem few_iff (m : Msg) : few m = true ↔ m.ids.length ≤ 200 ∧ m.nodes.length ≤ 600 ∧ m.data.length ≤ 3000 ∧ m.key.length ≤ 300 ∧ ksum m.ids ≤ 3000 := by
  simp only [few, Bool.and_eq_true, decide_eq_true_eq]; constructor
  · rintro ⟨⟨⟨⟨h1, h2⟩, h3⟩, h4⟩, h5⟩; exact ⟨h1, h2, h3, h4, h5⟩
  · rintro ⟨h1, h2, h3, h4, h5⟩; exact ⟨⟨⟨⟨h1, h2⟩, h3⟩, h4⟩, h5⟩
theorem MIn0.small {w : World} {B : Nat} {m : Msg} {s : Sl} (h : MIn0 w B m s) (hf : few m = true) : MIn w B m s := by
  have hf := (few_iff m).1 hf
  exact ⟨h.ids, h.nodes, h.data, h.kind, by omega, by omega, by omega, by omega, fun x hx => by have := ksum_mem _ _ hx; omega⟩
set_option maxRecDepth 100000 in
set_option maxHeartbeats 8000000 in
theorem few_any (w : World) (m : Msg) (s : Sl) (hI : MIn0 w w.heap.size m s) :
    Calls Tryd.prog 9 #[.agg (mv m s)] w fun e w' => e = .returned (.bool (few m)) ∧ Below w.heap.size w w' := by
  obtain ⟨w1, hw1⟩ : ∃ w1 : World, w.alloc (.cells (mv m s) 27) = w1 := ⟨_, rfl⟩
  obtain ⟨bx, hbx⟩ : ∃ bx, w.heap.size = bx := ⟨_, rfl⟩
  have HB := Lib.hid (show Below w.heap.size w w1 by rw [← hw1]; exact nextA (Mem.start w) _)
  have HX := Lib.hid (show Blk w1 bx 27 (mv m s) by rw [← hw1, ← hbx]; exact Blk.new w _ _)
  have HI := Lib.hid (hI.keep HB.out)
  have hsz : (str m.key).size = m.key.length := rfl
  have g1 : ((m.ids.length : Nat) : Int) ≤ 9223372036854775807 := by have := hI.li; omega
  clear hI
  have c4 := HX.out.cell 4
  have c11 := HX.out.cell 11
  have c12 := HX.out.cell 12
  have c13 := HX.out.cell 13
  simp [mv] at c4 c11 c12 c13
  by_cases h0 : m.ids.length ≤ 200
  rotate_left
  · have d0 : decide ((200 : Int) < ((m.ids.length : Nat) : Int)) = true := decide_eq_true (by omega)
    have HR := Lib.hid (show few m = false by simp [few, h0])
    clear h0
    go_enter Tryd.func9, Tryd.ntmps9
    go_wp2_with fail
    go_ret
    exact ⟨by rw [HR.out]; rfl, HB.out⟩
  have d0 : decide ((200 : Int) < ((m.ids.length : Nat) : Int)) = false := decide_eq_false (by omega)
  by_cases h1 : m.nodes.length ≤ 600
  rotate_left
  · have d1 : decide ((600 : Int) < ((m.nodes.length : Nat) : Int)) = true := decide_eq_true (by omega)
    have HR := Lib.hid (show few m = false by simp [few, h1])
    clear h0 h1
    go_enter Tryd.func9, Tryd.ntmps9
    go_wp2_with fail
    go_ret
    exact ⟨by rw [HR.out]; rfl, HB.out⟩
  have d1 : decide ((600 : Int) < ((m.nodes.length : Nat) : Int)) = false := decide_eq_false (by omega)
  by_cases h2 : m.data.length ≤ 3000
  rotate_left
  · have d2 : decide ((3000 : Int) < ((m.data.length : Nat) : Int)) = true := decide_eq_true (by omega)
    have HR := Lib.hid (show few m = false by simp [few, h2])
    clear h0 h1 h2
    go_enter Tryd.func9, Tryd.ntmps9
    go_wp2_with fail
    go_ret
    exact ⟨by rw [HR.out]; rfl, HB.out⟩
  have d2 : decide ((3000 : Int) < ((m.data.length : Nat) : Int)) = false := decide_eq_false (by omega)
  by_cases h3 : m.key.length ≤ 300
  rotate_left
  · have d3 : decide ((300 : Int) < ((m.key.length : Nat) : Int)) = true := decide_eq_true (by omega)
    have HR := Lib.hid (show few m = false by simp [few, h3])
    clear h0 h1 h2 h3
    go_enter Tryd.func9, Tryd.ntmps9
    go_wp2_with fail
    go_ret
    exact ⟨by rw [HR.out]; rfl, HB.out⟩
  have d3 : decide ((300 : Int) < ((m.key.length : Nat) : Int)) = false := decide_eq_false (by omega)
  have HH := Lib.hid (And.intro h0 (And.intro h1 (And.intro h2 h3)))
  have h0i : ((m.ids.length : Nat) : Int) ≤ 200 := by omega
  clear h0 h1 h2 h3
  go_enter Tryd.func9, Tryd.ntmps9
  go_wp2_with fail
  clear c4 c12 c13 hw1 d0 d1 d2 d3 hsz g1 hbx
  go_loop [3, 4] (fun t i => ∃ j : Nat, i = .int .i64 (j : Int) ∧ t = .int .i64 ((ksum (m.ids.take j) : Nat) : Int) ∧ j ≤ m.ids.length ∧ ksum (m.ids.take j) ≤ 3000) (fun _ i => m.ids.length - (intOf i).toNat)
  case atStart => exact ⟨0, rfl, rfl, Nat.zero_le _, by simp [ksum]⟩
  case round =>
    obtain ⟨j, rfl, rfl, hj, hk⟩ := hrel
    obtain ⟨t, ht⟩ : ∃ t, ksum (m.ids.take j) = t := ⟨_, rfl⟩
    rw [ht] at hk ⊢
    by_cases hjl : j < m.ids.length
    · obtain ⟨b1, o1, e1, _, k1, k2⟩ := ids_at HI.out.ids hjl
      rw [e1] at c11
      have hlk := HI.out.lik _ (List.getElem_mem hjl)
      have hst := ksum_take m.ids j hjl
      obtain ⟨x, hx⟩ : ∃ x, m.ids[j].1 = x := ⟨_, rfl⟩
      rw [hx] at k1 hlk hst
      have hxs : (str x).size = x.length := rfl
      obtain ⟨n, hn⟩ : ∃ n, x.length = n := ⟨_, rfl⟩
      rw [hn] at hxs hlk hst
      obtain ⟨sx, hsx⟩ : ∃ sx, str x = sx := ⟨_, rfl⟩
      rw [hsx] at k1 hxs
      rw [ht] at hst
      have h1 : (j : Int) < ((m.ids.length : Nat) : Int) := by omega
      have h0 : (0 : Int) ≤ (j : Int) := by omega
      have t0 : (0 : Int) ≤ (t : Int) := by omega
      have t1 : (t : Int) ≤ 3000 := by omega
      have hwr : wrap64 (3000 - (t : Int)) = 3000 - (t : Int) := by unfold wrap64; omega
      have HS := Lib.hid (And.intro hst (And.intro ht hlk))
      have HJ := Lib.hid hjl
      clear hx hn hsx hst ht e1 k2 hlk
      by_cases hle : n ≤ 3000 - t
      · have d5 : decide ((3000 : Int) - (t : Int) < (n : Int)) = false := decide_eq_false (by omega)
        have n1 : (n : Int) ≤ 3000 := by omega
        have n0 : (0 : Int) ≤ (n : Int) := by omega
        have HL := Lib.hid hle
        clear hle hjl hj
        go_wp2_with fail
        go_round
        case rel => exact ⟨j + 1, rfl, by rw [HS.out.1]; exact congrArg (Value.int .i64) (by omega), HJ.out, by rw [HS.out.1]; have := HL.out; omega⟩
        case measure => simp [intOf]; have := HJ.out; omega
      · have d5 : decide ((3000 : Int) - (t : Int) < (n : Int)) = true := decide_eq_true (by omega)
        have HR := Lib.hid (show few m = false by
          have h := ksum_le m.ids (j + 1)
          rw [HS.out.1] at h
          have h' : ¬ ksum m.ids ≤ 3000 := by omega
          simp [few, h'])
        clear hle hjl hj
        go_wp2_with fail
        go_ret
        exact ⟨by rw [HR.out]; rfl, HB.out⟩
    · obtain rfl : j = m.ids.length := by omega
      rw [List.take_of_length_le (Nat.le_refl _)] at ht
      have HR := Lib.hid (show few m = true from (few_iff m).2 ⟨HH.out.1, HH.out.2.1, HH.out.2.2.1, HH.out.2.2.2, by omega⟩)
      clear ht hjl hj
      go_wp2_with fail
      go_ret
      exact ⟨by rw [HR.out]; rfl, HB.out⟩
end Go.Proofs.YtebdmfmadbikaaaDoor.WiW
