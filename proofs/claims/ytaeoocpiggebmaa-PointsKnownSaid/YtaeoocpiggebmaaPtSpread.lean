/- points.common; points.Spread. -/
import Derived.Test.YtaeoocpiggebmaaPtOf
namespace Go.Proofs.Ytaeoocpiggebmaa.PtW
open Go.RowKit Go.Shelf Mem Gf FdW Rng
set_option linter.unusedVariables false
set_option linter.unusedSimpArgs false

set_option maxRecDepth 100000 in
set_option maxHeartbeats 2000000 in
theorem common_any (w : World) (a b : Nat) (ha : a ≤ 1000) (hb : b ≤ 1000) : Calls Try.prog 26 #[.int .i64 (a : Int), .int .i64 (b : Int)] w fun e w' => e = .returned (.int .i64 (Nat.gcd a b : Int)) ∧ Below w.heap.size w w' := by
  go_enter Try.func26, Try.ntmps26
  go_wp2_with fail
  go_loopw [0, 1] (fun s t wr => ∃ x y : Nat, s = .int .i64 (x : Int) ∧ t = .int .i64 (y : Int) ∧ x ≤ 1000 ∧ y ≤ 1000 ∧ Nat.gcd x y = Nat.gcd a b ∧ Below w.heap.size w wr) (fun _ t _ => (intOf t).toNat)
  case atStart => exact ⟨a, b, rfl, rfl, ha, hb, rfl, Mem.start w⟩
  case round =>
    obtain ⟨x, y, rfl, rfl, hx, hy, hg, hbl⟩ := hrel
    have HR := Lib.hid (And.intro hg hbl)
    clear hg hbl ha hb
    by_cases hy0 : y = 0
    · subst hy0
      go_wp2_with fail
      go_ret
      have := HR.out.1
      rw [Nat.gcd_zero_right] at this
      subst this
      exact ⟨rfl, HR.out.2⟩
    · have hyi : (0 : Int) < (y : Int) := by omega
      have hym : ((y : Int) == 0) = false := by simp; omega
      have hyi2 : (y : Int) ≤ 1000 := by omega
      have hxi : (x : Int) ≤ 1000 := by omega
      have hxi0 : (0 : Int) ≤ (x : Int) := by omega
      obtain ⟨z, hz⟩ : ∃ z, x % y = z := ⟨_, rfl⟩
      have hzt : (x : Int).tmod (y : Int) = (z : Int) := by rw [Int.tmod_eq_emod_of_nonneg hxi0]; omega
      have HZ := Lib.hid (show z < y ∧ Nat.gcd y z = Nat.gcd a b from ⟨by rw [← hz]; exact Nat.mod_lt _ (by omega), by rw [← HR.out.1, ← hz, Nat.gcd_comm x y, Nat.gcd_rec y x, Nat.gcd_comm]⟩)
      clear hz
      go_wp2_with fail
      --HELD2
      refine wp_region_noPanic ?_
      refine wp_region_held_drew (S := fun w' => Below w.heap.size w w') (by kernel_rfl) ?hs0 ?rg0
      case hs0 =>
        exact next HR.out.2 (nextN (Mem.start wr) 1)
      case rg0 =>
      intro hHeld
      refine wpAnyH_take (i := 0) (oi := { dst := some 7, op := Op.move (Operand.tmp 1), type := 3, pos := _, after := #[], guard := none }) (v := ?_) rfl (by kernel_rfl) (by kernel_rfl) (by kernel_rfl) (fun _ _ _ h => h) (Or.inl ⟨by rfl, ?_⟩) (by assumption) ?_
      rotate_left
      · intro w hSw
        try dsimp only at hSw
        go_simp
        try with_reducible rfl
      try simp only [Act.put, List.setIfInBounds_toArray, List.set_cons_zero, List.set_cons_succ]
      refine wpAnyH_take (i := 1) (oi := { dst := some 8, op := Op.move (Operand.tmp 0), type := 3, pos := _, after := #[], guard := none }) (v := ?_) rfl (by kernel_rfl) (by kernel_rfl) (by kernel_rfl) (fun _ _ _ h => h) (Or.inl ⟨by rfl, ?_⟩) (by assumption) ?_
      rotate_left
      · intro w hSw
        try dsimp only at hSw
        go_simp
        try with_reducible rfl
      try simp only [Act.put, List.setIfInBounds_toArray, List.set_cons_zero, List.set_cons_succ]
      refine wpAnyH_take (i := 2) (oi := { dst := some 9, op := Op.move (Operand.tmp 1), type := 3, pos := _, after := #[], guard := none }) (v := ?_) rfl (by kernel_rfl) (by kernel_rfl) (by kernel_rfl) (fun _ _ _ h => h) (Or.inl ⟨by rfl, ?_⟩) (by assumption) ?_
      rotate_left
      · intro w hSw
        try dsimp only at hSw
        go_simp
        try with_reducible rfl
      try simp only [Act.put, List.setIfInBounds_toArray, List.set_cons_zero, List.set_cons_succ]
      refine wpAnyH_take (i := 3) (oi := { dst := some 10, op := Op.binOp BinOp.rem 3 (Operand.tmp 8) (Operand.tmp 9) 3, type := 3, pos := _, after := #[{ on := 1, ground := Ground.data }, { on := 2, ground := Ground.data }], guard := none }) (v := ?_) rfl (by kernel_rfl) (by kernel_rfl) (by kernel_rfl) (fun _ _ _ h => h) (Or.inl ⟨by rfl, ?_⟩) (by assumption) ?_
      rotate_left
      · intro w hSw
        try dsimp only at hSw
        go_simp
        try with_reducible rfl
      try simp only [Act.put, List.setIfInBounds_toArray, List.set_cons_zero, List.set_cons_succ]
      refine wpAnyH_take (i := 4) (oi := { dst := some 0, op := Op.assign (Operand.tmp 7), type := 3, pos := _, after := #[{ on := 0, ground := Ground.data }, { on := 0, ground := Ground.phase }, { on := 1, ground := Ground.phase }, { on := 2, ground := Ground.textOnly Departure.lateStores }, { on := 3, ground := Ground.textOnly Departure.lateStoresUnsure }], guard := none }) (v := ?_) rfl (by kernel_rfl) (by kernel_rfl) (by kernel_rfl) (fun _ _ _ h => h) (Or.inl ⟨by rfl, ?_⟩) (by assumption) ?_
      rotate_left
      · intro w hSw
        try dsimp only at hSw
        go_simp
        try with_reducible rfl
      try simp only [Act.put, List.setIfInBounds_toArray, List.set_cons_zero, List.set_cons_succ]
      refine wpAnyH_take (i := 5) (oi := { dst := some 1, op := Op.assign (Operand.tmp 10), type := 3, pos := _, after := #[{ on := 3, ground := Ground.data }, { on := 4, ground := Ground.chain }, { on := 0, ground := Ground.phase }, { on := 1, ground := Ground.phase }, { on := 2, ground := Ground.phase }, { on := 3, ground := Ground.phase }, { on := 4, ground := Ground.phase }], guard := none }) (v := ?_) rfl (by kernel_rfl) (by kernel_rfl) (by kernel_rfl) (fun _ _ _ h => h) (Or.inl ⟨by rfl, ?_⟩) (by assumption) ?_
      rotate_left
      · intro w hSw
        try dsimp only at hSw
        go_simp
        try with_reducible rfl
      try simp only [Act.put, List.setIfInBounds_toArray, List.set_cons_zero, List.set_cons_succ]
      refine wpAnyH_done (by kernel_rfl) ?_ _
      refine NoPanic.normal ?_
      --END2
      go_wp2_with fail
      go_roundw
      case rel => exact ⟨y, z, rfl, rfl, hy, by have := HZ.out.1; omega, HZ.out.2, hHeld⟩
      case measure => simp [intOf]; have := HZ.out.1; omega

/-- A refusal. -/
def OfNo (w : World) (p : Nat) (e : Ending) (w' : World) : Prop := e = .returned (.tuple #[.slice none 0 0, .int .i64 2]) ∧ Fld w' p ∧ Fr (fun k => k = p) w w'
theorem OfOk.lift {w w1 w2 : World} {p : Nat} {l : List UInt8} {e : Ending} (hb : Below w.heap.size w w1) (h : OfOk w1 p l e w2) : OfOk w p l e w2 := by
  obtain ⟨A, c, h1, h2, h3, h4⟩ := h
  exact ⟨A, c, h1, h2.down hb.size, h3, (Fr.quiet (S := fun k => k = p) hb).trans h4 fun _ _ h => h⟩
def SprOk (n al : Int) : Prop := 1 ≤ al ∧ al ≤ 255 ∧ 0 ≤ n ∧ n ≤ ((255 / Nat.gcd al.toNat 255 : Nat) : Int)
def SprF (w : World) (p : Nat) (n al : Int) (e : Ending) (w' : World) : Prop := (SprOk n al ∧ OfOk w p (pts n.toNat) e w') ∨ (¬ SprOk n al ∧ OfNo w p e w')
set_option maxHeartbeats 2000000 in
theorem spread_out (w : World) (p : Nat) (hF : Fld w p) (n al : Int) (h : al < 1 ∨ 255 < al) : Calls Try.prog 12 #[fptr (some p), .int .i64 n, .int .i64 al] w (SprF w p n al) := by
  have hps : fptr (some p) = .pointer (some ⟨p, 0, none⟩) := rfl
  have HR := Lib.hid (show SprF w p n al (.returned (.tuple #[.slice none 0 0, .int .i64 2])) w from .inr ⟨fun h' => by have h1 := h'.1; have h2 := h'.2.1; omega, rfl, hF, Fr.refl _ _⟩)
  rw [hps]
  clear hps hF
  rcases h with h | h
  · go_enter Try.func12, Try.ntmps12
    go_wp2_with fail
    go_ret2
    exact HR.out
  · have h0 : ¬ al < 1 := by omega
    go_enter Try.func12, Try.ntmps12
    go_wp2_with fail
    go_ret2
    exact HR.out
set_option maxHeartbeats 2000000 in
theorem spread_in (w : World) (p : Nat) (hF : Fld w p) (n : Int) (k : Nat) (h1 : 1 ≤ k) (h2 : k ≤ 255) : Calls Try.prog 12 #[fptr (some p), .int .i64 n, .int .i64 (k : Int)] w (SprF w p n (k : Int)) := by
  have hps : fptr (some p) = .pointer (some ⟨p, 0, none⟩) := rfl
  have hk1 : ¬ (k : Int) < 1 := by omega
  have hk2 : ¬ (255 : Int) < (k : Int) := by omega
  have HC := Lib.hid (common_any w k 255 (by omega) (by omega))
  have hgp : 1 ≤ Nat.gcd k 255 := Nat.gcd_pos_of_pos_left _ h1
  have hgl : Nat.gcd k 255 ≤ k := Nat.gcd_le_left _ h1
  have HS := Lib.hid (show SprOk n (k : Int) ↔ 0 ≤ n ∧ n ≤ ((255 / Nat.gcd k 255 : Nat) : Int) from by
    unfold SprOk; rw [show ((k : Int)).toNat = k from rfl]
    exact ⟨fun h => ⟨h.2.2.1, h.2.2.2⟩, fun h => ⟨by omega, by omega, h.1, h.2⟩⟩)
  rw [hps]
  have HPS := Lib.hid hps
  have HF := Lib.hid hF
  clear hps hF
  generalize Nat.gcd k 255 = g at *
  obtain ⟨q, hq⟩ : ∃ q, 255 / g = q := ⟨_, rfl⟩
  have hqi : (255 : Int).tdiv (g : Int) = (q : Int) := by rw [Int.tdiv_eq_ediv_of_nonneg (by omega), ← hq]; first | rfl | simp | (push_cast; rfl)
  have hql : q ≤ 255 := by rw [← hq]; exact Nat.div_le_self _ _
  have hg0 : ((g : Int) == 0) = false := by simp; omega
  have hg1 : (1 : Int) ≤ (g : Int) := by omega
  have hqi2 : (q : Int) ≤ 255 := by omega
  have hqi0 : (0 : Int) ≤ (q : Int) := by omega
  have hg2 : (g : Int) ≤ 255 := by omega
  rw [hq] at HS
  have HQL := Lib.hid hql
  clear hq hgp hgl h1 h2 hql
  by_cases hnq : (q : Int) < n
  · go_enter Try.func12, Try.ntmps12
    go_wp2_with fail
    refine HC.out.mono ?_
    rintro e w1 ⟨rfl, hb⟩
    have HB := Lib.hid hb
    clear hb HC
    go_wp2_with fail
    go_ret2
    exact .inr ⟨fun h => by have := HS.out.1 h; omega, rfl, HF.out.keep HB.out, Fr.quiet HB.out⟩
  · by_cases hn0 : n < 0
    · go_enter Try.func12, Try.ntmps12
      go_wp2_with fail
      refine HC.out.mono ?_
      rintro e w1 ⟨rfl, hb⟩
      have HB := Lib.hid hb
      have HO := Lib.hid (of_bad w1 p n (.inl hn0))
      rw [HPS.out] at HO
      clear hb HC
      go_wp2_with fail
      refine HO.out.mono ?_
      rintro e w2 ⟨rfl, rfl⟩
      go_wp2_with fail
      go_ret2
      exact .inr ⟨fun h => by have := HS.out.1 h; omega, rfl, HF.out.keep HB.out, Fr.quiet HB.out⟩
    · obtain ⟨m, rfl⟩ : ∃ m : Nat, n = (m : Int) := ⟨n.toNat, by omega⟩
      go_enter Try.func12, Try.ntmps12
      go_wp2_with fail
      refine HC.out.mono ?_
      rintro e w1 ⟨rfl, hb⟩
      have HB := Lib.hid hb
      have HO := Lib.hid (of_ok w1 p (HF.out.keep hb) m (by have := HQL.out; omega))
      rw [HPS.out] at HO
      clear hb HC
      go_wp2_with fail
      refine HO.out.mono ?_
      rintro e w2 ⟨A, c, rfl, ho, hF2, hf2⟩
      have H2 := Lib.hid (And.intro ho (And.intro hF2 hf2))
      clear ho hF2 hf2
      go_wp2_with fail
      go_ret2
      exact .inl ⟨HS.out.2 ⟨by omega, by omega⟩, OfOk.lift HB.out ⟨A, c, rfl, H2.out⟩⟩
theorem spread_any (w : World) (p : Nat) (hF : Fld w p) (n al : Int) : Calls Try.prog 12 #[fptr (some p), .int .i64 n, .int .i64 al] w (SprF w p n al) := by
  by_cases h : al < 1 ∨ 255 < al
  · exact spread_out w p hF n al h
  · obtain ⟨k, rfl⟩ : ∃ k : Nat, al = (k : Int) := ⟨al.toNat, by omega⟩
    exact spread_in w p hF n k (by omega) (by omega)
end Go.Proofs.Ytaeoocpiggebmaa.PtW
