/- Package wire's fieldsOf: its iterator. -/
import Derived.Test.YtebdmfmadbikaaaDoorWrSame
import Derived.Test.YtebdmfmadbikaaaDoorRngT
import Derived.OwnWalkIn
import Derived.TacticsInMore
import Derived.LoopNIn
import Derived.LoopIn
namespace Go.Proofs.YtebdmfmadbikaaaDoor.WiW
open Go.RowKit Go.Shelf Mem Fds FdW Wi Rng
set_option linter.unusedVariables false
set_option linter.unusedSimpArgs false
attribute [local go_sem] Oper.semAt_some wide_fn

theorem fieldsOf_any (w : World) (k : Nat) :
    Calls Tryd.prog 31 #[.int .u8 (k : Int)] w fun e w' => e = .returned (.func (.func 57) #[] #[.pointer (some ⟨w.heap.size, 0, none⟩)]) ∧ w.alloc (.cells #[.int .u8 (k : Int)] 5) = w' := by
  have hmf : ∀ (fn : Fn) (first cap : Array Value) (w : World), (Instr.makeFunc fn first cap).run Tryd.prog w = .ok (.func fn first cap) w := fun _ _ _ _ => rfl
  go_enter Tryd.func31, Tryd.ntmps31
  go_wp2_with fail
  go_ret
  exact ⟨rfl, rfl⟩

def bit (j : Nat) : Int := ((2 ^ j : Nat) : Int)
theorem mask_bit (k j : Nat) (hk : k < 256) (hj : j < 11) : bits .and .u16 ((mask k : Nat) : Int) (bit j) = if j ∈ flds k then bit j else 0 := by
  by_cases h : k < 21
  · have : ∀ k < 21, ∀ j < 11, bits .and .u16 ((mask k : Nat) : Int) (bit j) = if j ∈ flds k then bit j else 0 := by decide +kernel
    exact this k h j hj
  · have h1 : isK k = false := by simp [isK]; omega
    rw [(mask_zero k).2 h1, flds_over h1]
    have : ∀ j < 11, bits .and .u16 ((0 : Nat) : Int) (bit j) = 0 := by decide +kernel
    simpa using this j hj
theorem flds_cut (k j : Nat) (hk : k < 256) (hj : j < 11) : (flds k).filter (fun f => decide (f < j + 1)) = (flds k).filter (fun f => decide (f < j)) ++ (if j ∈ flds k then [j] else []) := by
  by_cases h : k < 21
  · have : ∀ k < 21, ∀ j < 11, (flds k).filter (fun f => decide (f < j + 1)) = (flds k).filter (fun f => decide (f < j)) ++ (if j ∈ flds k then [j] else []) := by decide +kernel
    exact this k h j hj
  · have h1 : isK k = false := by simp [isK]; omega
    rw [flds_over h1]; rfl
theorem flds_all (k : Nat) (hk : k < 256) : (flds k).filter (fun f => decide (f < 11)) = flds k := by
  by_cases h : k < 21
  · have : ∀ k < 21, (flds k).filter (fun f => decide (f < 11)) = flds k := by decide +kernel
    exact this k h
  · have h1 : isK k = false := by simp [isK]; omega
    rw [flds_over h1]; rfl
theorem flds_next (k j : Nat) (hk : k < 256) (hj : j < 11) (hm : j ∈ flds k) : ∃ r, (flds k).filter (fun f => decide (f < j)) ++ j :: r = flds k := by
  by_cases h : k < 21
  · have : ∀ k < 21, ∀ j < 11, j ∈ flds k → (flds k).filter (fun f => decide (f < j)) ++ j :: (flds k).filter (fun f => decide (j < f)) = flds k := by decide +kernel
    exact ⟨_, this k h j hj hm⟩
  · have h1 : isK k = false := by simp [isK]; omega
    rw [flds_over h1] at hm; cases hm
/-- The values that the iterator hands over. -/
def fenc (f : Nat) : Array Value := #[.int .u16 (bit f)]
/-- f is the field behind pre. -/
def Nxt (k : Nat) (pre : List Nat) (f : Nat) : Prop := f < 11 ∧ ∃ r, pre ++ f :: r = flds k

set_option maxRecDepth 100000 in
set_option maxHeartbeats 2000000 in
theorem fields1_in (lp B0 k : Nat) (hk : k < 256) (SB : Nat → Prop) (J Jx : List Nat → World → Prop) (Jp : List PanicEntry → World → Prop) (W : World) (hT : HasT W)
    (hSB : ¬ SB B0 ∧ ¬ SB 0) (h0 : W.cell? ⟨B0, 0, none⟩ = some (.int .u8 (k : Int)))
    (hY : ∀ pre f W1, J pre W1 → Nxt k pre f → YieldAt Fence.wide 3 Tryd.prog lp (fenc f) W1 fun e W' =>
      (e = .returned (.bool true) ∧ J (pre ++ [f]) W' ∧ Fr SB W1 W') ∨ (e = .returned (.bool false) ∧ Jx (pre ++ [f]) W') ∨ ∃ ch, e = .panicked ch ∧ Jp ch W')
    (hJ0 : J [] W) :
    CallsIn Fence.wide 4 Tryd.prog 57 #[.func (.yield lp) #[] #[], .pointer (some ⟨B0, 0, none⟩)] W fun e W' =>
      ((∃ v, e = .returned v) ∧ (J (flds k) W' ∨ ∃ pre, Jx pre W')) ∨ ∃ ch, e = .panicked ch ∧ Jp ch W' := by
  have HT := Lib.hid (And.intro hT (And.intro h0 (And.intro hT.pos (World.block_lt_of_cell? _ _ h0))))
  have HY := Lib.hid hY
  have HJ := Lib.hid hJ0
  have HSB := Lib.hid hSB
  have HKK := Lib.hid hk
  clear hT h0 hY hJ0 hSB hk
  refine callsIn_of_wp Tryd.func57 rfl trivial ?_ rfl
  simp only [Tryd.ntmps57, List.size_toArray, List.length_cons, List.length_nil, Nat.reduceAdd, Nat.reduceSub, Array.replicate_succ, Array.replicate_zero, List.push_toArray, List.append_toArray, List.nil_append, List.cons_append]
  gi_wp2
  gi_loopw [3] (fun i wr => ∃ (j : Nat), j ≤ 11 ∧ i = .int .u16 (bit j) ∧ J ((flds k).filter (fun f => decide (f < j))) wr ∧ Fr SB W wr)
    (fun i _ => (4096 - intOf i).toNat)
  case atStart => exact ⟨0, by decide, rfl, by rw [show (flds k).filter (fun f => decide (f < 0)) = [] from by simp]; exact HJ.out, Fr.refl _ _⟩
  case round =>
    obtain ⟨j, hj, rfl, hJs, hnx⟩ := hrel
    have hTr := HT.out.1.fr hnx HSB.out.2
    have c0 : wr.cell? ⟨B0, 0, none⟩ = some (.int .u8 (k : Int)) := (World.cell?_of_block (hnx.block B0 HT.out.2.2.2 HSB.out.1)).trans HT.out.2.1
    have hP := Lib.hid (And.intro hJs (And.intro hnx hTr))
    obtain ⟨b, hb⟩ : ∃ b, bit j = b := ⟨_, rfl⟩
    by_cases hj2 : j < 11
    · have hlt : b < 2048 := by
        have : ∀ j < 11, bit j < 2048 := by decide
        rw [← hb]; exact this j hj2
      have hpos : 1 ≤ b := by
        have : ∀ j < 11, 1 ≤ bit j := by decide
        rw [← hb]; exact this j hj2
      have hand := mask_bit k j HKK.out hj2
      rw [hb] at hand ⊢
      have hnext : bit (j + 1) = b * 2 := by
        have : ∀ j < 11, bit (j + 1) = bit j * 2 := by decide
        rw [← hb]; exact this j hj2
      have HN := Lib.hid (And.intro hb hnext)
      have HB2 := Lib.hid (show IntKind.u16.wrap (b * 2) = b * 2 from by have e : ∀ x : Int, IntKind.u16.wrap x = x % 65536 := fun _ => rfl; rw [e]; omega)
      have HBL := Lib.hid (And.intro hlt hpos)
      clear hJs hnx hTr hb hnext
      by_cases hm : j ∈ flds k
      · rw [if_pos hm] at hand
        have hb0 : (b != 0) = true := by simp; omega
        obtain ⟨fn, tmps, assign, body, hy, hR⟩ := HY.out _ j wr hP.out.1 ⟨hj2, flds_next k j HKK.out hj2 hm⟩
        simp only [fenc] at hy hR
        rw [HN.out.1] at hy
        have HM := Lib.hid hm
        clear hm hpos
        gi_wp2_with ((gi_at_call 47; refine (wide (hasOf_any _ k HKK.out hP.out.2.2)).mono ?_; (rintro e w1 ⟨rfl, rfl⟩)))
        refine hR.mono ?_
        rintro e W3 (⟨rfl, hJ3, hk3⟩ | ⟨rfl, hJx3⟩ | ⟨ch, rfl, hp3⟩)
        · have H3 := Lib.hid (And.intro hJ3 (hP.out.2.1.trans hk3 fun k _ h => h))
          clear hJ3 hk3 hy
          gi_wp2
          go_roundw
          case rel =>
            refine ⟨j + 1, hj2, ?_, ?_, H3.out.2⟩
            · have h1 := HN.out.2
              rw [h1]; exact congrArg (Value.int .u16) (HB2.out)
            · rw [flds_cut k j HKK.out hj2, if_pos HM.out]; exact H3.out.1
          case measure => have h2 := HB2.out; have h3 := HBL.out; simp only [intOf]; rw [h2]; exact (by omega)
        · have HX := Lib.hid hJx3
          clear hJx3 hy
          gi_wp2
          refine bodyPost_ret (results_none rfl _ _ _) rfl ?_
          exact .inl ⟨⟨_, rfl⟩, .inr ⟨_, HX.out⟩⟩
        · have HX := Lib.hid hp3
          clear hp3 hy
          gi_wp2
          exact ⟨rfl, .inr ⟨_, rfl, HX.out⟩⟩
      · rw [if_neg hm] at hand
        have hb0 : ((0 : Int) != 0) = false := by simp
        have HM := Lib.hid hm
        clear hm hpos
        gi_wp2_with ((gi_at_call 47; refine (wide (hasOf_any _ k HKK.out hP.out.2.2)).mono ?_; (rintro e w1 ⟨rfl, rfl⟩)))
        go_roundw
        case rel =>
          refine ⟨j + 1, hj2, ?_, ?_, hP.out.2.1⟩
          · have h1 := HN.out.2
            rw [h1]; exact congrArg (Value.int .u16) (HB2.out)
          · rw [flds_cut k j HKK.out hj2, if_neg HM.out, List.append_nil]; exact hP.out.1
        case measure => have h2 := HB2.out; have h3 := HBL.out; simp only [intOf]; rw [h2]; exact (by omega)
    · obtain rfl : j = 11 := by omega
      have h1 : b = 2048 := by rw [← hb]; rfl
      rw [hb, h1]
      rw [flds_all k HKK.out] at hJs
      have HX := Lib.hid hJs
      clear hJs hnx hTr hb h1
      gi_wp2
      go_end0
      exact .inl ⟨⟨_, rfl⟩, .inl HX.out⟩
/-- fieldsOf's iterator, where no round panics. -/
theorem fields_callT (w : World) (B0 k : Nat) (hk : k < 256) (SB : Nat → Prop) (I : List Nat → World → Prop) (Ix : Code → List Nat → World → Prop) (hT : HasT w) (hSB : ¬ SB B0 ∧ ¬ SB 0)
    (h0 : w.cell? ⟨B0, 0, none⟩ = some (.int .u8 (k : Int))) (hIx : ∀ c pre W1, ¬ Ix c pre W1) :
    CallT Tryd.prog 57 #[.pointer (some ⟨B0, 0, none⟩)] fenc I Ix (fun pre x _ => Nxt k pre x) SB w.heap.size (fun xs => xs = flds k) (fun _ => False) w := by
  intro J Jx W hsz hb hJI hJx hJt hJxt hY hJ0
  have l0 := World.block_lt_of_cell? _ _ h0
  dsimp only at l0
  refine CallsIn.mono (fields1_in (w.heap.size + 1) B0 k hk (fun k => SB k ∨ k = w.heap.size + 1) J Jx (fun _ _ => False) W (hT.keep hb) ⟨fun h => h.elim hSB.1 (by omega), fun h => h.elim hSB.2 (by have := hT.pos; omega)⟩ ((hb.cell l0).trans h0) (fun pre f W1 h hx => ?_) hJ0) ?_
  · exact YieldAt.mono (hY pre _ W1 h hx) fun e W' h' => h'.imp (fun h' => h') (fun h' => .inl ⟨h'.1, h'.2.1⟩)
  · rintro e W' (⟨hv, h | ⟨pre, hx⟩⟩ | ⟨ch, _, hf⟩)
    · exact ⟨hv, .inl ⟨_, rfl, h⟩⟩
    · obtain ⟨c, hc⟩ := hJx _ _ hx
      exact (hIx _ _ _ hc).elim
    · exact hf.elim
end Go.Proofs.YtebdmfmadbikaaaDoor.WiW
