/- points.powers: its closure hands over the powers of the generator, by a step, till it is told to stop. -/
import Derived.Test.YtaeoocpiggebmaaRngT
import Derived.Test.YtaeoocpiggebmaaFdPow
import Derived.Shelf.RegionOpen
import Derived.OwnWalkIn
import Derived.TacticsInMore
import Derived.LoopNIn
import Derived.LoopIn
namespace Go.Proofs.Ytaeoocpiggebmaa.PtW
open Go.RowKit Go.Shelf Mem Gf FdW Rng
set_option linter.unusedVariables false
attribute [local go_sem] Oper.semAt_some wide_fn

set_option maxHeartbeats 1000000 in
theorem powers_any (w : World) (p : Nat) (f t : Int) :
    Calls Try.prog 24 #[fptr (some p), .int .i64 f, .int .i64 t] w fun e w' => e = .returned (.func (.func 33) #[] #[.pointer (some ⟨w.heap.size + 1, 0, none⟩), .pointer (some ⟨w.heap.size, 0, none⟩), .pointer (some ⟨w.heap.size + 1 + 1, 0, none⟩)]) ∧
      w' = ((w.alloc (.cells #[.pointer (some ⟨p, 0, none⟩)] 22)).alloc (.cells #[.int .i64 f] 3)).alloc (.cells #[.int .i64 t] 3) := by
  have hmf : ∀ (fn : Fn) (first cap : Array Value) (w : World), (Instr.makeFunc fn first cap).run Try.prog w = .ok (.func fn first cap) w := fun _ _ _ _ => rfl
  have hps : fptr (some p) = .pointer (some ⟨p, 0, none⟩) := rfl
  rw [hps]
  clear hps
  go_enter Try.func24, Try.ntmps24
  go_wp2_with fail
  go_ret
  exact ⟨rfl, rfl⟩

/-- The element's place. -/
def pl (a s k : Nat) : UInt8 := pw (a + s * k)
theorem pl_mod (n : Nat) : pw ((n : Int) % 255).toNat = pw n := by rw [← pw_mod n]; congr 1
set_option maxRecDepth 100000 in
set_option maxHeartbeats 2000000 in
theorem powers1_in (p B0 B1 B2 lp a s N : Nat) (hs : 1 ≤ s) (hN : a + s * N ≤ 1000) (SB : Nat → Prop) (J Jx : List UInt8 → World → Prop) (W : World)
    (hne : B0 ≠ p ∧ B1 ≠ p ∧ B2 ≠ p) (hSB : ¬ SB B0 ∧ ¬ SB B1 ∧ ¬ SB B2)
    (h0 : W.cell? ⟨B0, 0, none⟩ = some (.pointer (some ⟨p, 0, none⟩))) (h1 : W.cell? ⟨B1, 0, none⟩ = some (.int .i64 (a : Int))) (h2 : W.cell? ⟨B2, 0, none⟩ = some (.int .i64 (s : Int)))
    (hJF : ∀ pre W1, J pre W1 → Fld W1 p ∧ pre.length < N) (hJt : ∀ pre W1 W2, J pre W1 → Fr (fun k => k = p) W1 W2 → Fld W2 p → J pre W2)
    (hY : ∀ pre W1, J pre W1 → YieldAt Fence.wide 3 Try.prog lp #[.int .u8 ((pl a s pre.length).toNat : Int)] W1 fun e W' =>
      (e = .returned (.bool true) ∧ J (pre ++ [pl a s pre.length]) W' ∧ Fr SB W1 W') ∨ (e = .returned (.bool false) ∧ Jx (pre ++ [pl a s pre.length]) W'))
    (hJ0 : J [] W) :
    CallsIn Fence.wide 4 Try.prog 33 #[.func (.yield lp) #[] #[], .pointer (some ⟨B1, 0, none⟩), .pointer (some ⟨B0, 0, none⟩), .pointer (some ⟨B2, 0, none⟩)] W fun e W' => (∃ v, e = .returned v) ∧ ∃ pre, Jx pre W' := by
  have HA := Lib.hid (And.intro (World.block_lt_of_cell? _ _ h0) (And.intro (World.block_lt_of_cell? _ _ h1) (World.block_lt_of_cell? _ _ h2)))
  have HC := Lib.hid (And.intro h0 (And.intro h1 h2))
  refine callsIn_of_wp Try.func33 rfl trivial ?_ rfl
  simp only [Try.ntmps33, List.size_toArray, List.length_cons, List.length_nil, Nat.reduceAdd, Nat.reduceSub, Array.replicate_succ, Array.replicate_zero, List.push_toArray, List.append_toArray, List.nil_append, List.cons_append]
  clear h0 h2
  gi_wp2
  gi_loopw [5] (fun i wr => ∃ (k : Nat) (ys : List UInt8), ys.length = k ∧ i = .int .i64 ((a + s * k : Nat) : Int) ∧ J ys wr ∧ Fr (fun k => k = p ∨ SB k) W wr)
    (fun i _ => (((a + s * N : Nat) : Int) - intOf i).toNat)
  case atStart => exact ⟨0, [], rfl, by simp, hJ0, Fr.refl _ _⟩
  case round =>
    obtain ⟨k, ys, hys, rfl, hJs, hnx⟩ := hrel
    have hkN := (hJF _ _ hJs).2
    have hFl := (hJF _ _ hJs).1
    have c0 : wr.cell? ⟨B0, 0, none⟩ = some (.pointer (some ⟨p, 0, none⟩)) := (World.cell?_of_block (hnx.block B0 HA.out.1 (fun h => h.elim hne.1 hSB.1))).trans HC.out.1
    have hmul : s * k + s ≤ s * N := by rw [← Nat.mul_succ]; exact Nat.mul_le_mul_left s (by omega)
    have hP := Lib.hid (And.intro hJs hnx)
    have HY := Lib.hid (And.intro hys (And.intro hmul hN))
    have HF := Lib.hid hFl
    have hii : ((a + s * k : Nat) : Int) ≤ 1000 := by omega
    have hi0 : (0 : Int) ≤ ((a + s * k : Nat) : Int) := by omega
    have HS := Lib.hid (show a + s * (k + 1) = a + s * k + s from by rw [Nat.mul_succ]; omega)
    have HPL := Lib.hid (show pl a s ys.length = pw (a + s * k) from by rw [hys]; rfl)
    clear hJs hnx hys hkN hFl h1
    obtain ⟨m, hm⟩ : ∃ m, a + s * k = m := ⟨_, rfl⟩
    have HM := Lib.hid hm
    rw [hm] at hii hi0 HS HPL ⊢
    clear hm hmul hN
    gi_wp2_with ((gi_at_call 34; refine (wide (exp_any wr (some p) (FldR.some HF.out) (m : Int))).mono ?_; (rintro e w1 ⟨rfl, hF1, hf1⟩; rw [pl_mod m]; have H1 := Lib.hid (And.intro (hF1 p rfl) (hf1.mono (S' := fun k => k = p) fun k _ h => by injection h with h; exact h.symm)); clear hF1 hf1; obtain ⟨fn, tmps, assign, body, hy, hR⟩ := hY ys w1 (hJt _ _ _ hP.out.1 H1.out.2 H1.out.1); rw [HPL.out] at hy)))
    refine hR.mono ?_
    rintro e W3 (⟨rfl, hJ3, hk3⟩ | ⟨rfl, hJx3⟩)
    · have hfr3 : Fr (fun k => k = p ∨ SB k) W W3 := (hP.out.2.trans H1.out.2 (fun k _ h => .inl h)).trans hk3 (fun k _ h => .inr h)
      have c2 : W3.cell? ⟨B2, 0, none⟩ = some (.int .i64 (s : Int)) := (World.cell?_of_block (hfr3.block B2 HA.out.2.2 (fun h => h.elim hne.2.2 hSB.2.2))).trans HC.out.2.2
      have H3 := Lib.hid (And.intro hJ3 hfr3)
      have hsi : (s : Int) ≤ 1000 := by have := HY.out.2.1; have := HY.out.2.2; omega
      have hs0 : (0 : Int) ≤ (s : Int) := by omega
      clear hJ3 hk3 hfr3 c0 hy
      gi_wp2
      go_roundw
      case rel => exact ⟨k + 1, ys ++ [pl a s ys.length], by rw [List.length_append, HY.out.1]; rfl, by rw [HS.out]; simp, H3.out.1, H3.out.2⟩
      case measure => simp [intOf]; have := HY.out.2.1; have := HM.out; omega
    · have HX := Lib.hid hJx3
      clear hJx3 hy
      gi_wp2
      go_end0
      exact ⟨⟨_, rfl⟩, _, HX.out⟩
end Go.Proofs.Ytaeoocpiggebmaa.PtW
