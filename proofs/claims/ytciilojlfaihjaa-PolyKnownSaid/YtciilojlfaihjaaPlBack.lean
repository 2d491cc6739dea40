/- slices.Backward's closure: a walk from the last byte down, whatever the round's body turns outside the row and the box. -/
import Derived.Test.YtciilojlfaihjaaRng
import Derived.Shelf.RegionOpen
import Derived.OwnWalkIn
import Derived.TacticsInMore
import Derived.LoopNIn
import Derived.LoopIn
import Derived.Test.YtciilojlfaihjaaPlMore
namespace Go.Proofs.Ytciilojlfaihjaa.PlW
open Go.RowKit Go.Shelf Mem Gf FdW Pl Rng
set_option linter.unusedVariables false
attribute [local go_sem] Oper.semAt_some

/-- What has come when k rounds are over: the last ones, from the last one down. -/
def downL (l : List UInt8) (k : Nat) : List (Nat × UInt8) := (List.range k).map fun j => (l.length - 1 - j, cf l (l.length - 1 - j))
theorem downL_succ (l : List UInt8) (k : Nat) : downL l (k + 1) = downL l k ++ [(l.length - 1 - k, cf l (l.length - 1 - k))] := by simp [downL, List.range_succ]
theorem downL_length (l : List UInt8) (k : Nat) : (downL l k).length = k := by simp [downL]

set_option maxRecDepth 100000 in
set_option maxHeartbeats 2000000 in
theorem back1_in (F : Fence) (n : Nat) (hf : F.fn 42) (hro : F.round = none) (hn : 1 ≤ n) (lp Bs b off cap N1 : Nat) (T : Nat → Prop) (l : List UInt8) (hl : (l.length : Int) ≤ 1000000) (hb : b < N1) (hbT : ¬ T b) (hB1 : Bs < N1) (hB2 : ¬ T Bs) (J Jx : List (Nat × UInt8) → World → Prop)
    (hY : ∀ pre x W, J pre W → pre.length < l.length → YieldAt F (n - 1) Try.prog lp #[.int .i64 (x.1 : Int), .int .u8 (x.2.toNat : Int)] W fun e W' =>
      (e = .returned (.bool true) ∧ J (pre ++ [x]) W' ∧ Kp T N1 W W') ∨ (e = .returned (.bool false) ∧ Jx (pre ++ [x]) W'))
    (W : World) (hBs : W.cell? ⟨Bs, 0, none⟩ = some (.slice (some ⟨b, off, none⟩) l.length cap)) (hc : ∀ j, j < l.length → W.cell? ⟨b, off + j, none⟩ = some (.int .u8 ((cf l j).toNat : Int))) (h0 : J [] W) :
    CallsIn F n Try.prog 42 #[.func (.yield lp) #[] #[], .pointer (some ⟨Bs, 0, none⟩)] W fun e W' => (∃ v, e = .returned v) ∧
      ((∃ ys, ys = downL l l.length ∧ J ys W') ∨ (∃ pre, (∃ k, k ≤ l.length ∧ pre = downL l k) ∧ Jx pre W')) := by
  refine callsIn_of_wp Try.func42 rfl hf ?_ hro
  simp only [Try.ntmps42, List.size_toArray, List.length_cons, List.length_nil, Nat.reduceAdd, Nat.reduceSub, Array.replicate_succ, Array.replicate_zero, List.push_toArray, List.append_toArray, List.nil_append, List.cons_append]
  gi_wp2
  gi_loopw [3] (fun i wr => ∃ k : Nat, k ≤ l.length ∧ i = .int .i64 ((l.length : Int) - 1 - (k : Int)) ∧ J (downL l k) wr ∧ Kp T N1 W wr)
    (fun i _ => (intOf i + 1).toNat)
  case atStart => exact ⟨0, Nat.zero_le _, by simp, h0, Fr.refl _ _⟩
  case round =>
    obtain ⟨k, hk, rfl, hJs, hnx⟩ := hrel
    have hbs' : wr.cell? ⟨Bs, 0, none⟩ = some (.slice (some ⟨b, off, none⟩) l.length cap) := (World.cell?_of_block (hnx.block Bs (alive hBs) (fun h => h.elim hB2 (by omega)))).trans hBs
    by_cases hlt : k < l.length
    · obtain ⟨m, hm⟩ : ∃ m, l.length - 1 - k = m := ⟨_, rfl⟩
      have hmi : (l.length : Int) - 1 - (k : Int) = (m : Int) := by omega
      have hml : m < l.length := by omega
      have hsucc := Lib.hid (downL_succ l k)
      rw [hm] at hsucc
      obtain ⟨fn, tmps, assign, body, hy, hR⟩ := hY _ (m, cf l m) wr hJs (by rw [downL_length]; exact hlt)
      dsimp only at hy
      have hcx := hc m hml
      have hcm : wr.cell? ⟨b, off + m, none⟩ = some (.int .u8 ((cf l m).toNat : Int)) := (World.cell?_of_block (hnx.block b (alive hcx) (fun h => h.elim hbT (by omega)))).trans hcx
      have HX := Lib.hid hnx
      have HM := Lib.hid (And.intro hm hmi)
      have HC := Lib.hid hc
      rw [hmi]
      clear hcx hnx hc hBs hm hmi
      have hm0 : (0 : Int) ≤ (m : Int) := by omega
      have hm1 : (m : Int) < (l.length : Int) := by omega
      generalize cf l m = x at *
      gi_wp2
      refine hR.mono ?_
      rintro e W3 (⟨rfl, hJ3, hk3⟩ | ⟨rfl, hJx3⟩)
      · have H3 := Lib.hid (And.intro hJ3 hk3)
        clear hJ3 hk3
        gi_wp2
        go_roundw
        case rel => exact ⟨k + 1, by omega, by congr 1; have := HM.out.2; omega, by rw [hsucc.out]; exact H3.out.1, HX.out.trans H3.out.2 fun _ _ h => h⟩
        case measure => simp [intOf]
      · gi_wp2
        refine bodyPost_ret (results_none rfl _ _ _) rfl ?_
        exact ⟨⟨_, rfl⟩, .inr ⟨_, ⟨k + 1, by omega, hsucc.out.symm⟩, hJx3⟩⟩
    · obtain rfl : k = l.length := by omega
      have hneg : ¬ (0 : Int) ≤ (l.length : Int) - 1 - (l.length : Int) := by omega
      gi_wp2
      go_end0
      first | exact ⟨⟨_, rfl⟩, .inl ⟨_, rfl, hJs⟩⟩ | exact ⟨⟨_, rfl⟩, .inl hJs⟩

set_option maxRecDepth 100000 in
set_option maxHeartbeats 1000000 in
/-- .. at no bytes: no round. -/
theorem back1_nil_in (F : Fence) (n : Nat) (hf : F.fn 42) (hro : F.round = none) (lp Bs cap : Nat) (A : Option Addr) (J : List (Nat × UInt8) → World → Prop) (W : World) (hBs : W.cell? ⟨Bs, 0, none⟩ = some (.slice A 0 cap)) (h0 : J [] W) :
    CallsIn F n Try.prog 42 #[.func (.yield lp) #[] #[], .pointer (some ⟨Bs, 0, none⟩)] W fun e W' => (∃ v, e = .returned v) ∧ J [] W' := by
  refine callsIn_of_wp Try.func42 rfl hf ?_ hro
  simp only [Try.ntmps42, List.size_toArray, List.length_cons, List.length_nil, Nat.reduceAdd, Nat.reduceSub, Array.replicate_succ, Array.replicate_zero, List.push_toArray, List.append_toArray, List.nil_append, List.cons_append]
  gi_wp2
  gi_loopw [3] (fun i wr => i = .int .i64 (-1) ∧ J [] wr) (fun _ _ => 0)
  case atStart => exact ⟨rfl, h0⟩
  case round =>
    obtain ⟨rfl, hJs⟩ := hrel
    gi_wp2
    go_end0
    exact ⟨⟨_, rfl⟩, hJs⟩

set_option maxHeartbeats 1000000 in
/-- slices.Backward: the slice is boxed; the function value captures the box. -/
theorem back_in (F : Fence) (n : Nat) (hf : F.fn 36) (hro : F.round = none) (a : Option Addr) (len cap : Nat) (w : World) :
    CallsIn F n Try.prog 36 #[.slice a len cap] w fun e w' => e = .returned (.func (.func 42) #[] #[.pointer (some ⟨w.heap.size, 0, none⟩)]) ∧ w' = w.alloc (.cells #[.slice a len cap] 22) := by
  refine callsIn_of_wp Try.func36 rfl hf ?_ hro
  simp only [Try.ntmps36, List.size_toArray, List.length_cons, List.length_nil, Nat.reduceAdd, Nat.reduceSub, Array.replicate_succ, Array.replicate_zero, List.push_toArray, List.append_toArray, List.nil_append, List.cons_append]
  gi_wp2
  go_ret
  exact ⟨rfl, rfl⟩
end Go.Proofs.Ytciilojlfaihjaa.PlW
