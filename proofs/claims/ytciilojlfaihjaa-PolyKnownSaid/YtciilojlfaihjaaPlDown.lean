/- poly.down: the powers from one on down to another one, with the coefficients as they are then. -/
import Derived.Test.YtciilojlfaihjaaPlRoots
import Derived.Test.YtciilojlfaihjaaRngL
namespace Go.Proofs.Ytciilojlfaihjaa.PlW
open Go.RowKit Go.Shelf Mem Gf FdW Pl Rng
set_option linter.unusedVariables false
attribute [local go_sem] Oper.semAt_some wide_fn

set_option maxHeartbeats 1000000 in
theorem down_any (w : World) (A : Option Addr) (n cap : Nat) (f t : Int) :
    Calls Try.prog 32 #[.slice A n cap, .int .i64 f, .int .i64 t] w fun e w' => e = .returned (.func (.func 40) #[] #[.pointer (some ⟨w.heap.size + 1, 0, none⟩), .pointer (some ⟨w.heap.size + 1 + 1, 0, none⟩), .pointer (some ⟨w.heap.size, 0, none⟩)]) ∧
      w' = ((w.alloc (.cells #[.slice A n cap] 22)).alloc (.cells #[.int .i64 f] 3)).alloc (.cells #[.int .i64 t] 3) := by
  have hmf : ∀ (fn : Fn) (first cap : Array Value) (w : World), (Instr.makeFunc fn first cap).run Try.prog w = .ok (.func fn first cap) w := fun _ _ _ _ => rfl
  go_enter Try.func32, Try.ntmps32
  go_wp2_with fail
  go_ret
  exact ⟨rfl, rfl⟩

/-- The row is there, of bytes. -/
def RowX (b off m : Nat) (W : World) : Prop := ∀ j, j < m → ∃ c : UInt8, W.cell? ⟨b, off + j, none⟩ = some (.int .u8 (c.toNat : Int))
/-- What is told of a power: its place, its coefficient as it is then. -/
def LnkX (b off m n : Nat) (pre : List (Nat × UInt8)) (x : Nat × UInt8) (W : World) : Prop :=
  x.1 + 1 + pre.length = m ∧ n ≤ x.1 ∧ W.cell? ⟨b, off + x.1, none⟩ = some (.int .u8 (x.2.toNat : Int))
set_option maxRecDepth 100000 in
set_option maxHeartbeats 2000000 in
theorem down_seq (w : World) (B0 B1 B2 b off cap N1 m n : Nat) (A : Option Addr) (hA : n < m → A = some ⟨b, off, none⟩) (T : Nat → Prop) (hm : (m : Int) ≤ 1000000) (hn : (n : Int) ≤ 1000000)
    (h0 : w.cell? ⟨B0, 0, none⟩ = some (.slice A m cap)) (h1 : w.cell? ⟨B1, 0, none⟩ = some (.int .i64 ((m : Int) - 1))) (h2 : w.cell? ⟨B2, 0, none⟩ = some (.int .i64 (n : Int)))
    (hT : ¬ T B0 ∧ ¬ T B1 ∧ ¬ T B2) (hN : B0 < N1 ∧ B1 < N1 ∧ B2 < N1) :
    SeqL Try.prog 40 #[.pointer (some ⟨B1, 0, none⟩), .pointer (some ⟨B2, 0, none⟩), .pointer (some ⟨B0, 0, none⟩)] (fun x : Nat × UInt8 => #[Value.int .i64 (x.1 : Int), Value.int .u8 (x.2.toNat : Int)]) (RowX b off m) (LnkX b off m n) T N1 (fun ys => ys.length = m - n) (fun _ => True) w := by
  intro lp J Jx W hW hJR hY hJ0
  have c0 := (hW.cell (p := ⟨B0, 0, none⟩) (alive h0)).trans h0
  have c1 := (hW.cell (p := ⟨B1, 0, none⟩) (alive h1)).trans h1
  have c2 := (hW.cell (p := ⟨B2, 0, none⟩) (alive h2)).trans h2
  have HA := Lib.hid (And.intro (alive c0) (alive c2))
  clear h0 h1 h2 hW
  refine callsIn_of_wp Try.func40 rfl trivial ?_ rfl
  simp only [Try.ntmps40, List.size_toArray, List.length_cons, List.length_nil, Nat.reduceAdd, Nat.reduceSub, Array.replicate_succ, Array.replicate_zero, List.push_toArray, List.append_toArray, List.nil_append, List.cons_append]
  have HC := Lib.hid (And.intro c0 c2)
  clear c0 c2
  gi_wp2
  gi_loopw [5] (fun i wr => ∃ (k : Nat) (ys : List (Nat × UInt8)), ys.length = k ∧ k ≤ m - n ∧ i = .int .i64 ((m : Int) - 1 - (k : Int)) ∧ J ys wr ∧ Kp T N1 W wr)
    (fun i _ => (intOf i + 1).toNat)
  case atStart => exact ⟨0, [], rfl, Nat.zero_le _, by simp, hJ0, Fr.refl _ _⟩
  case round =>
    obtain ⟨k, ys, hys, hk, rfl, hJs, hnx⟩ := hrel
    have c0 : wr.cell? ⟨B0, 0, none⟩ = some (.slice A m cap) := (World.cell?_of_block (hnx.block B0 HA.out.1 (fun h => h.elim hT.1 (by omega)))).trans HC.out.1
    have c2 : wr.cell? ⟨B2, 0, none⟩ = some (.int .i64 (n : Int)) := (World.cell?_of_block (hnx.block B2 HA.out.2 (fun h => h.elim hT.2.2 (by omega)))).trans HC.out.2
    by_cases hlt : k < m - n
    · obtain rfl := hA (by omega)
      obtain ⟨i, hi⟩ : ∃ i, m - 1 - k = i := ⟨_, rfl⟩
      have hii : (m : Int) - 1 - (k : Int) = (i : Int) := by omega
      have him : (i : Int) < (m : Int) := by omega
      have hin : (n : Int) ≤ (i : Int) := by omega
      have hi0 : (0 : Int) ≤ (i : Int) := by omega
      obtain ⟨x, hx⟩ := hJR _ _ hJs i (by omega)
      obtain ⟨fn, tmps, assign, body, hy, hR⟩ := hY ys (i, x) wr hJs ⟨by show i + 1 + ys.length = m; omega, by show n ≤ i; omega, hx⟩
      dsimp only at hy
      have HX := Lib.hid hnx
      have HM := Lib.hid (And.intro hi (And.intro hii (And.intro hys hlt)))
      rw [hii]
      clear hnx hi hii hys hk hlt
      gi_wp2
      refine hR.mono ?_
      rintro e W3 (⟨rfl, hJ3, hk3⟩ | ⟨rfl, hJx3⟩)
      · have H3 := Lib.hid (And.intro hJ3 hk3)
        clear hJ3 hk3
        gi_wp2
        go_roundw
        case rel => exact ⟨k + 1, ys ++ [(i, x)], by rw [List.length_append, HM.out.2.2.1]; rfl, HM.out.2.2.2, by congr 1; have := HM.out.2.1; omega, H3.out.1, HX.out.trans H3.out.2 fun _ _ h => h⟩
        case measure => simp [intOf]
      · gi_wp2
        refine bodyPost_ret (results_none rfl _ _ _) rfl ?_
        exact ⟨⟨_, rfl⟩, .inr ⟨_, trivial, hJx3⟩⟩
    · have hneg : ¬ (n : Int) ≤ (m : Int) - 1 - (k : Int) := by omega
      have HK := Lib.hid (show ys.length = m - n by omega)
      clear hys hk hlt
      gi_wp2
      go_end0
      first | exact ⟨⟨_, rfl⟩, .inl ⟨_, HK.out, hJs⟩⟩ | exact ⟨⟨_, rfl⟩, .inl hJs⟩
end Go.Proofs.Ytciilojlfaihjaa.PlW
