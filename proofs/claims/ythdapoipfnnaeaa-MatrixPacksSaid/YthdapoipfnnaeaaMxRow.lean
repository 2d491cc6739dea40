/- Matrices in memory; a row of one; one of noughts. -/
import Derived.Test.YthdapoipfnnaeaaMx
import Derived.Test.YthdapoipfnnaeaaFdPow
import Derived.Test.YthdapoipfnnaeaaClone
import Derived.Test.YthdapoipfnnaeaaMk
import Derived.Test.YthdapoipfnnaeaaRngT
import Derived.Test.YthdapoipfnnaeaaHeldG
namespace Go.Proofs.Ythdapoipfnnaeaa.MxW
open Go.RowKit Go.Shelf Mem Gf FdW Mx Rng
set_option linter.unusedVariables false

theorem u8info : (Try.prog.info? 5).map (fun i => (i.zero, i.size, i.bytes)) = some (some (.int .u8 0), 1, 1) := by kernel_rfl
/-- A matrix by value. -/
def mcells (r c : Nat) (A : Option Addr) (n cap : Nat) : Array Value := #[.int .i64 (r : Int), .int .i64 (c : Int), .slice A n cap]
/-- Where row i begins. -/
def rowA (A : Option Addr) (c i : Nat) : Option Addr := if i * c + c = i * c then A else A.map (·.add (i * c))
theorem addr_add (g o k : Nat) : (⟨g, o, none⟩ : Addr).add k = ⟨g, o + k, none⟩ := by
  simp only [Addr.add]
  split
  · rename_i h; subst h; rfl
  · rfl
theorem rowA_some {g o c i : Nat} (hc : 0 < c) : rowA (some ⟨g, o, none⟩) c i = some ⟨g, o + i * c, none⟩ := by
  unfold rowA
  rw [if_neg (by omega), Option.map_some, addr_add]
theorem rowA_zero {A : Option Addr} {i : Nat} : rowA A 0 i = A := if_pos rfl
theorem rowA_pos {A : Option Addr} {c i : Nat} (h : ¬ c = 0) : rowA A c i = A.map (·.add (i * c)) := if_neg (by omega)
def RowOk (w : World) (A : Option Addr) (c i : Nat) (e : Ending) (w' : World) : Prop := e = .returned (.slice (rowA A c i) c c) ∧ Below w.heap.size w w'
set_option maxRecDepth 100000 in
set_option maxHeartbeats 1000000 in
theorem row_any (w : World) (r c i : Nat) (A : Option Addr) (n cap : Nat) (hi : i < r) (hr : (r : Int) ≤ 1000000) (hn : n = r * c) (hn9 : (n : Int) ≤ 1000000000) (hc : n ≤ cap) :
    Calls Try.prog 49 #[.agg #[.int .i64 (r : Int), .int .i64 (c : Int), .slice A n cap], .int .i64 (i : Int)] w (RowOk w A c i) := by
  have h1 := idx_le (c := c) hi
  subst hn
  have hq : (i : Int) ≤ 1000000 := by omega
  have hi0 : (0 : Int) ≤ (i : Int) := by omega
  obtain ⟨p, hp⟩ : ∃ p, i * c = p := ⟨_, rfl⟩
  have e1 : (i : Int) * (c : Int) = (p : Int) := by rw [← hp]; simp
  have e2 : ((i : Int) + 1) * (c : Int) = (p : Int) + (c : Int) := by rw [← hp, Int.add_mul, Int.one_mul]; simp
  rw [hp] at h1
  have HP := Lib.hid hp
  have p1 : (p : Int) + (c : Int) ≤ (cap : Int) := by omega
  have p2 : (0 : Int) ≤ (p : Int) := by omega
  have p4 : (0 : Int) ≤ (p : Int) + (c : Int) := by omega
  have p6 : (p : Int) ≤ 1000000000 := by omega
  have p7 : (p : Int) + (c : Int) ≤ 1000000000 := by omega
  have w1 : wrap64 (p : Int) = (p : Int) := by unfold wrap64; omega
  have w2 : wrap64 ((p : Int) + (c : Int)) = (p : Int) + (c : Int) := by unfold wrap64; omega
  have w3 : ((p : Int) + (c : Int)).toNat = p + c := by omega
  have w4 : max ((p : Int) + (c : Int)) 0 = (p : Int) + (c : Int) := by omega
  have w5 : (p : Int) ≤ (p : Int) + (c : Int) := by omega
  obtain ⟨q, hq2⟩ : ∃ q, r * c = q := ⟨_, rfl⟩
  rw [hq2] at *
  clear hp hr hi hc hq2 h1 hn9
  go_enter Try.func49, Try.ntmps49
  go_wp2_with fail
  · go_ret
    refine ⟨?_, nextA (Mem.start w) _⟩
    subst h
    rw [rowA_zero]
    rfl
  · go_ret
    refine ⟨?_, nextA (Mem.start w) _⟩
    rw [rowA_pos h, HP.out]
    rfl
theorem set3 {w : World} {g : Nat} {T : TypeId} {c0 c1 c2 : Value} (h : Blk w g T #[c0, c1, c2]) (v0 v1 v2 : Value) : Blk (((w.setCell ⟨g, 0, none⟩ v0).setCell ⟨g, 1, none⟩ v1).setCell ⟨g, 2, none⟩ v2) g T #[v0, v1, v2] ∧ Fr (fun k => k = g) w (((w.setCell ⟨g, 0, none⟩ v0).setCell ⟨g, 1, none⟩ v1).setCell ⟨g, 2, none⟩ v2) :=
  ⟨((h.set_ 0 v0).set_ 1 v1).set_ 2 v2, Fr.setCell (p := ⟨g, 2, none⟩) (Fr.setCell (p := ⟨g, 1, none⟩) (Fr.setCell (p := ⟨g, 0, none⟩) (Fr.refl (fun k => k = g) w) (fun _ => rfl) v0) (fun _ => rfl) v1) (fun _ => rfl) v2⟩
theorem cells3 {w : World} {g : Nat} {T : TypeId} {c0 c1 c2 : Value} (h : Blk w g T #[c0, c1, c2]) : (w.cell? ⟨g, 0, none⟩ = some c0 ∧ w.cell? ⟨g, 1, none⟩ = some c1 ∧ w.cell? ⟨g, 2, none⟩ = some c2) ∧ w.frozen? ⟨g, 0, none⟩ = false ∧ w.frozen? ⟨g, 1, none⟩ = false ∧ w.frozen? ⟨g, 2, none⟩ = false := ⟨⟨h.cell 0, h.cell 1, h.cell 2⟩, h.frozen 0, h.frozen 1, h.frozen 2⟩
/-- What none leaves. -/
def NoneOk (w : World) (r c : Nat) (e : Ending) (w' : World) : Prop := ∃ g, e = .returned (.agg #[.int .i64 (r : Int), .int .i64 (c : Int), .slice (some ⟨g, 0, none⟩) (r * c) (r * c)]) ∧ Mem.Own w' w.heap.size 5 (some ⟨g, 0, none⟩) (r * c) ((flat r c fun _ _ => 0).map u8v) ∧ Below w.heap.size w w'
set_option maxRecDepth 100000 in
set_option maxHeartbeats 1000000 in
theorem none_any (w : World) (r c : Nat) (hr : ((r * c : Nat) : Int) ≤ 1000000000) :
    Calls Try.prog 43 #[.int .i64 (r : Int), .int .i64 (c : Int)] w (NoneOk w r c) := by
  obtain ⟨i0, hi0, hz0, hz1, hz2⟩ := info_parts u8info
  obtain ⟨q, hq⟩ : ∃ q, r * c = q := ⟨_, rfl⟩
  have e1 : (r : Int) * (c : Int) = (q : Int) := by rw [← hq]; simp
  have w1 : wrap64 (q : Int) = (q : Int) := by unfold wrap64; omega
  rw [hq] at hr
  have HQ := Lib.hid hq
  obtain ⟨g0, hg0⟩ : ∃ x, w.heap.size = x := ⟨_, rfl⟩
  obtain ⟨w1, hw1⟩ : ∃ x : World, w.alloc (.cells #[.int .i64 0, .int .i64 0, .slice none 0 0] 27) = x := ⟨_, rfl⟩
  have hb1 : Below w.heap.size w w1 := by rw [← hw1]; exact nextA (Mem.start w) _
  have hB1 : Blk w1 g0 27 #[.int .i64 0, .int .i64 0, .slice none 0 0] := by rw [← hw1, ← hg0]; exact Blk.new w _ _
  obtain ⟨g1, hg1⟩ : ∃ x, w1.heap.size = x := ⟨_, rfl⟩
  have hs1 : g1 = g0 + 1 := by rw [← hg1, ← hw1, World.size_alloc, hg0]
  have ho := own_mk w1 q (.int .u8 0) 5 (by unfold maxLen; omega) (base := g0) (by omega)
  obtain ⟨w2, hw2⟩ : ∃ x : World, w1.alloc (.cells (Array.replicate q (.int .u8 0)) 5) = x := ⟨_, rfl⟩
  have hb2 : Below w1.heap.size w1 w2 := by rw [← hw2]; exact nextA (Mem.start w1) _
  have hB2 := hB1.keep hb2
  rw [hw2, hg1] at ho
  obtain ⟨⟨c0, c1, c2⟩, f0, f1, f2⟩ := cells3 hB2
  obtain ⟨w3, hw3⟩ : ∃ x : World, ((w2.setCell ⟨g0, 0, none⟩ (.int .i64 (r : Int))).setCell ⟨g0, 1, none⟩ (.int .i64 (c : Int))).setCell ⟨g0, 2, none⟩ (.slice (some ⟨g1, 0, none⟩) q q) = x := ⟨_, rfl⟩
  have h3 := set3 hB2 (.int .i64 (r : Int)) (.int .i64 (c : Int)) (.slice (some ⟨g1, 0, none⟩) q q)
  rw [hw3] at h3
  have H3 := Lib.hid h3
  have HW3 := Lib.hid hw3
  clear hw3 h3
  have HO := Lib.hid (And.intro ho (And.intro hs1 (next hb1 hb2)))
  have HG0 := Lib.hid hg0
  have HG1 := Lib.hid hg1
  have HW1 := Lib.hid hw1
  have HW2 := Lib.hid hw2
  clear hq hb1 hB1 hb2 hB2 ho hs1 hg0 hg1 hw1 hw2
  go_enter Try.func43, Try.ntmps43
  go_wp2_with ((with_reducible show wpList _ _ _ ((⟨some 10, _, _, _, _, _⟩ : Oper) :: _) _ _); refine wpList_mk rfl _ _ _ rfl 5 i0 1 (.int .u8 0) Try.underlying22 hi0 hz0 hz1 hz2 rfl _ q rfl rfl rfl (by omega) (by unfold maxLen; omega) q rfl ?_; rw [HW1.out, HW2.out, HG1.out, HG0.out])
  rw [HW3.out]
  obtain ⟨⟨d0, d1, d2⟩, _⟩ := cells3 H3.out.1
  refine bodyPost_ret (v := .agg #[.int .i64 (r : Int), .int .i64 (c : Int), .slice (some ⟨g1, 0, none⟩) q q]) (by simp [results, Try.results43, go_sem, d0, d1, d2]) rfl ?_
  have hz : (flat r c fun _ _ => 0).map u8v = List.replicate q (.int .u8 0) := by rw [flat_zero, HQ.out, List.map_replicate]; rfl
  have h1 := HO.out.2.2
  have hg := HG0.out
  refine ⟨g1, by rw [HQ.out], ?_, h1.trans (H3.out.2.below h1.size fun k e => by rw [e, hg]; exact Nat.le_refl _)⟩
  rw [hz, HQ.out, hg]
  exact HO.out.1.fr H3.out.2 (fun g e1 e2 => by have := HO.out.2.1; injection e1 with e1; have := congrArg Addr.block e1; dsimp only at this; omega)
end Go.Proofs.Ythdapoipfnnaeaa.MxW
