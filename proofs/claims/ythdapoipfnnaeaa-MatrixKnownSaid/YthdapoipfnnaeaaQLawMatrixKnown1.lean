/- Texts of a claim, one behind another. -/
import Derived.Test.YthdapoipfnnaeaaSq
import Derived.Test.YthdapoipfnnaeaaSq3
import Derived.Test.YthdapoipfnnaeaaPlC
import Derived.Test.YthdapoipfnnaeaaFdPow
import Derived.Test.YthdapoipfnnaeaaClone
import Derived.Test.YthdapoipfnnaeaaMk
import Derived.Test.YthdapoipfnnaeaaRngT
import Derived.Test.YthdapoipfnnaeaaHeldG
import Derived.Shelf.RegionOpen
import Derived.OwnWalkIn
import Derived.TacticsInMore
import Derived.LoopNIn
import Derived.LoopIn
import Derived.Test.YthdapoipfnnaeaaPlIn
set_option linter.unusedSimpArgs false
set_option linter.unusedVariables false
/- Matrices of bytes, plain: as functions, as rows of bytes. -/
namespace Go.Proofs.Ythdapoipfnnaeaa.Mx
open Gf
set_option linter.unusedVariables false

/-- A matrix: row, column. -/
abbrev M := Nat → Nat → UInt8
/-- Its bytes, of r rows and c columns. -/
def flat (r c : Nat) (m : M) : List UInt8 := (List.range (r * c)).map fun j => m (j / c) (j % c)
/-- The matrix that bytes tell. -/
def ent (l : List UInt8) (c : Nat) : M := fun i k => l.getD (i * c + k) 0
section
variable {r c i k : Nat} {m m' : M} {l : List UInt8}
theorem flat_len (r c : Nat) (m : M) : (flat r c m).length = r * c := by unfold flat; rw [List.length_map, List.length_range]
theorem idx_lt (hi : i < r) (hk : k < c) : i * c + k < r * c := by
 have h : (i + 1) * c ≤ r * c := Nat.mul_le_mul_right c hi
 rw [Nat.succ_mul] at h
 omega
theorem idx_le (hi : i < r) : i * c + c ≤ r * c := by
 have h : (i + 1) * c ≤ r * c := Nat.mul_le_mul_right c hi
 rwa [Nat.succ_mul] at h
theorem idx_div (hk : k < c) : (i * c + k) / c = i := by
 rw [Nat.mul_comm, Nat.mul_add_div (by omega), Nat.div_eq_of_lt hk, Nat.add_zero]
theorem idx_mod (hk : k < c) : (i * c + k) % c = k := by
 rw [Nat.mul_comm, Nat.mul_add_mod, Nat.mod_eq_of_lt hk]
theorem idx_of {j : Nat} (hj : j < r * c) : ∃ i k, i < r ∧ k < c ∧ j = i * c + k := by
 have hc : 0 < c := by
  rcases Nat.eq_zero_or_pos c with h | h
  ·rw [h, Nat.mul_zero] at hj; omega
  ·exact h
 refine ⟨j / c, j % c, ?_, Nat.mod_lt _ hc, ?_⟩
 ·exact Nat.div_lt_of_lt_mul (by rwa [Nat.mul_comm])
 ·rw [Nat.mul_comm]; exact (Nat.div_add_mod j c).symm
theorem flat_get (hi : i < r) (hk : k < c) : (flat r c m)[i * c + k]? = some (m i k) := by
 unfold flat
 rw [List.getElem?_map, List.getElem?_range (idx_lt hi hk), Option.map_some, idx_div hk, idx_mod hk]
theorem flat_getE (hi : i < r) (hk : k < c) (h : i * c + k < (flat r c m).length) : (flat r c m)[i * c + k] = m i k := by
 have := flat_get (m := m) hi hk
 rw [List.getElem?_eq_getElem h] at this
 exact Option.some.inj this
theorem flat_ext (hl : l.length = r * c) (h : ∀ i, i < r → ∀ k, k < c → l[i * c + k]? = some (m i k)) : l = flat r c m := by
 apply List.ext_getElem?
 intro j
 by_cases hj : j < r * c
 ·obtain ⟨i, k, hi, hk, rfl⟩ := idx_of hj
  rw [h i hi k hk, flat_get hi hk]
 ·rw [List.getElem?_eq_none (by omega), List.getElem?_eq_none (by rw [flat_len]; omega)]
theorem ent_get (hl : l.length = r * c) (hi : i < r) (hk : k < c) : l[i * c + k]? = some (ent l c i k) := by
 have h := idx_lt hi hk
 unfold ent
 rw [List.getElem?_eq_getElem (by omega), List.getD_eq_getElem?_getD, List.getElem?_eq_getElem (by omega)]; rfl
theorem flat_ent (hl : l.length = r * c) : flat r c (ent l c) = l := (flat_ext hl fun i hi k hk => ent_get hl hi hk).symm
theorem ent_flat (hi : i < r) (hk : k < c) : ent (flat r c m) c i k = m i k := by
 have h := ent_get (flat_len r c m) hi hk
 rw [flat_get hi hk] at h
 exact (Option.some.inj h).symm
theorem flat_congr (h : ∀ i, i < r → ∀ k, k < c → m i k = m' i k) : flat r c m = flat r c m' :=
 flat_ext (flat_len r c m) fun i hi k hk => by rw [flat_get hi hk, h i hi k hk]
theorem flat_inj (h : flat r c m = flat r c m') (hi : i < r) (hk : k < c) : m i k = m' i k := by
 have := flat_get (m := m) hi hk
 rw [h, flat_get hi hk] at this
 exact (Option.some.inj this).symm
/-- One entry another one. -/
def upd (m : M) (i k : Nat) (x : UInt8) : M := fun i' k' => if i' = i ∧ k' = k then x else m i' k'
theorem flat_set (hi : i < r) (hk : k < c) (x : UInt8) : (flat r c m).set (i * c + k) x = flat r c (upd m i k x) := by
 refine flat_ext (by rw [List.length_set, flat_len]) fun i' hi' k' hk' => ?_
 rw [List.getElem?_set]
 unfold upd
 by_cases h : i' = i ∧ k' = k
 ·obtain ⟨rfl, rfl⟩ := h
  rw [if_pos rfl, if_pos (by rw [flat_len]; exact idx_lt hi hk), if_pos ⟨rfl, rfl⟩]
 ·rw [if_neg, flat_get hi' hk', if_neg h]
  intro e
  apply h
  have e1 := congrArg (· / c) e
  have e2 := congrArg (· % c) e
  simp only [idx_div hk, idx_div hk', idx_mod hk, idx_mod hk'] at e1 e2
  exact ⟨e1.symm, e2.symm⟩
/-- A row. -/
def row (c : Nat) (f : Nat → UInt8) : List UInt8 := (List.range c).map f
theorem row_len (c : Nat) (f : Nat → UInt8) : (row c f).length = c := by unfold row; rw [List.length_map, List.length_range]
theorem row_get {f : Nat → UInt8} (hk : k < c) : (row c f)[k]? = some (f k) := by unfold row; rw [List.getElem?_map, List.getElem?_range hk]; rfl
theorem flat_row (hi : i < r) : ((flat r c m).drop (i * c)).take c = row c (m i) := by
 apply List.ext_getElem?
 intro k
 by_cases hk : k < c
 ·rw [List.getElem?_take, if_pos hk, List.getElem?_drop, flat_get hi hk, row_get hk]
 ·rw [List.getElem?_take, if_neg hk, List.getElem?_eq_none (by rw [row_len]; omega)]
theorem flat_zero (r c : Nat) : flat r c (fun _ _ => 0) = List.replicate (r * c) 0 := by
 unfold flat
 apply List.ext_getElem?
 intro j
 rw [List.getElem?_map, List.getElem?_replicate]
 by_cases h : j < r * c
 ·rw [List.getElem?_range h, if_pos h]; rfl
 ·rw [List.getElem?_eq_none (by rw [List.length_range]; omega), if_neg h]; rfl
theorem row_congr {f g : Nat → UInt8} (h : ∀ k, k < c → f k = g k) : row c f = row c g := by
 apply List.ext_getElem?
 intro k
 by_cases hk : k < c
 ·rw [row_get hk, row_get hk, h k hk]
 ·rw [List.getElem?_eq_none (by rw [row_len]; omega), List.getElem?_eq_none (by rw [row_len]; omega)]
theorem flat_succ (r c : Nat) (m : M) : flat (r + 1) c m = flat r c m ++ row c (m r) := by
 refine (flat_ext (by rw [List.length_append, flat_len, row_len, Nat.succ_mul]) fun i hi k hk => ?_).symm
 by_cases h : i < r
 ·rw [List.getElem?_append_left (by rw [flat_len]; exact idx_lt h hk), flat_get h hk]
 ·obtain rfl : i = r := by omega
  rw [List.getElem?_append_right (by rw [flat_len]; omega), flat_len, Nat.add_sub_cancel_left, row_get hk]
theorem flat_nil (c : Nat) (m : M) : flat 0 c m = [] := by unfold flat; rw [Nat.zero_mul]; rfl
end
end Go.Proofs.Ythdapoipfnnaeaa.Mx
/- Matrices in memory; a row of one; one of noughts. -/
namespace Go.Proofs.Ythdapoipfnnaeaa.MxW
open Go.RowKit Go.Shelf Mem Gf FdW Mx Rng
set_option linter.unusedVariables false

theorem u8info : (Try.prog.info? 5).map (fun i => (i.zero, i.size, i.bytes)) = some (some (.int .u8 0), 1, 1) := by kernel_rfl
/-- A matrix by value. -/
def mcells (r c : Nat) (A : Option Addr) (n cap : Nat) : Array Value := #[.int .i64 (r : Int), .int .i64 (c : Int), .slice A n cap]
/-- Where row i begins. -/
def rowA (A : Option Addr) (c i : Nat) : Option Addr := if i * c + c = i * c then A else A.map (·.add (i * c))
theorem addr_add (g o k : Nat) : (⟨g, o, none⟩ : Addr).add k = ⟨g, o + k, none⟩ := by
 simp only [Addr.add]
 split
 ·rename_i h; subst h; rfl
 ·rfl
theorem rowA_some {g o c i : Nat} (hc : 0 < c) : rowA (some ⟨g, o, none⟩) c i = some ⟨g, o + i * c, none⟩ := by
 unfold rowA
 rw [if_neg (by omega), Option.map_some, addr_add]
theorem rowA_zero {A : Option Addr} {i : Nat} : rowA A 0 i = A := if_pos rfl
theorem rowA_pos {A : Option Addr} {c i : Nat} (h : ¬ c = 0) : rowA A c i = A.map (·.add (i * c)) := if_neg (by omega)
def RowOk (w : World) (A : Option Addr) (c i : Nat) (e : Ending) (w' : World) : Prop := e = .returned (.slice (rowA A c i) c c) ∧ Below w.heap.size w w'
set_option maxRecDepth 100000 in
set_option maxHeartbeats 1000000 in
theorem row_any (w : World) (r c i : Nat) (A : Option Addr) (n cap : Nat) (hi : i < r) (hr : (r : Int) ≤ 1000000) (hn : n = r * c) (hn9 : (n : Int) ≤ 1000000000) (hc : n ≤ cap) :
    Calls Try.prog 49 #[.agg #[.int .i64 (r : Int), .int .i64 (c : Int), .slice A n cap], .int .i64 (i : Int)] w (RowOk w A c i) := by
 have h1 := idx_le (c := c) hi
 subst hn
 have hq : (i : Int) ≤ 1000000 := by omega
 have hi0 : (0 : Int) ≤ (i : Int) := by omega
 obtain ⟨p, hp⟩ : ∃ p, i * c = p := ⟨_, rfl⟩
 have e1 : (i : Int) * (c : Int) = (p : Int) := by rw [← hp]; simp
 have e2 : ((i : Int) + 1) * (c : Int) = (p : Int) + (c : Int) := by rw [← hp, Int.add_mul, Int.one_mul]; simp
 rw [hp] at h1
 have HP := Lib.hid hp
 have p1 : (p : Int) + (c : Int) ≤ (cap : Int) := by omega
 have p2 : (0 : Int) ≤ (p : Int) := by omega
 have p4 : (0 : Int) ≤ (p : Int) + (c : Int) := by omega
 have p6 : (p : Int) ≤ 1000000000 := by omega
 have p7 : (p : Int) + (c : Int) ≤ 1000000000 := by omega
 have w1 : wrap64 (p : Int) = (p : Int) := by unfold wrap64; omega
 have w2 : wrap64 ((p : Int) + (c : Int)) = (p : Int) + (c : Int) := by unfold wrap64; omega
 have w3 : ((p : Int) + (c : Int)).toNat = p + c := by omega
 have w4 : max ((p : Int) + (c : Int)) 0 = (p : Int) + (c : Int) := by omega
 have w5 : (p : Int) ≤ (p : Int) + (c : Int) := by omega
 obtain ⟨q, hq2⟩ : ∃ q, r * c = q := ⟨_, rfl⟩
 rw [hq2] at *
 clear hp hr hi hc hq2 h1 hn9
 go_enter Try.func49, Try.ntmps49
 go_wp2_with fail
 ·go_ret
  refine ⟨?_, nextA (Mem.start w) _⟩
  subst h
  rw [rowA_zero]
  rfl
 ·go_ret
  refine ⟨?_, nextA (Mem.start w) _⟩
  rw [rowA_pos h, HP.out]
  rfl
theorem set3 {w : World} {g : Nat} {T : TypeId} {c0 c1 c2 : Value} (h : Blk w g T #[c0, c1, c2]) (v0 v1 v2 : Value) : Blk (((w.setCell ⟨g, 0, none⟩ v0).setCell ⟨g, 1, none⟩ v1).setCell ⟨g, 2, none⟩ v2) g T #[v0, v1, v2] ∧ Fr (fun k => k = g) w (((w.setCell ⟨g, 0, none⟩ v0).setCell ⟨g, 1, none⟩ v1).setCell ⟨g, 2, none⟩ v2) :=
 ⟨((h.set_ 0 v0).set_ 1 v1).set_ 2 v2, Fr.setCell (p := ⟨g, 2, none⟩) (Fr.setCell (p := ⟨g, 1, none⟩) (Fr.setCell (p := ⟨g, 0, none⟩) (Fr.refl (fun k => k = g) w) (fun _ => rfl) v0) (fun _ => rfl) v1) (fun _ => rfl) v2⟩
theorem cells3 {w : World} {g : Nat} {T : TypeId} {c0 c1 c2 : Value} (h : Blk w g T #[c0, c1, c2]) : (w.cell? ⟨g, 0, none⟩ = some c0 ∧ w.cell? ⟨g, 1, none⟩ = some c1 ∧ w.cell? ⟨g, 2, none⟩ = some c2) ∧ w.frozen? ⟨g, 0, none⟩ = false ∧ w.frozen? ⟨g, 1, none⟩ = false ∧ w.frozen? ⟨g, 2, none⟩ = false := ⟨⟨h.cell 0, h.cell 1, h.cell 2⟩, h.frozen 0, h.frozen 1, h.frozen 2⟩
/-- What none leaves. -/
def NoneOk (w : World) (r c : Nat) (e : Ending) (w' : World) : Prop := ∃ g, e = .returned (.agg #[.int .i64 (r : Int), .int .i64 (c : Int), .slice (some ⟨g, 0, none⟩) (r * c) (r * c)]) ∧ Mem.Own w' w.heap.size 5 (some ⟨g, 0, none⟩) (r * c) ((flat r c fun _ _ => 0).map u8v) ∧ Below w.heap.size w w'
set_option maxRecDepth 100000 in
set_option maxHeartbeats 1000000 in
theorem none_any (w : World) (r c : Nat) (hr : ((r * c : Nat) : Int) ≤ 1000000000) :
    Calls Try.prog 43 #[.int .i64 (r : Int), .int .i64 (c : Int)] w (NoneOk w r c) := by
 obtain ⟨i0, hi0, hz0, hz1, hz2⟩ := info_parts u8info
 obtain ⟨q, hq⟩ : ∃ q, r * c = q := ⟨_, rfl⟩
 have e1 : (r : Int) * (c : Int) = (q : Int) := by rw [← hq]; simp
 have w1 : wrap64 (q : Int) = (q : Int) := by unfold wrap64; omega
 rw [hq] at hr
 have HQ := Lib.hid hq
 obtain ⟨g0, hg0⟩ : ∃ x, w.heap.size = x := ⟨_, rfl⟩
 obtain ⟨w1, hw1⟩ : ∃ x : World, w.alloc (.cells #[.int .i64 0, .int .i64 0, .slice none 0 0] 27) = x := ⟨_, rfl⟩
 have hb1 : Below w.heap.size w w1 := by rw [← hw1]; exact nextA (Mem.start w) _
 have hB1 : Blk w1 g0 27 #[.int .i64 0, .int .i64 0, .slice none 0 0] := by rw [← hw1, ← hg0]; exact Blk.new w _ _
 obtain ⟨g1, hg1⟩ : ∃ x, w1.heap.size = x := ⟨_, rfl⟩
 have hs1 : g1 = g0 + 1 := by rw [← hg1, ← hw1, World.size_alloc, hg0]
 have ho := own_mk w1 q (.int .u8 0) 5 (by unfold maxLen; omega) (base := g0) (by omega)
 obtain ⟨w2, hw2⟩ : ∃ x : World, w1.alloc (.cells (Array.replicate q (.int .u8 0)) 5) = x := ⟨_, rfl⟩
 have hb2 : Below w1.heap.size w1 w2 := by rw [← hw2]; exact nextA (Mem.start w1) _
 have hB2 := hB1.keep hb2
 rw [hw2, hg1] at ho
 obtain ⟨⟨c0, c1, c2⟩, f0, f1, f2⟩ := cells3 hB2
 obtain ⟨w3, hw3⟩ : ∃ x : World, ((w2.setCell ⟨g0, 0, none⟩ (.int .i64 (r : Int))).setCell ⟨g0, 1, none⟩ (.int .i64 (c : Int))).setCell ⟨g0, 2, none⟩ (.slice (some ⟨g1, 0, none⟩) q q) = x := ⟨_, rfl⟩
 have h3 := set3 hB2 (.int .i64 (r : Int)) (.int .i64 (c : Int)) (.slice (some ⟨g1, 0, none⟩) q q)
 rw [hw3] at h3
 have H3 := Lib.hid h3
 have HW3 := Lib.hid hw3
 clear hw3 h3
 have HO := Lib.hid (And.intro ho (And.intro hs1 (next hb1 hb2)))
 have HG0 := Lib.hid hg0
 have HG1 := Lib.hid hg1
 have HW1 := Lib.hid hw1
 have HW2 := Lib.hid hw2
 clear hq hb1 hB1 hb2 hB2 ho hs1 hg0 hg1 hw1 hw2
 go_enter Try.func43, Try.ntmps43
 go_wp2_with ((with_reducible show wpList _ _ _ ((⟨some 10, _, _, _, _, _⟩ : Oper) :: _) _ _); refine wpList_mk rfl _ _ _ rfl 5 i0 1 (.int .u8 0) Try.underlying22 hi0 hz0 hz1 hz2 rfl _ q rfl rfl rfl (by omega) (by unfold maxLen; omega) q rfl ?_; rw [HW1.out, HW2.out, HG1.out, HG0.out])
 rw [HW3.out]
 obtain ⟨⟨d0, d1, d2⟩, _⟩ := cells3 H3.out.1
 refine bodyPost_ret (v := .agg #[.int .i64 (r : Int), .int .i64 (c : Int), .slice (some ⟨g1, 0, none⟩) q q]) (by simp [results, Try.results43, go_sem, d0, d1, d2]) rfl ?_
 have hz : (flat r c fun _ _ => 0).map u8v = List.replicate q (.int .u8 0) := by rw [flat_zero, HQ.out, List.map_replicate]; rfl
 have h1 := HO.out.2.2
 have hg := HG0.out
 refine ⟨g1, by rw [HQ.out], ?_, h1.trans (H3.out.2.below h1.size fun k e => by rw [e, hg]; exact Nat.le_refl _)⟩
 rw [hz, HQ.out, hg]
 exact HO.out.1.fr H3.out.2 (fun g e1 e2 => by have := HO.out.2.1; injection e1 with e1; have := congrArg Addr.block e1; dsimp only at this; omega)
end Go.Proofs.Ythdapoipfnnaeaa.MxW
/- A range over the rows of a matrix. -/
namespace Go.Proofs.Ythdapoipfnnaeaa.MxW
open Go.RowKit Go.Shelf Mem Gf FdW Mx Rng
set_option linter.unusedVariables false
attribute [local go_sem] Oper.semAt_some wide_fn

theorem rows_any (w : World) (x0 x1 x2 : Value) :
    Calls Try.prog 44 #[.agg #[x0, x1, x2]] w fun e w' => e = .returned (.func (.func 57) #[] #[.pointer (some ⟨w.heap.size, 0, none⟩)]) ∧ w' = w.alloc (.cells #[x0, x1, x2] 27) := by
 have hmf : ∀ (fn : Fn) (first cap : Array Value) (w : World), (Instr.makeFunc fn first cap).run Try.prog w = .ok (.func fn first cap) w := fun _ _ _ _ => rfl
 go_enter Try.func44, Try.ntmps44
 go_wp2_with fail
 go_ret
 exact ⟨rfl, rfl⟩

/-- What is handed over with row i. -/
def rowV (A : Option Addr) (c i : Nat) : Array Value := #[.int .i64 (i : Int), .slice (rowA A c i) c c]
set_option maxRecDepth 100000 in
set_option maxHeartbeats 2000000 in
theorem rows_callT (w : World) (bm r c : Nat) (A : Option Addr) (n cap : Nat) (hbm : Blk w bm 27 #[.int .i64 (r : Int), .int .i64 (c : Int), .slice A n cap]) (hr : (r : Int) ≤ 1000000) (hn : n = r * c) (hn9 : (n : Int) ≤ 1000000000) (hc : n ≤ cap)
    (SB : Nat → Prop) (hSB : ¬ SB bm) (I : List Nat → World → Prop) (hI : ∀ pre W W', I pre W → Below W.heap.size W W' → I pre W') :
    CallT Try.prog 57 #[.pointer (some ⟨bm, 0, none⟩)] (rowV A c) I (fun _ _ _ => False) (fun pre x _ => x = pre.length ∧ x < r) SB w.heap.size (fun xs => xs.length = r) (fun _ => False) w := by
 intro J Jx W hsz hb hJI hJx hJt hJxt hY hJ0
 obtain ⟨D, hD⟩ : ∃ D, w.heap.size = D := ⟨_, rfl⟩
 have hlt := hbm.lt
 have hB := hbm.keep hb
 have hne : bm ≠ D + 1 := by omega
 rw [hD] at hsz hJt hJxt hY ⊢
 have HJT := Lib.hid (show ∀ pre W1 W2, J pre W1 → Below W1.heap.size W1 W2 → J pre W2 from fun pre W1 W2 h hb => hJt pre W1 W2 (fun _ => False) h (Fr.quiet hb) (fun h => h) (fun h => h) (hI _ _ _ (hJI _ _ h) hb))
 have HY := Lib.hid hY
 have HJX := Lib.hid (show ∀ pre W1, Jx pre W1 → False from fun pre W1 h => by obtain ⟨c, h⟩ := hJx _ _ h; exact h)
 have HB := Lib.hid hB
 have HL := Lib.hid (And.intro hn (And.intro hn9 (And.intro hc hr)))
 have HS := Lib.hid (And.intro hSB hne)
 clear hbm hD hlt hB hne hJI hJx hJt hJxt hY hI hb hn hn9 hc hSB hsz
 refine callsIn_of_wp Try.func57 rfl trivial ?_ rfl
 simp only [Try.ntmps57, List.size_toArray, List.length_cons, List.length_nil, Nat.reduceAdd, Nat.reduceSub, Array.replicate_succ, Array.replicate_zero, List.push_toArray, List.append_toArray, List.nil_append, List.cons_append]
 obtain ⟨⟨c0, _, _⟩, _⟩ := cells3 HB.out
 gi_wp2
 clear c0
 gi_loopw [6] (fun i wr => ∃ (k : Nat) (ys : List Nat), ys.length = k ∧ k ≤ r ∧ i = .int .i64 (k : Int) ∧ J ys wr ∧ Blk wr bm 27 #[.int .i64 (r : Int), .int .i64 (c : Int), .slice A n cap])
  (fun i _ => r - (intOf i).toNat)
 case atStart => exact ⟨0, [], rfl, Nat.zero_le _, rfl, hJ0, HB.out⟩
 case round =>
  obtain ⟨k, ys, hys, hk, rfl, hJs, hbk⟩ := hrel
  by_cases hlt : k < r
  ·have hki : (k : Int) < (r : Int) := by omega
   have hk0 : (0 : Int) ≤ (k : Int) := by omega
   have hk9 : (k : Int) ≤ 1000000 := by omega
   obtain ⟨⟨d0, d1, d2⟩, _⟩ := cells3 hbk
   have HK := Lib.hid (And.intro hJs (And.intro hbk (And.intro hys hlt)))
   clear hJs hbk hys hk hlt
   gi_wp2
   refine (wide (row_any wr r c k A n cap HK.out.2.2.2 HL.out.2.2.2 HL.out.1 HL.out.2.1 HL.out.2.2.1)).mono ?_
   rintro e W1 ⟨rfl, hb⟩
   have hJ1 := HJT.out _ _ _ HK.out.1 hb
   have HB1 := Lib.hid (HK.out.2.1.keep hb)
   clear hb d0 d1 d2
   obtain ⟨fn, tmps, assign, body, hy, hR⟩ := HY.out ys k W1 hJ1 ⟨HK.out.2.2.1.symm, HK.out.2.2.2⟩
   unfold rowV at hy
   clear hJ1
   gi_wp2
   refine hR.mono ?_
   rintro e W3 (⟨rfl, hJ3, hk3⟩ | ⟨rfl, hJx3, _⟩)
   ·have H3 := Lib.hid (And.intro hJ3 (HB1.out.fr hk3 (fun h => h.elim HS.out.1 HS.out.2)))
    clear hJ3 hk3
    gi_wp2
    go_roundw
    case rel => exact ⟨k + 1, ys ++ [k], by rw [List.length_append, HK.out.2.2.1]; rfl, HK.out.2.2.2, by simp, H3.out.1, H3.out.2⟩
    case measure => simp [intOf]; omega
   ·exact (HJX.out _ _ hJx3).elim
  ·obtain rfl : k = r := by omega
   have HK := Lib.hid (And.intro hJs hys)
   clear hJs hys hk hlt hbk
   gi_wp2
   go_end0
   exact ⟨⟨_, rfl⟩, .inl ⟨_, HK.out.2, HK.out.1⟩⟩

/-- How a round's body may be left. -/
def postR (SB : Nat → Prop) (I : Nat → World → Prop) (i : Nat) (W : World) : Exit → Act → World → Prop
 | .normal, _, W' => Fr SB W W' ∧ I (i + 1) W'
 | _, _, _ => False
/-- A range over a matrix's rows. -/
theorem wpIn_rows {g : Operand} {p q : Tmp} {assign body : Code} {Q : Exit → Act → World → Prop} {a : Act} {w : World} (bm r c : Nat) (A : Option Addr) (n cap : Nat)
    (hg : a.eval g = .func (.func 57) #[] #[.pointer (some ⟨bm, 0, none⟩)]) (hbm : Blk w bm 27 #[.int .i64 (r : Int), .int .i64 (c : Int), .slice A n cap]) (hr : (r : Int) ≤ 1000000) (hn : n = r * c) (hn9 : (n : Int) ≤ 1000000000) (hc : n ≤ cap)
    (SB : Nat → Prop) (hSB : ¬ SB bm ∧ ¬ SB w.heap.size ∧ ¬ SB (w.heap.size + 1)) (I : Nat → World → Prop) (hI : ∀ i W W', I i W → Fr (fun k => k = w.heap.size + 1) W W' → I i W') (h0 : I 0 w)
    (hround : ∀ (l i : Nat) (W : World), I i W → i < r → assign.wpIn (Fence.wide.inRound l) 3 Try.prog (Exit.then (fun a₁ W₁ => W₁ = W ∧ ∀ W2, I i W2 → body.wpIn (Fence.wide.inRound l) 3 Try.prog (postR SB I i W2) a₁ W2) (fun _ _ _ => False))
     { tmps := (a.tmps.setIfInBounds p (.int .i64 (i : Int))).setIfInBounds q (.slice (rowA A c i) c c), defers := [] } W)
    (hdone : ∀ (D : Nat) (W : World), D = w.heap.size → I r W → W.heap[D]? = some (.deferred (some [])) → Q .normal { a with defers := { target := .collected D, args := #[] } :: a.defers } W) :
    (Code.rangeFunc g #[p, q] assign body).wpIn Fence.wide 5 Try.prog Q a w := by
 refine wpIn_rangeT (gf := 57) (lb := #[.pointer (some ⟨bm, 0, none⟩)]) (encs := rowV A c) hg (enters_of Try.func57 (by kernel_rfl) rfl) (fun _ => rfl)
  (fun pre W => I pre.length W) (fun _ _ _ => False) (fun pre x _ => x = pre.length ∧ x < r) SB (S := fun xs => xs.length = r) (Sp := fun _ => False) ⟨hSB.2.1, hSB.2.2⟩
  (rows_callT w bm r c A n cap hbm hr hn hn9 hc SB hSB.1 _ (fun pre W W' h hb => hI _ _ _ h (Fr.quiet hb))) (fun pre W W' h hf => hI _ _ _ h hf) (fun _ _ _ _ h _ => h) (fun _ _ _ _ h _ => h)
  (fun W hb _ => hI _ _ _ h0 (Fr.quiet hb)) ?_ ?_ ?_
 ·rintro l pre x W hi ⟨rfl, hx⟩
  rw [show (#[p, q].zip (rowV A c pre.length)).foldl (fun t (p, v) => t.setIfInBounds p v) a.tmps = (a.tmps.setIfInBounds p (.int .i64 (pre.length : Int))).setIfInBounds q (.slice (rowA A c pre.length) c c) from by simp [rowV]]
  refine wpIn_mono (hround l pre.length W hi hx) ?_
  rintro e a1 W0 he
  cases e with
  | normal =>
   obtain ⟨h1, h2⟩ : W0 = W ∧ _ := he
   refine ⟨h1, fun W2 hi2 _ => wpIn_mono (h2 W2 hi2) ?_⟩
   rintro e3 a3 W3 h3
   cases e3 with
   | normal => exact ⟨h3.1, by show I (pre ++ [pre.length]).length W3; rw [List.length_append]; exact h3.2⟩
   | _ => exact h3.elim
  | _ => exact he.elim
 ·rintro D xs W hD hxs hi hK
  have hxs : xs.length = r := hxs
  rw [← hxs] at hdone
  exact hdone D W hD hi hK
 ·rintro D c pre W _ h
  exact h.elim
/-- A piece that is left by its end alone. -/
def onlyN (Q : Exit → Act → World → Prop) : Exit → Act → World → Prop
 | .normal, a, w => Q .normal a w
 | _, _, _ => False
theorem wpIn_only {F : Fence} {n : Nat} {P : Program} {c : Code} {Q : Exit → Act → World → Prop} {a : Act} {w : World} (h : c.wpIn F n P (onlyN Q) a w) : c.wpIn F n P Q a w := wpIn_mono h (by
 intro e a w h
 cases e with
 | normal => exact h
 | _ => exact h.elim)
theorem onlyN_end {Q : Exit → Act → World → Prop} {a : Act} {w : World} (h : Q .normal a w) : onlyN Q .normal a w := h
/-- Marks of loops over functions, at a function's end. -/
def mark (D : Nat) : Deferred := { target := .collected D, args := #[] }
theorem leaves_marks {P : Program} {fn : Func} {tmps : Array Value} {R : Ending → World → Prop} : ∀ (Ds : List Nat) (W : World), Ds.Nodup → (∀ D ∈ Ds, W.heap[D]? = some (.deferred (some []))) →
    (∀ W', Fr (fun k => k ∈ Ds) W W' → (∀ (k : Nat) (o : Obj), W.heap[k]? = some o → o.isCells = true → W'.heap[k]? = some o) → LeavesIn Fence.wide 5 P fn tmps R [] .returning W') → LeavesInM Fence.wide 5 P fn tmps R (Ds.map mark) .returning W
 | [], W, _, _, h => h W (Fr.refl _ _) (fun _ _ h _ => h)
 | D :: Ds, W, hd, hK, h => by
  obtain ⟨hnd, hd'⟩ := List.nodup_cons.1 hd
  have hKD := hK D (by simp)
  have hf : Fr (fun k => k = D) W (W.putObj D (.deferred none)) := put_fr _
  refine ⟨by simp, .inl ⟨D, _, rfl, run_takeDeferred hKD, leaves_marks Ds _ hd' (fun D' hD' => ?_) fun W' hf' hc' => h W' ?_ ?_⟩⟩
  ·exact (World.putObj_heap_other (fun e => hnd (by subst e; exact hD'))).trans (hK D' (by simp [hD']))
  ·exact (hf.mono fun k _ e => by rw [e]; simp).trans hf' fun k _ h => by simp [h]
  ·intro k o hk ho
   have hkD : k ≠ D := fun e => by
    rw [e, hKD] at hk; injection hk with hk; subst hk; simp [Obj.isCells] at ho
   exact hc' k o ((World.putObj_heap_other hkD).trans hk) ho
end Go.Proofs.Ythdapoipfnnaeaa.MxW
/- The one matrix. -/
namespace Go.Proofs.Ythdapoipfnnaeaa.MxW
open Go.RowKit Go.Shelf Mem Gf FdW Mx Rng
set_option linter.unusedVariables false
attribute [local go_sem] Oper.semAt_some wide_fn

/-- Bytes that are new since block B. -/
def Nw (B : Nat) (w : World) (A : Option Addr) (l : List UInt8) : Prop := Bytes w w.heap.size A l ∧ ∀ b o, A = some ⟨b, o, none⟩ → 0 < l.length → B ≤ b
theorem Nw.keep {B : Nat} {w w' : World} {A : Option Addr} {l : List UInt8} (h : Nw B w A l) (hb : Below w.heap.size w w') : Nw B w' A l := ⟨(h.1.below hb).up hb.size, h.2⟩
theorem Nw.of_own {B c : Nat} {w : World} {A : Option Addr} {l : List UInt8} (h : Mem.Own w B 5 A c (l.map u8v)) : Nw B w A l := ⟨h.bytes, fun b o e hl => by
 rcases h.form with ⟨e2, _⟩ | ⟨g, e2, hb, _⟩
 ·rw [e] at e2; cases e2
 ·rw [e] at e2; injection e2 with e2; have := congrArg Addr.block e2; dsimp only at this; omega⟩
theorem Nw.mono {B B' : Nat} {w : World} {A : Option Addr} {l : List UInt8} (h : Nw B w A l) (hB : B' ≤ B) : Nw B' w A l := ⟨h.1, fun b o e hl => Nat.le_trans hB (h.2 b o e hl)⟩
/-- A new matrix. -/
def NewM (w : World) (r c : Nat) (m : M) (e : Ending) (w' : World) : Prop := ∃ A cap, e = .returned (.agg #[.int .i64 (r : Int), .int .i64 (c : Int), .slice A (r * c) cap]) ∧ r * c ≤ cap ∧ Nw w.heap.size w' A (flat r c m) ∧ Below w.heap.size w w'
def idm : M := fun i k => if i = k then 1 else 0
def oneM (j : Nat) : M := fun i k => if i < j ∧ i = k then 1 else 0
/-- A matrix being written, in block g. -/
def Wm (w : World) (B g cap r c : Nat) (m : M) : Prop := Mem.Own w B 5 (some ⟨g, 0, none⟩) cap ((flat r c m).map u8v)
section
variable {w w' : World} {B g cap r c : Nat} {m m' : M}
theorem Wm.fr {S : Nat → Prop} (h : Wm w B g cap r c m) (hf : Fr S w w') (hg : ¬ S g) : Wm w' B g cap r c m := Own.fr h hf fun g' e => by injection e with e; have := congrArg Addr.block e; dsimp only at this; rw [← this]; exact hg
theorem Wm.keep (h : Wm w B g cap r c m) (hb : Below w.heap.size w w') : Wm w' B g cap r c m := Own.keep h hb
theorem Wm.at_ (h : Wm w B g cap r c m) {i k : Nat} (hi : i < r) (hk : k < c) : w.cell? ⟨g, i * c + k, none⟩ = some (.int .u8 ((m i k).toNat : Int)) ∧ w.frozen? ⟨g, i * c + k, none⟩ = false := by
 obtain ⟨g', e, _, _, hc, hf, _⟩ := Own.at_ h (k := i * c + k) (by rw [List.length_map, flat_len]; exact idx_lt hi hk)
 injection e with e; have := congrArg Addr.block e; dsimp only at this; subst this
 rw [List.getElem_map, flat_getE hi hk] at hc
 exact ⟨hc, hf⟩
theorem Wm.set (h : Wm w B g cap r c m) {i k : Nat} (hi : i < r) (hk : k < c) (x : UInt8) : Wm (w.setCell ⟨g, i * c + k, none⟩ (.int .u8 (x.toNat : Int))) B g cap r c (upd m i k x) := by
 have := own_set h (k := i * c + k) (by rw [flat_len]; exact idx_lt hi hk) _ x rfl
 rw [flat_set hi hk] at this
 exact this
theorem Wm.congr (h : Wm w B g cap r c m) (hm : ∀ i, i < r → ∀ k, k < c → m i k = m' i k) : Wm w B g cap r c m' := by unfold Wm; rw [← flat_congr hm]; exact h
theorem Wm.form (h : Wm w B g cap r c m) : B ≤ g ∧ g < w.heap.size ∧ r * c ≤ cap ∧ cap ≤ maxLen := by
 rcases Own.form h with ⟨e, _⟩ | ⟨g', e, h1, h2, h3, h4⟩
 ·cases e
 ·injection e with e; have := congrArg Addr.block e; dsimp only at this; subst this
  rw [List.length_map, flat_len] at h3
  exact ⟨h1, h2, h3, h4⟩
theorem Wm.nw (h : Wm w B g cap r c m) : Nw B w (some ⟨g, 0, none⟩) (flat r c m) := Nw.of_own h
theorem setF {p : Nat} (w : World) (q : Addr) (h : q.block = p) (v : Value) : Fr (fun k => k = p) w (w.setCell q v) := Fr.setCell (p := q) (Fr.refl (fun k => k = p) w) (fun _ => h) v
end
/-- While the rows are gone over: the result's variable g0, the matrix' variable gm, its bytes in block g. -/
structure OneI (w : World) (g0 gm B g r : Nat) (i : Nat) (W : World) : Prop where
 below : Below w.heap.size w W
 res : Blk W g0 27 #[.int .i64 0, .int .i64 0, .slice none 0 0]
 var : Blk W gm 27 (mcells r r (some ⟨g, 0, none⟩) (r * r) (r * r))
 row : Wm W B g (r * r) r r (oneM i)
/-- A new variable: its world and its block by names. -/
theorem boxed (w : World) (cs : Array Value) : ∃ w' g, (Below w.heap.size w w' ∧ Blk w' g 27 cs ∧ w'.heap.size = g + 1) ∧ w.alloc (.cells cs 27) = w' ∧ w.heap.size = g :=
 ⟨_, _, ⟨nextA (Mem.start w) _, Blk.new w _ _, World.size_alloc _ _⟩, rfl, rfl⟩
set_option maxRecDepth 100000 in
set_option maxHeartbeats 2000000 in
theorem one_in (w : World) (r : Nat) (hr : (r : Int) ≤ 4096) : Calls Try.prog 27 #[.int .i64 (r : Int)] w (NewM w r r idm) := by
 have hq : ((r * r : Nat) : Int) ≤ 1000000000 := by
  have h1 : r * r ≤ 4096 * 4096 := Nat.mul_le_mul (by omega) (by omega)
  omega
 have hn0 : ¬ (r : Int) < 0 := by omega
 refine of_wide ?_
 refine callsIn_of_wp_marks Try.func27 rfl trivial ?_ rfl
 refine wpIn_wide.2 ?_
 simp only [Try.ntmps27, List.size_toArray, List.length_cons, List.length_nil, Nat.reduceAdd, Nat.reduceSub, Array.replicate_succ, Array.replicate_zero, List.push_toArray, List.append_toArray, List.nil_append, List.cons_append]
 obtain ⟨g0, hg0⟩ : ∃ x, w.heap.size = x := ⟨_, rfl⟩
 obtain ⟨w1, hw1⟩ : ∃ x : World, w.alloc (.cells #[.int .i64 0, .int .i64 0, .slice none 0 0] 27) = x := ⟨_, rfl⟩
 have hb1 : Below w.heap.size w w1 := by rw [← hw1]; exact nextA (Mem.start w) _
 have H1 := Lib.hid (show Below w.heap.size w w1 ∧ Blk w1 g0 27 #[.int .i64 0, .int .i64 0, .slice none 0 0] ∧ w1.heap.size = g0 + 1 from ⟨hb1, by rw [← hw1, ← hg0]; exact Blk.new w _ _, by rw [← hw1, World.size_alloc, hg0]⟩)
 have HW1 := Lib.hid hw1
 have HG0 := Lib.hid hg0
 have HQ := Lib.hid hq
 clear hb1 hw1 hg0 hq
 go_wp2_with fail
 rw [HW1.out, HG0.out]
 refine (none_any w1 r r HQ.out).mono ?_
 rintro e w2 ⟨g, rfl, ho, hb⟩
 have H2 := Lib.hid (show Below w.heap.size w w2 ∧ Blk w2 g0 27 #[.int .i64 0, .int .i64 0, .slice none 0 0] ∧ Wm w2 w1.heap.size g (r * r) r r (fun _ _ => 0) ∧ g0 + 1 ≤ w2.heap.size from ⟨next H1.out.1 hb, H1.out.2.1.keep hb, ho, by rw [← H1.out.2.2]; exact hb.size⟩)
 clear ho hb
 go_wp2_with fail
 obtain ⟨w3, gm, h3, hw3, hgm⟩ := boxed w2 (mcells r r (some ⟨g, 0, none⟩) (r * r) (r * r))
 have HW3 := Lib.hid (show w2.alloc (.cells #[.int .i64 (r : Int), .int .i64 (r : Int), .slice (some ⟨g, 0, none⟩) (r * r) (r * r)] 27) = w3 from hw3)
 have H3 := Lib.hid h3
 rw [HW3.out, hgm]
 have HGM := Lib.hid hgm
 clear hw3 hgm h3
 refine (rows_any w3 _ _ _).mono ?_
 rintro e w4' ⟨rfl, rfl⟩
 obtain ⟨w4, bm, h4, hw4, hbm⟩ := boxed w3 (mcells r r (some ⟨g, 0, none⟩) (r * r) (r * r))
 have HW4 := Lib.hid (show w3.alloc (.cells #[.int .i64 (r : Int), .int .i64 (r : Int), .slice (some ⟨g, 0, none⟩) (r * r) (r * r)] 27) = w4 from hw4)
 have H4 := Lib.hid h4
 rw [HW4.out, hbm]
 have HBM := Lib.hid hbm
 clear hw4 hbm h4
 go_wp2_with fail
 have hap : g0 + 1 = w1.heap.size ∧ w1.heap.size ≤ g ∧ g < gm ∧ bm = gm + 1 ∧ w4.heap.size = bm + 1 ∧ w.heap.size = g0 := by
  have h1 := H2.out.2.2.1.form
  have h2 := HGM.out; have h3 := HBM.out; have h4 := H3.out.2.2; have h5 := H4.out.2.2; have h6 := H1.out.2.2; have h7 := HG0.out
  omega
 have HAP := Lib.hid hap
 have HI0 := Lib.hid (show OneI w g0 gm w1.heap.size g r 0 w4 from
  ⟨next (next H2.out.1 H3.out.1) H4.out.1, (H2.out.2.1.keep H3.out.1).keep H4.out.1, H3.out.2.1.keep H4.out.1, ((H2.out.2.2.1.keep H3.out.1).keep H4.out.1).congr fun i _ k _ => by unfold oneM; rw [if_neg (by omega)]⟩)
 clear hap
 refine (wpIn_wide (n := 5)).1 ?_
 refine wpIn_rows bm r r (some ⟨g, 0, none⟩) (r * r) (r * r) rfl H4.out.2.1 (by omega) rfl HQ.out (Nat.le_refl _) (fun k => k = g) (by have := HAP.out; omega)
  (OneI w g0 gm w1.heap.size g r)
  ?hI HI0.out ?hround ?hdone
 case hI =>
  rintro i W W' ⟨h1, h2, h3, h4⟩ hf
  have hap := HAP.out
  exact ⟨h1.trans (hf.below h1.size fun k e => by rw [e]; omega), h2.fr hf (by omega), h3.fr hf (by omega), h4.fr hf (by omega)⟩
 case hround =>
  intro l i W hi hlt
  have HLT := Lib.hid hlt
  rw [show rowA (some ⟨g, 0, none⟩) r i = some ⟨g, i * r, none⟩ from by rw [rowA_some (by omega), Nat.zero_add]]
  obtain ⟨p, hp⟩ : ∃ p, i * r = p := ⟨_, rfl⟩
  rw [hp]
  have HP := Lib.hid hp
  have hir : (i : Int) < (r : Int) := by omega
  have hi0 : (0 : Int) ≤ (i : Int) := by omega
  clear hp hlt hi
  gi_wp2
  refine ⟨trivial, fun W2 hi2 => ?_⟩
  obtain ⟨hc, hz⟩ := hi2.row.at_ HLT.out HLT.out
  rw [HP.out] at hc hz
  have H := Lib.hid hi2
  clear hi2
  gi_wp2
  have hf := setF (p := g) W2 ⟨g, p + i, none⟩ rfl (.int .u8 1)
  have hap := HAP.out
  have hw := H.out.row.set HLT.out HLT.out 1
  rw [HP.out] at hw
  exact ⟨hf, H.out.1.trans (hf.below H.out.1.size fun k e => by rw [e]; omega), H.out.res.fr hf (by omega), H.out.var.fr hf (by omega), hw.congr fun i' _ k' _ => by unfold upd oneM; grind⟩
 case hdone =>
  intro D W hD hi hK
  have H := Lib.hid hi
  have HK := Lib.hid (And.intro hD hK)
  obtain ⟨⟨c0, c1, c2⟩, _⟩ := cells3 hi.var
  obtain ⟨⟨d0, d1, d2⟩, f0, f1, f2⟩ := cells3 hi.res
  obtain ⟨W3, hW3⟩ : ∃ x : World, ((W.setCell ⟨g0, 0, none⟩ (.int .i64 (r : Int))).setCell ⟨g0, 1, none⟩ (.int .i64 (r : Int))).setCell ⟨g0, 2, none⟩ (.slice (some ⟨g, 0, none⟩) (r * r) (r * r)) = x := ⟨_, rfl⟩
  have h3 := set3 hi.res (.int .i64 (r : Int)) (.int .i64 (r : Int)) (.slice (some ⟨g, 0, none⟩) (r * r) (r * r))
  rw [hW3] at h3
  have HW3 := Lib.hid hW3
  have HR := Lib.hid h3
  clear hi hK hD h3 hW3
  go_wp2_with fail
  rw [HW3.out]
  have hKD : W3.heap[D]? = some (.deferred (some [])) := by
   have h1 := (Array.getElem?_eq_some_iff.1 HK.out.2).1
   have hap := HAP.out
   have hd := HK.out.1
   rw [HR.out.2.block D h1 (by omega)]; exact HK.out.2
  have hst := shut_still (B := 0) (.deferred none) hKD rfl (Nat.zero_le _)
  obtain ⟨⟨e0, e1, e2⟩, _⟩ := cells3 (hst.blk HR.out.1)
  refine ⟨by simp, .inl ⟨_, _, rfl, run_takeDeferred hKD, ?_⟩⟩
  refine ⟨.agg #[.int .i64 (r : Int), .int .i64 (r : Int), .slice (some ⟨g, 0, none⟩) (r * r) (r * r)], ?_, ?_⟩
  ·simp [results, Try.results27, go_sem, e0, e1, e2]
  ·have hap := HAP.out
   have hb : Below w.heap.size w W3 := H.out.below.trans (HR.out.2.below H.out.below.size fun k e => by rw [e]; omega)
   have hw := (H.out.row.fr HR.out.2 (by omega)).congr (m' := idm) fun i hi k _ => by unfold oneM idm; simp [hi]
   refine ⟨some ⟨g, 0, none⟩, r * r, rfl, Nat.le_refl _, ?_, ?_⟩
   ·exact Nw.of_own (Own.down (Own.fr hw (put_fr (k := D) _) (fun g' e1 e2 => by injection e1 with e1; have := congrArg Addr.block e1; dsimp only at this; have := HK.out.1; omega)) (by omega))
   ·exact hb.trans ((put_fr (k := D) _).below hb.size fun k e => by rw [e]; have := HK.out.1; omega)
set_option maxRecDepth 100000 in
set_option maxHeartbeats 2000000 in
theorem one_out (w : World) (n : Int) (h : n < 0 ∨ 4096 < n) : Calls Try.prog 27 #[.int .i64 n] w (NewM w 0 0 idm) := by
 refine of_wide ?_
 refine callsIn_of_wp_marks Try.func27 rfl trivial ?_ rfl
 refine wpIn_wide.2 ?_
 simp only [Try.ntmps27, List.size_toArray, List.length_cons, List.length_nil, Nat.reduceAdd, Nat.reduceSub, Array.replicate_succ, Array.replicate_zero, List.push_toArray, List.append_toArray, List.nil_append, List.cons_append]
 obtain ⟨g0, hg0⟩ : ∃ x, w.heap.size = x := ⟨_, rfl⟩
 obtain ⟨w1, hw1⟩ : ∃ x : World, w.alloc (.cells #[.int .i64 0, .int .i64 0, .slice none 0 0] 27) = x := ⟨_, rfl⟩
 have hb1 : Below w.heap.size w w1 := by rw [← hw1]; exact nextA (Mem.start w) _
 have H1 := Lib.hid (show Below w.heap.size w w1 ∧ Blk w1 g0 27 #[.int .i64 0, .int .i64 0, .slice none 0 0] ∧ w1.heap.size = g0 + 1 from ⟨hb1, by rw [← hw1, ← hg0]; exact Blk.new w _ _, by rw [← hw1, World.size_alloc, hg0]⟩)
 have HW1 := Lib.hid hw1
 have HG0 := Lib.hid hg0
 clear hb1 hw1 hg0
 rcases h with h | h
 ·have h1 : decide (n < 0) = true := decide_eq_true h
  go_wp2_with fail
  rw [HW1.out, HG0.out]
  refine (none_any w1 0 0 (by decide)).mono ?_
  rintro e w2 ⟨g, rfl, ho, hb⟩
  have H2 := Lib.hid (show Below w.heap.size w w2 ∧ Blk w2 g0 27 #[.int .i64 0, .int .i64 0, .slice none 0 0] ∧ Wm w2 w1.heap.size g (0) 0 0 (fun _ _ => 0) ∧ g0 + 1 ≤ w2.heap.size from ⟨next H1.out.1 hb, H1.out.2.1.keep hb, ho, by rw [← H1.out.2.2]; exact hb.size⟩)
  clear ho hb
  go_wp2_with fail
  obtain ⟨w3, gm, h3, hw3, hgm⟩ := boxed w2 (mcells 0 0 (some ⟨g, 0, none⟩) (0) (0))
  have HW3 := Lib.hid (show w2.alloc (.cells #[.int .i64 0, .int .i64 0, .slice (some ⟨g, 0, none⟩) (0) (0)] 27) = w3 from hw3)
  have H3 := Lib.hid h3
  rw [HW3.out, hgm]
  have HGM := Lib.hid hgm
  clear hw3 hgm h3
  refine (rows_any w3 _ _ _).mono ?_
  rintro e w4' ⟨rfl, rfl⟩
  obtain ⟨w4, bm, h4, hw4, hbm⟩ := boxed w3 (mcells 0 0 (some ⟨g, 0, none⟩) (0) (0))
  have HW4 := Lib.hid (show w3.alloc (.cells #[.int .i64 0, .int .i64 0, .slice (some ⟨g, 0, none⟩) (0) (0)] 27) = w4 from hw4)
  have H4 := Lib.hid h4
  rw [HW4.out, hbm]
  have HBM := Lib.hid hbm
  clear hw4 hbm h4
  go_wp2_with fail
  have hap : g0 + 1 = w1.heap.size ∧ w1.heap.size ≤ g ∧ g < gm ∧ bm = gm + 1 ∧ w4.heap.size = bm + 1 ∧ w.heap.size = g0 := by
   have h1 := H2.out.2.2.1.form
   have h2 := HGM.out; have h3 := HBM.out; have h4 := H3.out.2.2; have h5 := H4.out.2.2; have h6 := H1.out.2.2; have h7 := HG0.out
   omega
  have HAP := Lib.hid hap
  have HI0 := Lib.hid (show OneI w g0 gm w1.heap.size g 0 0 w4 from
   ⟨next (next H2.out.1 H3.out.1) H4.out.1, (H2.out.2.1.keep H3.out.1).keep H4.out.1, H3.out.2.1.keep H4.out.1, ((H2.out.2.2.1.keep H3.out.1).keep H4.out.1).congr fun i _ k _ => by unfold oneM; rw [if_neg (by omega)]⟩)
  clear hap
  refine (wpIn_wide (n := 5)).1 ?_
  refine wpIn_rows bm 0 0 (some ⟨g, 0, none⟩) (0) (0) rfl H4.out.2.1 (by omega) rfl (by decide) (Nat.le_refl _) (fun k => k = g) (by have := HAP.out; omega)
   (OneI w g0 gm w1.heap.size g 0)
   ?hI HI0.out ?hround ?hdone
  case hI =>
   rintro i W W' ⟨h1, h2, h3, h4⟩ hf
   have hap := HAP.out
   exact ⟨h1.trans (hf.below h1.size fun k e => by rw [e]; omega), h2.fr hf (by omega), h3.fr hf (by omega), h4.fr hf (by omega)⟩
  case hround =>
   intro l i W hi hlt
   omega
  case hdone =>
   intro D W hD hi hK
   have H := Lib.hid hi
   have HK := Lib.hid (And.intro hD hK)
   obtain ⟨⟨c0, c1, c2⟩, _⟩ := cells3 hi.var
   obtain ⟨⟨d0, d1, d2⟩, f0, f1, f2⟩ := cells3 hi.res
   obtain ⟨W3, hW3⟩ : ∃ x : World, ((W.setCell ⟨g0, 0, none⟩ (.int .i64 0)).setCell ⟨g0, 1, none⟩ (.int .i64 0)).setCell ⟨g0, 2, none⟩ (.slice (some ⟨g, 0, none⟩) (0) (0)) = x := ⟨_, rfl⟩
   have h3 := set3 hi.res (.int .i64 0) (.int .i64 0) (.slice (some ⟨g, 0, none⟩) (0) (0))
   rw [hW3] at h3
   have HW3 := Lib.hid hW3
   have HR := Lib.hid h3
   clear hi hK hD h3 hW3
   go_wp2_with fail
   rw [HW3.out]
   have hKD : W3.heap[D]? = some (.deferred (some [])) := by
    have h1 := (Array.getElem?_eq_some_iff.1 HK.out.2).1
    have hap := HAP.out
    have hd := HK.out.1
    rw [HR.out.2.block D h1 (by omega)]; exact HK.out.2
   have hst := shut_still (B := 0) (.deferred none) hKD rfl (Nat.zero_le _)
   obtain ⟨⟨e0, e1, e2⟩, _⟩ := cells3 (hst.blk HR.out.1)
   refine ⟨by simp, .inl ⟨_, _, rfl, run_takeDeferred hKD, ?_⟩⟩
   refine ⟨.agg #[.int .i64 0, .int .i64 0, .slice (some ⟨g, 0, none⟩) (0) (0)], ?_, ?_⟩
   ·simp [results, Try.results27, go_sem, e0, e1, e2]
   ·have hap := HAP.out
    have hb : Below w.heap.size w W3 := H.out.below.trans (HR.out.2.below H.out.below.size fun k e => by rw [e]; omega)
    have hw := (H.out.row.fr HR.out.2 (by omega)).congr (m' := idm) fun i hi k _ => by unfold oneM idm; simp [hi]
    refine ⟨some ⟨g, 0, none⟩, 0, rfl, Nat.le_refl _, ?_, ?_⟩
    ·exact Nw.of_own (Own.down (Own.fr hw (put_fr (k := D) _) (fun g' e1 e2 => by injection e1 with e1; have := congrArg Addr.block e1; dsimp only at this; have := HK.out.1; omega)) (by omega))
    ·exact hb.trans ((put_fr (k := D) _).below hb.size fun k e => by rw [e]; have := HK.out.1; omega)
 ·have h1 : ¬ n < 0 := by omega
  go_wp2_with fail
  rw [HW1.out, HG0.out]
  refine (none_any w1 0 0 (by decide)).mono ?_
  rintro e w2 ⟨g, rfl, ho, hb⟩
  have H2 := Lib.hid (show Below w.heap.size w w2 ∧ Blk w2 g0 27 #[.int .i64 0, .int .i64 0, .slice none 0 0] ∧ Wm w2 w1.heap.size g (0) 0 0 (fun _ _ => 0) ∧ g0 + 1 ≤ w2.heap.size from ⟨next H1.out.1 hb, H1.out.2.1.keep hb, ho, by rw [← H1.out.2.2]; exact hb.size⟩)
  clear ho hb
  go_wp2_with fail
  obtain ⟨w3, gm, h3, hw3, hgm⟩ := boxed w2 (mcells 0 0 (some ⟨g, 0, none⟩) (0) (0))
  have HW3 := Lib.hid (show w2.alloc (.cells #[.int .i64 0, .int .i64 0, .slice (some ⟨g, 0, none⟩) (0) (0)] 27) = w3 from hw3)
  have H3 := Lib.hid h3
  rw [HW3.out, hgm]
  have HGM := Lib.hid hgm
  clear hw3 hgm h3
  refine (rows_any w3 _ _ _).mono ?_
  rintro e w4' ⟨rfl, rfl⟩
  obtain ⟨w4, bm, h4, hw4, hbm⟩ := boxed w3 (mcells 0 0 (some ⟨g, 0, none⟩) (0) (0))
  have HW4 := Lib.hid (show w3.alloc (.cells #[.int .i64 0, .int .i64 0, .slice (some ⟨g, 0, none⟩) (0) (0)] 27) = w4 from hw4)
  have H4 := Lib.hid h4
  rw [HW4.out, hbm]
  have HBM := Lib.hid hbm
  clear hw4 hbm h4
  go_wp2_with fail
  have hap : g0 + 1 = w1.heap.size ∧ w1.heap.size ≤ g ∧ g < gm ∧ bm = gm + 1 ∧ w4.heap.size = bm + 1 ∧ w.heap.size = g0 := by
   have h1 := H2.out.2.2.1.form
   have h2 := HGM.out; have h3 := HBM.out; have h4 := H3.out.2.2; have h5 := H4.out.2.2; have h6 := H1.out.2.2; have h7 := HG0.out
   omega
  have HAP := Lib.hid hap
  have HI0 := Lib.hid (show OneI w g0 gm w1.heap.size g 0 0 w4 from
   ⟨next (next H2.out.1 H3.out.1) H4.out.1, (H2.out.2.1.keep H3.out.1).keep H4.out.1, H3.out.2.1.keep H4.out.1, ((H2.out.2.2.1.keep H3.out.1).keep H4.out.1).congr fun i _ k _ => by unfold oneM; rw [if_neg (by omega)]⟩)
  clear hap
  refine (wpIn_wide (n := 5)).1 ?_
  refine wpIn_rows bm 0 0 (some ⟨g, 0, none⟩) (0) (0) rfl H4.out.2.1 (by omega) rfl (by decide) (Nat.le_refl _) (fun k => k = g) (by have := HAP.out; omega)
   (OneI w g0 gm w1.heap.size g 0)
   ?hI HI0.out ?hround ?hdone
  case hI =>
   rintro i W W' ⟨h1, h2, h3, h4⟩ hf
   have hap := HAP.out
   exact ⟨h1.trans (hf.below h1.size fun k e => by rw [e]; omega), h2.fr hf (by omega), h3.fr hf (by omega), h4.fr hf (by omega)⟩
  case hround =>
   intro l i W hi hlt
   omega
  case hdone =>
   intro D W hD hi hK
   have H := Lib.hid hi
   have HK := Lib.hid (And.intro hD hK)
   obtain ⟨⟨c0, c1, c2⟩, _⟩ := cells3 hi.var
   obtain ⟨⟨d0, d1, d2⟩, f0, f1, f2⟩ := cells3 hi.res
   obtain ⟨W3, hW3⟩ : ∃ x : World, ((W.setCell ⟨g0, 0, none⟩ (.int .i64 0)).setCell ⟨g0, 1, none⟩ (.int .i64 0)).setCell ⟨g0, 2, none⟩ (.slice (some ⟨g, 0, none⟩) (0) (0)) = x := ⟨_, rfl⟩
   have h3 := set3 hi.res (.int .i64 0) (.int .i64 0) (.slice (some ⟨g, 0, none⟩) (0) (0))
   rw [hW3] at h3
   have HW3 := Lib.hid hW3
   have HR := Lib.hid h3
   clear hi hK hD h3 hW3
   go_wp2_with fail
   rw [HW3.out]
   have hKD : W3.heap[D]? = some (.deferred (some [])) := by
    have h1 := (Array.getElem?_eq_some_iff.1 HK.out.2).1
    have hap := HAP.out
    have hd := HK.out.1
    rw [HR.out.2.block D h1 (by omega)]; exact HK.out.2
   have hst := shut_still (B := 0) (.deferred none) hKD rfl (Nat.zero_le _)
   obtain ⟨⟨e0, e1, e2⟩, _⟩ := cells3 (hst.blk HR.out.1)
   refine ⟨by simp, .inl ⟨_, _, rfl, run_takeDeferred hKD, ?_⟩⟩
   refine ⟨.agg #[.int .i64 0, .int .i64 0, .slice (some ⟨g, 0, none⟩) (0) (0)], ?_, ?_⟩
   ·simp [results, Try.results27, go_sem, e0, e1, e2]
   ·have hap := HAP.out
    have hb : Below w.heap.size w W3 := H.out.below.trans (HR.out.2.below H.out.below.size fun k e => by rw [e]; omega)
    have hw := (H.out.row.fr HR.out.2 (by omega)).congr (m' := idm) fun i hi k _ => by unfold oneM idm; simp [hi]
    refine ⟨some ⟨g, 0, none⟩, 0, rfl, Nat.le_refl _, ?_, ?_⟩
    ·exact Nw.of_own (Own.down (Own.fr hw (put_fr (k := D) _) (fun g' e1 e2 => by injection e1 with e1; have := congrArg Addr.block e1; dsimp only at this; have := HK.out.1; omega)) (by omega))
    ·exact hb.trans ((put_fr (k := D) _).below hb.size fun k e => by rw [e]; have := HK.out.1; omega)
end Go.Proofs.Ythdapoipfnnaeaa.MxW
/- Is a matrix right? Are two the same? Small, plain, copied. -/
namespace Go.Proofs.Ythdapoipfnnaeaa.MxW
open Go.RowKit Go.Shelf Mem Gf FdW Mx Rng
set_option linter.unusedVariables false

theorem run_min2 (x y z : Int) (h : min x y = z) (w : World) : (Builtin.min_ #[3, 3] 3 #[.int .i64 x, .int .i64 y]).run Try.prog w = .ok (.int .i64 z) w := by
 subst h
 rcases Int.lt_or_le y x with h | h
 ·simp [Builtin.min_, Builtin.min2, h, Int.min_eq_right (Int.le_of_lt h)]
 ·simp [Builtin.min_, Builtin.min2, Int.min_eq_left h, Int.not_lt.2 h]
theorem run_max2 (x y z : Int) (h : max x y = z) (w : World) : (Builtin.max_ #[3, 3] 3 #[.int .i64 x, .int .i64 y]).run Try.prog w = .ok (.int .i64 z) w := by
 subst h
 rcases Int.lt_or_le x y with h | h
 ·simp [Builtin.max_, Builtin.max2, h, Int.max_eq_right (Int.le_of_lt h)]
 ·simp [Builtin.max_, Builtin.max2, Int.max_eq_left h, Int.not_lt.2 h]
def rightB (R C : Int) (n : Nat) : Bool := decide (0 ≤ R ∧ 0 ≤ C ∧ R ≤ 65536 ∧ C ≤ 65536 ∧ (n : Int) = R * C)
theorem right_nat {R C : Int} {n : Nat} (h : rightB R C n = true) : ∃ r c : Nat, R = (r : Int) ∧ C = (c : Int) ∧ r ≤ 65536 ∧ c ≤ 65536 ∧ n = r * c := by
 have h := of_decide_eq_true h
 obtain ⟨h1, h2, h3, h4, h5⟩ := h
 refine ⟨R.toNat, C.toNat, by omega, by omega, by omega, by omega, ?_⟩
 have e1 : ((R.toNat : Nat) : Int) = R := by omega
 have e2 : ((C.toNat : Nat) : Int) = C := by omega
 have : (n : Int) = ((R.toNat * C.toNat : Nat) : Int) := by rw [Int.natCast_mul, e1, e2]; exact h5
 exact Int.ofNat.inj this
def BoolOk (w : World) (b : Bool) (e : Ending) (w' : World) : Prop := e = .returned (.bool b) ∧ Below w.heap.size w w'
set_option maxRecDepth 100000 in
set_option maxHeartbeats 1000000 in
theorem right_any (w : World) (R C : Int) (A : Option Addr) (n cap : Nat) : Calls Try.prog 26 #[.agg #[.int .i64 R, .int .i64 C, .slice A n cap]] w (BoolOk w (rightB R C n)) := by
 obtain ⟨mn, hmn⟩ : ∃ x, min R C = x := ⟨_, rfl⟩
 obtain ⟨mx, hmx⟩ : ∃ x, max R C = x := ⟨_, rfl⟩
 have m1 := fun W => run_min2 R C mn hmn W
 have m2 := fun W => run_max2 R C mx hmx W
 have HM := Lib.hid (And.intro hmn hmx)
 clear hmn hmx
 rcases Int.lt_or_le mn 0 with h | h
 ·have d1 : decide (0 ≤ mn) = false := decide_eq_false (by omega)
  have hb : rightB R C n = false := decide_eq_false (by have := HM.out; omega)
  rw [hb]
  clear hb h
  go_enter Try.func26, Try.ntmps26
  go_wp2_with fail
  go_ret
  exact ⟨rfl, nextA (Mem.start w) _⟩
 ·have d1 : decide (0 ≤ mn) = true := decide_eq_true h
  rcases Int.lt_or_le 65536 mx with h' | h'
  ·have d2 : decide (mx ≤ 65536) = false := decide_eq_false (by omega)
   have hb : rightB R C n = false := decide_eq_false (by have := HM.out; omega)
   rw [hb]
   clear hb h h'
   go_enter Try.func26, Try.ntmps26
   go_wp2_with fail
   go_ret
   exact ⟨rfl, nextA (Mem.start w) _⟩
  ·have d2 : decide (mx ≤ 65536) = true := decide_eq_true h'
   obtain ⟨p, hp⟩ : ∃ p, R * C = p := ⟨_, rfl⟩
   have hw : wrap64 p = p := by
    have hR : 0 ≤ R ∧ 0 ≤ C ∧ R ≤ 65536 ∧ C ≤ 65536 := by have := HM.out; omega
    obtain ⟨r, hr⟩ : ∃ r : Nat, R = (r : Int) := ⟨R.toNat, by omega⟩
    obtain ⟨c, hc⟩ : ∃ c : Nat, C = (c : Int) := ⟨C.toNat, by omega⟩
    have h1 : r * c ≤ 65536 * 65536 := Nat.mul_le_mul (by omega) (by omega)
    have h2 : p = ((r * c : Nat) : Int) := by rw [← hp, hr, hc, Int.natCast_mul]
    unfold wrap64; omega
   have hb : rightB R C n = ((n : Int) == p) := by
    unfold rightB
    rw [Bool.eq_iff_iff, decide_eq_true_iff, beq_iff_eq, hp]
    have := HM.out
    constructor
    ·exact fun h => h.2.2.2.2
    ·exact fun e => ⟨by omega, by omega, by omega, by omega, e⟩
   rw [hb]
   have HB := Lib.hid hb
   clear hb h h'
   go_enter Try.func26, Try.ntmps26
   go_wp2_with fail
   go_ret
   exact ⟨rfl, nextA (Mem.start w) _⟩
/-- bytes.Equal. -/
theorem convB {w : World} {B : Option Addr} {l : List UInt8} {M : Nat} (h : Bytes w M B l) (n c : Nat) (hn : n = l.length) : (convert 22 9 (.slice B n c)).run Try.prog w = .ok (.string (str l)) w := by
 subst hn; exact run_str w 22 5 Try.underlying22 Try.underlying5 h c 9 Try.underlying9
theorem str_beq (a b : List UInt8) : ((str a).toList == (str b).toList) = decide (a = b) := by
 rw [str_toList, str_toList, Bool.eq_iff_iff, beq_iff_eq, decide_eq_true_iff]
theorem equal_any (w : World) (A B : Option Addr) (a b : List UInt8) (n c m d M N : Nat) (hn : a.length = n) (hm : b.length = m) (hA : Bytes w M A a) (hB : Bytes w N B b) :
    Calls Try.prog 56 #[.slice A n c, .slice B m d] w fun e w' => e = .returned (.bool (decide (a = b))) ∧ w = w' := by
 have h1 := convB hA n c hn.symm
 have h2 := convB hB m d hm.symm
 have h3 := str_beq a b
 obtain ⟨x, hx⟩ : ∃ x, str a = x := ⟨_, rfl⟩
 obtain ⟨y, hy⟩ : ∃ y, str b = y := ⟨_, rfl⟩
 rw [hx] at h1 h3
 rw [hy] at h2 h3
 have H3 := Lib.hid h3
 clear hx hy hA hB hn hm h3
 go_enter Try.func56, Try.ntmps56
 go_wp2_with fail
 go_ret
 refine ⟨?_, rfl⟩
 rw [← H3.out]; rfl
theorem sameBytes_any (w : World) (A B : Option Addr) (a b : List UInt8) (n c m d M N : Nat) (hn : a.length = n) (hm : b.length = m) (hA : Bytes w M A a) (hB : Bytes w N B b) :
    Calls Try.prog 41 #[.slice A n c, .slice B m d] w fun e w' => e = .returned (.bool (decide (a = b))) ∧ w = w' := by
 have h1 := convB hA n c hn.symm
 have h2 := convB hB m d hm.symm
 have h3 := str_beq a b
 obtain ⟨x, hx⟩ : ∃ x, str a = x := ⟨_, rfl⟩
 obtain ⟨y, hy⟩ : ∃ y, str b = y := ⟨_, rfl⟩
 rw [hx] at h1 h3
 rw [hy] at h2 h3
 have H3 := Lib.hid h3
 clear hx hy hA hB hn hm h3
 go_enter Try.func41, Try.ntmps41
 go_wp2_with fail
 go_ret
 refine ⟨?_, rfl⟩
 rw [← H3.out]; rfl
def sameB (R C R' C' : Int) (a b : List UInt8) : Bool := decide (R = R' ∧ C = C' ∧ a = b)
set_option maxRecDepth 100000 in
set_option maxHeartbeats 1000000 in
theorem same_any (w : World) (R C R' C' : Int) (A B : Option Addr) (a b : List UInt8) (n c m d M N : Nat) (hn : a.length = n) (hm : b.length = m) (hM : M ≤ w.heap.size) (hN : N ≤ w.heap.size) (hA : Bytes w M A a) (hB : Bytes w N B b) :
    Calls Try.prog 24 #[.agg #[.int .i64 R, .int .i64 C, .slice A n c], .agg #[.int .i64 R', .int .i64 C', .slice B m d]] w (BoolOk w (sameB R C R' C' a b)) := by
 obtain ⟨w2, hw2⟩ : ∃ x : World, (w.alloc (.cells #[.int .i64 R, .int .i64 C, .slice A n c] 27)).alloc (.cells #[.int .i64 R', .int .i64 C', .slice B m d] 27) = x := ⟨_, rfl⟩
 have hb : Below w.heap.size w w2 := by rw [← hw2]; exact nextA (nextA (Mem.start w) _) _
 have HW2 := Lib.hid hw2
 have HE := Lib.hid (And.intro hb (equal_any w2 A B a b n c m d M N hn hm (hA.below (hb.mono hM)) (hB.below (hb.mono hN))))
 clear hb hw2 hA hB
 by_cases h1 : R = R'
 ·have d1 : (R == R') = true := by simp [h1]
  by_cases h2 : C = C'
  ·have d2 : (C == C') = true := by simp [h2]
   have hs : sameB R C R' C' a b = decide (a = b) := by unfold sameB; simp [h1, h2]
   rw [hs]
   have HS := Lib.hid hs
   clear hs h1 h2 hn hm
   go_enter Try.func24, Try.ntmps24
   go_wp2_with fail
   rw [HW2.out]
   refine HE.out.2.mono ?_
   rintro e w' ⟨rfl, rfl⟩
   go_wp2_with fail
   go_ret
   exact ⟨rfl, HE.out.1⟩
  ·have d2 : (C == C') = false := by simp [h2]
   have hs : sameB R C R' C' a b = false := by unfold sameB; simp [h2]
   rw [hs]
   clear hs h1 h2 hn hm
   go_enter Try.func24, Try.ntmps24
   go_wp2_with fail
   rw [HW2.out]
   go_ret
   exact ⟨rfl, HE.out.1⟩
 ·have d1 : (R == R') = false := by simp [h1]
  have hs : sameB R C R' C' a b = false := by unfold sameB; simp [h1]
  rw [hs]
  clear hs h1 hn hm
  go_enter Try.func24, Try.ntmps24
  go_wp2_with fail
  rw [HW2.out]
  go_ret
  exact ⟨rfl, HE.out.1⟩
end Go.Proofs.Ythdapoipfnnaeaa.MxW
/- The document's Right, Same, None; plain, copied, same, Small. -/
namespace Go.Proofs.Ythdapoipfnnaeaa.MxW
open Go.RowKit Go.Shelf Mem Gf FdW Mx Rng
set_option linter.unusedVariables false

set_option maxRecDepth 100000 in
set_option maxHeartbeats 1000000 in
theorem rright_any (w : World) (R C : Int) (A : Option Addr) (n cap : Nat) : Calls Try.prog 37 #[.agg #[.int .i64 R, .int .i64 C, .slice A n cap]] w (BoolOk w (rightB R C n)) := by
 by_cases h1 : 0 ≤ R
 ·have d1 : decide (0 ≤ R) = true := decide_eq_true h1
  by_cases h2 : 0 ≤ C
  ·have d2 : decide (0 ≤ C) = true := decide_eq_true h2
   by_cases h3 : R ≤ 65536
   ·have d3 : decide (R ≤ 65536) = true := decide_eq_true h3
    by_cases h4 : C ≤ 65536
    ·have d4 : decide (C ≤ 65536) = true := decide_eq_true h4
     obtain ⟨p, hp⟩ : ∃ p, R * C = p := ⟨_, rfl⟩
     have hw : wrap64 p = p := by
      obtain ⟨r, hr⟩ : ∃ r : Nat, R = (r : Int) := ⟨R.toNat, by omega⟩
      obtain ⟨c, hc⟩ : ∃ c : Nat, C = (c : Int) := ⟨C.toNat, by omega⟩
      have h1 : r * c ≤ 65536 * 65536 := Nat.mul_le_mul (by omega) (by omega)
      have h2 : p = ((r * c : Nat) : Int) := by rw [← hp, hr, hc, Int.natCast_mul]
      unfold wrap64; omega
     have hb : rightB R C n = ((n : Int) == p) := by
      unfold rightB
      rw [Bool.eq_iff_iff, decide_eq_true_iff, beq_iff_eq, hp]
      exact ⟨fun h => h.2.2.2.2, fun e => ⟨h1, h2, h3, h4, e⟩⟩
     rw [hb]
     clear hb h1 h2 h3 h4
     go_enter Try.func37, Try.ntmps37
     go_wp2_with fail
     go_ret
     exact ⟨rfl, nextA (Mem.start w) _⟩
    ·have d4 : decide (C ≤ 65536) = false := decide_eq_false h4
     rw [show rightB R C n = false from decide_eq_false fun h => h4 h.2.2.2.1]
     clear h1 h2 h3 h4
     go_enter Try.func37, Try.ntmps37
     go_wp2_with fail
     go_ret
     exact ⟨rfl, nextA (Mem.start w) _⟩
   ·have d3 : decide (R ≤ 65536) = false := decide_eq_false h3
    rw [show rightB R C n = false from decide_eq_false fun h => h3 h.2.2.1]
    clear h1 h2 h3
    go_enter Try.func37, Try.ntmps37
    go_wp2_with fail
    go_ret
    exact ⟨rfl, nextA (Mem.start w) _⟩
  ·have d2 : decide (0 ≤ C) = false := decide_eq_false h2
   rw [show rightB R C n = false from decide_eq_false fun h => h2 h.2.1]
   clear h1 h2
   go_enter Try.func37, Try.ntmps37
   go_wp2_with fail
   go_ret
   exact ⟨rfl, nextA (Mem.start w) _⟩
 ·have d1 : decide (0 ≤ R) = false := decide_eq_false h1
  rw [show rightB R C n = false from decide_eq_false fun h => h1 h.1]
  clear h1
  go_enter Try.func37, Try.ntmps37
  go_wp2_with fail
  go_ret
  exact ⟨rfl, nextA (Mem.start w) _⟩
set_option maxRecDepth 100000 in
set_option maxHeartbeats 1000000 in
theorem rsame_any (w : World) (R C R' C' : Int) (A B : Option Addr) (a b : List UInt8) (n c m d M N : Nat) (hn : a.length = n) (hm : b.length = m) (hM : M ≤ w.heap.size) (hN : N ≤ w.heap.size) (hA : Bytes w M A a) (hB : Bytes w N B b) :
    Calls Try.prog 25 #[.agg #[.int .i64 R, .int .i64 C, .slice A n c], .agg #[.int .i64 R', .int .i64 C', .slice B m d]] w (BoolOk w (sameB R C R' C' a b)) := by
 obtain ⟨w2, hw2⟩ : ∃ x : World, (w.alloc (.cells #[.int .i64 R, .int .i64 C, .slice A n c] 38)).alloc (.cells #[.int .i64 R', .int .i64 C', .slice B m d] 38) = x := ⟨_, rfl⟩
 have hb : Below w.heap.size w w2 := by rw [← hw2]; exact nextA (nextA (Mem.start w) _) _
 have HW2 := Lib.hid hw2
 have q1 := convB (hA.below (hb.mono hM)) n c hn.symm
 have q2 := convB (hB.below (hb.mono hN)) m d hm.symm
 have q3 := str_beq a b
 rw [← hw2] at q1 q2
 obtain ⟨x, hx⟩ : ∃ x, str a = x := ⟨_, rfl⟩
 obtain ⟨y, hy⟩ : ∃ y, str b = y := ⟨_, rfl⟩
 rw [hx] at q1 q3
 rw [hy] at q2 q3
 have H3 := Lib.hid q3
 have HB := Lib.hid hb
 clear hb hw2 hA hB q3 hx hy
 by_cases h1 : R = R'
 ·have d1 : (R == R') = true := by simp [h1]
  by_cases h2 : C = C'
  ·have d2 : (C == C') = true := by simp [h2]
   have hs : sameB R C R' C' a b = decide (a = b) := by unfold sameB; simp [h1, h2]
   rw [hs]
   clear hs h1 h2 hn hm
   go_enter Try.func25, Try.ntmps25
   go_wp2_with fail
   rw [HW2.out]
   go_ret
   refine ⟨?_, HB.out⟩
   rw [← H3.out]; rfl
  ·have d2 : (C == C') = false := by simp [h2]
   have hs : sameB R C R' C' a b = false := by unfold sameB; simp [h2]
   rw [hs]
   clear hs h1 h2 hn hm q1 q2
   go_enter Try.func25, Try.ntmps25
   go_wp2_with fail
   rw [HW2.out]
   go_ret
   exact ⟨rfl, HB.out⟩
 ·have d1 : (R == R') = false := by simp [h1]
  have hs : sameB R C R' C' a b = false := by unfold sameB; simp [h1]
  rw [hs]
  clear hs h1 hn hm q1 q2
  go_enter Try.func25, Try.ntmps25
  go_wp2_with fail
  rw [HW2.out]
  go_ret
  exact ⟨rfl, HB.out⟩
def PlainOk (w : World) (x0 x1 x2 : Value) (e : Ending) (w' : World) : Prop := e = .returned (.agg #[x0, x1, x2]) ∧ Below w.heap.size w w'
set_option maxRecDepth 100000 in
theorem plain_any (w : World) (R C : Int) (A : Option Addr) (n c : Nat) : Calls Try.prog 20 #[.agg #[.int .i64 R, .int .i64 C, .slice A n c]] w (PlainOk w (.int .i64 R) (.int .i64 C) (.slice A n c)) := by
 go_enter Try.func20, Try.ntmps20
 go_wp2_with fail
 refine bodyPost_ret (v := .agg #[.int .i64 R, .int .i64 C, .slice A n c]) (by simp [results, Try.results20, go_sem]) rfl ⟨rfl, ?_⟩
 exact nextA (nextA (Mem.start w) _) _
/-- What copied leaves. -/
def CopyOk (w : World) (R C : Int) (l : List UInt8) (e : Ending) (w' : World) : Prop := ∃ A c, e = .returned (.agg #[.int .i64 R, .int .i64 C, .slice A l.length c]) ∧ l.length ≤ c ∧ Nw w.heap.size w' A l ∧ Below w.heap.size w w'
theorem rowNw {B : Nat} {w : World} {A : Option Addr} {l : List UInt8} (h : Row w B A (l.map u8v)) : Nw B w A l := ⟨h.cells, fun b o e hl => by
 obtain ⟨g, cur, T, fz, e2, hg, _⟩ := h (by rw [List.length_map]; exact hl)
 rw [e] at e2; injection e2 with e2; have := congrArg Addr.block e2; dsimp only at this; omega⟩
set_option maxRecDepth 100000 in
set_option maxHeartbeats 1000000 in
theorem copied_any (w : World) (R C : Int) (A : Option Addr) (l : List UInt8) (n c : Nat) (hn : l.length = n) (hA : Bytes w w.heap.size A l) : Calls Try.prog 17 #[.agg #[.int .i64 R, .int .i64 C, .slice A n c]] w (CopyOk w R C l) := by
 obtain ⟨g0, hg0⟩ : ∃ x, w.heap.size + 1 = x := ⟨_, rfl⟩
 obtain ⟨w2, hw2⟩ : ∃ x : World, (w.alloc (.cells #[.int .i64 R, .int .i64 C, .slice A n c] 27)).alloc (.cells #[.int .i64 0, .int .i64 0, .slice none 0 0] 27) = x := ⟨_, rfl⟩
 have hb : Below w.heap.size w w2 := by rw [← hw2]; exact nextA (nextA (Mem.start w) _) _
 have hB : Blk w2 g0 27 #[.int .i64 0, .int .i64 0, .slice none 0 0] := by
  have := Blk.new (w.alloc (.cells #[.int .i64 R, .int .i64 C, .slice A n c] 27)) 27 #[.int .i64 0, .int .i64 0, .slice none 0 0]
  rw [World.size_alloc, hg0] at this
  rw [← hw2]; exact this
 have q1 := convB (hA.below hb) n c hn.symm
 rw [← hw2] at q1
 have hle : w.heap.size ≤ g0 := by omega
 have HW2 := Lib.hid hw2
 have HG := Lib.hid hg0
 have HB := Lib.hid (And.intro hb (And.intro hB hle))
 clear hb hw2 hA hB hg0 hle
 go_enter Try.func17, Try.ntmps17
 go_wp2_with ((with_reducible show wpList _ _ _ ((⟨some 10, _, _, _, _, _⟩ : Oper) :: _) _ _); rw [HW2.out, HG.out]; refine wpList_bytesOf _ (by rfl) 9 22 _ rfl 5 Try.underlying9 Try.underlying22 Try.underlying5 l rfl ?_; intro ck w3 hck hr hbl hs; rw [hn]; (have HR := Lib.hid (And.intro hck (And.intro hr hbl))); (obtain ⟨⟨c0, c1, c2⟩, f0, f1, f2⟩ := cells3 (HB.out.2.1.keep hbl)); (have HB3 := Lib.hid (HB.out.2.1.keep hbl)); clear hck hr hbl hs q1)
 have h3 := set3 HB3.out (.int .i64 R) (.int .i64 C) (.slice (some ⟨w2.heap.size, 0, none⟩) n ck)
 obtain ⟨w4, hw4⟩ : ∃ x : World, ((w3.setCell ⟨g0, 0, none⟩ (.int .i64 R)).setCell ⟨g0, 1, none⟩ (.int .i64 C)).setCell ⟨g0, 2, none⟩ (.slice (some ⟨w2.heap.size, 0, none⟩) n ck) = x := ⟨_, rfl⟩
 rw [hw4] at h3 ⊢
 obtain ⟨⟨d0, d1, d2⟩, _⟩ := cells3 h3.1
 refine bodyPost_ret (v := .agg #[.int .i64 R, .int .i64 C, .slice (some ⟨w2.heap.size, 0, none⟩) n ck]) (by simp [results, Try.results17, go_sem, d0, d1, d2]) rfl ?_
 have hs : w.heap.size ≤ w2.heap.size := HB.out.1.size
 have hlt := HB.out.2.1.lt
 have hr : Row w4 w2.heap.size (some ⟨w2.heap.size, 0, none⟩) (l.map u8v) := HR.out.2.1.fr h3.2 (fun g e1 e2 => by injection e1 with e1; have := congrArg Addr.block e1; dsimp only at this; omega)
 have hb3 : Below w.heap.size w w3 := HB.out.1.trans (HR.out.2.2.mono hs)
 exact ⟨some ⟨w2.heap.size, 0, none⟩, ck, by rw [hn], HR.out.1, (rowNw hr).mono hs, hb3.trans (h3.2.below hb3.size fun k e => by rw [e]; exact HB.out.2.2)⟩
/-- Small at bound t. -/
def smallB (t R C : Int) (n : Nat) : Bool := decide (R ≤ t ∧ C ≤ t ∧ (n : Int) ≤ t * t + 9)
set_option maxRecDepth 100000 in
set_option maxHeartbeats 1000000 in
theorem small_any (w : World) (t R C : Int) (ht : 0 ≤ t ∧ t ≤ 100) (A : Option Addr) (n c : Nat) : Calls Try.prog 16 #[.agg #[.int .i64 R, .int .i64 C, .slice A n c], .int .i64 t] w (BoolOk w (smallB t R C n)) := by
 obtain ⟨p, hp⟩ : ∃ p, t * t = p := ⟨_, rfl⟩
 have hp1 : 0 ≤ p ∧ p ≤ 10000 := by
  obtain ⟨k, rfl⟩ : ∃ k : Nat, t = (k : Int) := ⟨t.toNat, by omega⟩
  have h1 : k * k ≤ 100 * 100 := Nat.mul_le_mul (by omega) (by omega)
  have h2 : p = ((k * k : Nat) : Int) := by rw [← hp, Int.natCast_mul]
  omega
 have hw : wrap64 p = p := by unfold wrap64; omega
 have hp2 := hp1.1
 have hp3 := hp1.2
 clear hp1
 by_cases h1 : R ≤ t
 ·have d1 : decide (R ≤ t) = true := decide_eq_true h1
  by_cases h2 : C ≤ t
  ·have d2 : decide (C ≤ t) = true := decide_eq_true h2
   have hb : smallB t R C n = decide ((n : Int) ≤ p + 9) := by
    unfold smallB
    rw [hp, Bool.eq_iff_iff, decide_eq_true_iff, decide_eq_true_iff]
    exact ⟨fun h => h.2.2, fun h => ⟨h1, h2, h⟩⟩
   rw [hb]
   clear hb h1 h2
   go_enter Try.func16, Try.ntmps16
   go_wp2_with fail
   go_ret
   exact ⟨rfl, nextA (Mem.start w) _⟩
  ·have d2 : decide (C ≤ t) = false := decide_eq_false h2
   rw [show smallB t R C n = false from decide_eq_false fun h => h2 h.2.1]
   clear h1 h2
   go_enter Try.func16, Try.ntmps16
   go_wp2_with fail
   go_ret
   exact ⟨rfl, nextA (Mem.start w) _⟩
 ·have d1 : decide (R ≤ t) = false := decide_eq_false h1
  rw [show smallB t R C n = false from decide_eq_false fun h => h1 h.1]
  clear h1
  go_enter Try.func16, Try.ntmps16
  go_wp2_with fail
  go_ret
  exact ⟨rfl, nextA (Mem.start w) _⟩
end Go.Proofs.Ythdapoipfnnaeaa.MxW
/- The document's None; same. -/
namespace Go.Proofs.Ythdapoipfnnaeaa.MxW
open Go.RowKit Go.Shelf Mem Gf FdW Mx Rng
set_option linter.unusedVariables false

set_option maxRecDepth 100000 in
set_option maxHeartbeats 1000000 in
theorem rnone_any (w : World) (r c : Nat) (hr : ((r * c : Nat) : Int) ≤ 1000000000) :
    Calls Try.prog 50 #[.int .i64 (r : Int), .int .i64 (c : Int)] w (NoneOk w r c) := by
 obtain ⟨i0, hi0, hz0, hz1, hz2⟩ := info_parts u8info
 obtain ⟨q, hq⟩ : ∃ q, r * c = q := ⟨_, rfl⟩
 have e1 : (r : Int) * (c : Int) = (q : Int) := by rw [← hq]; simp
 have w1 : wrap64 (q : Int) = (q : Int) := by unfold wrap64; omega
 rw [hq] at hr
 have HQ := Lib.hid hq
 obtain ⟨g0, hg0⟩ : ∃ x, w.heap.size = x := ⟨_, rfl⟩
 obtain ⟨w1, hw1⟩ : ∃ x : World, w.alloc (.cells #[.int .i64 0, .int .i64 0, .slice none 0 0] 38) = x := ⟨_, rfl⟩
 have hb1 : Below w.heap.size w w1 := by rw [← hw1]; exact nextA (Mem.start w) _
 have hB1 : Blk w1 g0 38 #[.int .i64 0, .int .i64 0, .slice none 0 0] := by rw [← hw1, ← hg0]; exact Blk.new w _ _
 obtain ⟨g1, hg1⟩ : ∃ x, w1.heap.size = x := ⟨_, rfl⟩
 have hs1 : g1 = g0 + 1 := by rw [← hg1, ← hw1, World.size_alloc, hg0]
 have ho := own_mk w1 q (.int .u8 0) 5 (by unfold maxLen; omega) (base := g0) (by omega)
 obtain ⟨w2, hw2⟩ : ∃ x : World, w1.alloc (.cells (Array.replicate q (.int .u8 0)) 5) = x := ⟨_, rfl⟩
 have hb2 : Below w1.heap.size w1 w2 := by rw [← hw2]; exact nextA (Mem.start w1) _
 have hB2 := hB1.keep hb2
 rw [hw2, hg1] at ho
 obtain ⟨⟨c0, c1, c2⟩, f0, f1, f2⟩ := cells3 hB2
 obtain ⟨w3, hw3⟩ : ∃ x : World, ((w2.setCell ⟨g0, 0, none⟩ (.int .i64 (r : Int))).setCell ⟨g0, 1, none⟩ (.int .i64 (c : Int))).setCell ⟨g0, 2, none⟩ (.slice (some ⟨g1, 0, none⟩) q q) = x := ⟨_, rfl⟩
 have h3 := set3 hB2 (.int .i64 (r : Int)) (.int .i64 (c : Int)) (.slice (some ⟨g1, 0, none⟩) q q)
 rw [hw3] at h3
 have H3 := Lib.hid h3
 have HW3 := Lib.hid hw3
 clear hw3 h3
 have HO := Lib.hid (And.intro ho (And.intro hs1 (next hb1 hb2)))
 have HG0 := Lib.hid hg0
 have HG1 := Lib.hid hg1
 have HW1 := Lib.hid hw1
 have HW2 := Lib.hid hw2
 clear hq hb1 hB1 hb2 hB2 ho hs1 hg0 hg1 hw1 hw2
 go_enter Try.func50, Try.ntmps50
 go_wp2_with ((with_reducible show wpList _ _ _ ((⟨some 10, _, _, _, _, _⟩ : Oper) :: _) _ _); refine wpList_mk rfl _ _ _ rfl 5 i0 1 (.int .u8 0) Try.underlying22 hi0 hz0 hz1 hz2 rfl _ q rfl rfl rfl (by omega) (by unfold maxLen; omega) q rfl ?_; rw [HW1.out, HW2.out, HG1.out, HG0.out])
 rw [HW3.out]
 obtain ⟨⟨d0, d1, d2⟩, _⟩ := cells3 H3.out.1
 refine bodyPost_ret (v := .agg #[.int .i64 (r : Int), .int .i64 (c : Int), .slice (some ⟨g1, 0, none⟩) q q]) (by simp [results, Try.results50, go_sem, d0, d1, d2]) rfl ?_
 have hz : (flat r c fun _ _ => 0).map u8v = List.replicate q (.int .u8 0) := by rw [flat_zero, HQ.out, List.map_replicate]; rfl
 have h1 := HO.out.2.2
 have hg := HG0.out
 refine ⟨g1, by rw [HQ.out], ?_, h1.trans (H3.out.2.below h1.size fun k e => by rw [e, hg]; exact Nat.le_refl _)⟩
 rw [hz, HQ.out, hg]
 exact HO.out.1.fr H3.out.2 (fun g e1 e2 => by have := HO.out.2.1; injection e1 with e1; have := congrArg Addr.block e1; dsimp only at this; omega)

set_option maxRecDepth 100000 in
set_option maxHeartbeats 2000000 in
theorem lsame_any (w : World) (R C R' C' : Int) (A B : Option Addr) (a b : List UInt8) (n c m d : Nat) (hn : a.length = n) (hm : b.length = m) (hA : Bytes w w.heap.size A a) (hB : Bytes w w.heap.size B b) :
    Calls Try.prog 23 #[.agg #[.int .i64 R, .int .i64 C, .slice A n c], .agg #[.int .i64 R', .int .i64 C', .slice B m d]] w (BoolOk w (sameB R C R' C' a b)) := by
 obtain ⟨g0, hg0⟩ : ∃ x, w.heap.size = x := ⟨_, rfl⟩
 obtain ⟨w2, hw2⟩ : ∃ x : World, (w.alloc (.cells #[.int .i64 R, .int .i64 C, .slice A n c] 27)).alloc (.cells #[.int .i64 R', .int .i64 C', .slice B m d] 38) = x := ⟨_, rfl⟩
 have H2 := Lib.hid (show Below w.heap.size w w2 ∧ Blk w2 g0 27 #[.int .i64 R, .int .i64 C, .slice A n c] ∧ Blk w2 (g0 + 1) 38 #[.int .i64 R', .int .i64 C', .slice B m d] from by
  rw [← hw2, ← hg0]
  refine ⟨nextA (nextA (Mem.start w) _) _, (Blk.new w _ _).alloc _, ?_⟩
  have := Blk.new (w.alloc (.cells #[.int .i64 R, .int .i64 C, .slice A n c] 27)) 38 #[.int .i64 R', .int .i64 C', .slice B m d]
  rw [World.size_alloc] at this; exact this)
 have HN := Lib.hid (And.intro hn hm)
 have HA := Lib.hid hA
 have HB := Lib.hid hB
 have HW2 := Lib.hid hw2
 have HG0 := Lib.hid hg0
 clear hn hm hA hB hw2 hg0
 go_enter Try.func23, Try.ntmps23
 go_wp2_with fail
 rw [HW2.out, HG0.out]
 --HELD same
 refine wp_region_noPanic ?_
 refine wp_heldG (fun w' => Below w2.heap.size w2 w') [] (by kernel_rfl) ?hs0 ?rg0
 case hs0 =>
  exact nextN (Mem.start w2) 1
 case rg0 =>
 intro hHeld
 refine tk 0 rfl (by intro w hSw; (try dsimp only at hSw); obtain ⟨⟨c0, c1, c2⟩, _⟩ := cells3 (H2.out.2.1.keep hSw); go_simp; try with_reducible rfl) ?_
 refine tk 2 rfl (by intro w hSw; (try dsimp only at hSw); obtain ⟨⟨c0, c1, c2⟩, _⟩ := cells3 (H2.out.2.2.keep hSw); go_simp; try with_reducible rfl) ?_
 refine on 1 rfl fun K hK => ?_
 go_simp
 refine (plain_any _ R C A n c).mono ?_
 rintro e w3 ⟨rfl, hb⟩
 have H3 := Lib.hid (next hHeld hb)
 try dsimp only
 refine hK.out _ _ (fun _ => H3.out) fun hHeld => ?_
 clear hK K
 try simp only [pU, pU0, pA, pB, pC]
 have hHeld := hHeld (by kernel_rfl)
 refine on 3 rfl fun K hK => ?_
 go_simp
 have hbb := H2.out.1.trans (H3.out.mono H2.out.1.size)
 refine (rsame_any w3 R C R' C' A B a b n c m d w.heap.size w.heap.size HN.out.1 HN.out.2 hbb.size hbb.size (HA.out.below hbb) (HB.out.below hbb)).mono ?_
 rintro e w4 ⟨rfl, hb⟩
 have H4 := Lib.hid (next hHeld hb)
 try dsimp only
 refine hK.out _ _ (fun _ => H4.out) fun hHeld => ?_
 clear hK K
 try simp only [pU, pU0, pA, pB, pC]
 have hHeld := hHeld (by kernel_rfl)
 refine pu 4 ?_
 refine wpAnyG_done (by kernel_rfl) ?_ _
 refine NoPanic.normal ?_
 --END same
 go_wp2_with fail
 go_ret
 exact ⟨rfl, H2.out.1.trans (H4.out.mono H2.out.1.size)⟩
end Go.Proofs.Ythdapoipfnnaeaa.MxW
/- more: a row, times a number, added to another one. -/
namespace Go.Proofs.Ythdapoipfnnaeaa.MxW
open Go.RowKit Go.Shelf Mem Gf FdW Mx Rng
set_option linter.unusedVariables false

def addRow (m : M) (i : Nat) (f : Nat → UInt8) (t : UInt8) : M := fun i' k => if i' = i then m i k ^^^ mul (f k) t else m i' k
def addUpto (m : M) (i : Nat) (f : Nat → UInt8) (t : UInt8) (j : Nat) : M := fun i' k => if i' = i ∧ k < j then m i k ^^^ mul (f k) t else m i' k
/-- A row that is read while row i of the matrix in block g is written. -/
structure Rd (w : World) (p g i c : Nat) (gr o : Nat) (f : Nat → UInt8) : Prop where
 cell : ∀ k, k < c → w.cell? ⟨gr, o + k, none⟩ = some (.int .u8 ((f k).toNat : Int))
 far : gr ≠ g ∨ ∀ k k', k < c → k' < c → o + k ≠ i * c + k'
 ne : gr ≠ p
 lt : gr < w.heap.size
theorem cell_far {w : World} {p q : Addr} (h : q ≠ p) (v : Value) (x : Value) (hc : w.cell? q = some x) : (w.setCell p v).cell? q = some x := by
 rw [World.cell?_setCell_other w p q v (fun e => h e.symm)]; exact hc
theorem Rd.fr {S : Nat → Prop} {w w' : World} {p g i c gr o : Nat} {f : Nat → UInt8} (h : Rd w p g i c gr o f) (hf : Fr S w w') (hS : ¬ S gr) : Rd w' p g i c gr o f :=
 ⟨fun k hk => (World.cell?_of_block (hf.block gr h.lt hS)).trans (h.cell k hk), h.far, h.ne, Nat.lt_of_lt_of_le h.lt hf.size⟩
def MoreOk (w : World) (p B g cap r c : Nat) (m : M) (e : Ending) (w' : World) : Prop := e = .returned (.tuple #[]) ∧ Wm w' B g cap r c m ∧ Fld w' p ∧ Fr (fun k => k = g ∨ k = p) w w'
set_option maxRecDepth 100000 in
set_option maxHeartbeats 40000000 in
theorem more_any (w : World) (p : Nat) (hp : Fld w p) (B g cap r c : Nat) (m : M) (hw : Wm w B g cap r c m) (i : Nat) (hi : i < r) (hc0 : 0 < c) (hc9 : ((i * c + c : Nat) : Int) ≤ 1000000000) (hpg : p ≠ g) (gr o cr : Nat) (f : Nat → UInt8) (hr : Rd w p g i c gr o f) (t : UInt8) (ct : Nat) :
    Calls Try.prog 48 #[fptr (some p), .slice (some ⟨g, i * c, none⟩) c ct, .slice (some ⟨gr, o, none⟩) c cr, .int .u8 (t.toNat : Int)] w (MoreOk w p B g cap r c (addRow m i f t)) := by
 by_cases ht : t = 0
 ·have hz : ((t.toNat : Int) == 0) = true := by rw [ht]; rfl
  have hw2 : Wm w B g cap r c (addRow m i f t) := hw.congr fun i' _ k _ => by
   unfold addRow
   by_cases e : i' = i
   ·subst e; rw [if_pos rfl, ht, mul_zero, UInt8.xor_zero]
   ·rw [if_neg e]
  clear ht
  go_enter Try.func48, Try.ntmps48
  go_wp2_with fail
  refine bodyPost_ret (results_none rfl _ _ _) rfl ?_
  exact ⟨rfl, hw2, hp, Fr.refl _ _⟩
 ·have hz : ((t.toNat : Int) == 0) = false := u8_zero_no ht
  obtain ⟨q, hq⟩ : ∃ q, i * c = q := ⟨_, rfl⟩
  have HI := Lib.hid (And.intro hi (And.intro hq hpg))
  have HW := Lib.hid hw
  have HF := Lib.hid hp
  have HR := Lib.hid hr
  rw [hq] at hc9 ⊢
  clear hi hw hp hr hq hpg ht
  go_enter Try.func48, Try.ntmps48
  go_wp2_with fail
  go_loopw [14] (fun x wr => ∃ j : Nat, x = .int .i64 (j : Int) ∧ j ≤ c ∧ Wm wr B g cap r c (addUpto m i f t j) ∧ Fld wr p ∧ Rd wr p g i c gr o f ∧ Fr (fun k => k = g ∨ k = p) w wr) (fun x _ => c - (intOf x).toNat)
  case atStart => exact ⟨0, rfl, Nat.zero_le _, HW.out.congr fun i' _ k _ => by unfold addUpto; rw [if_neg (by omega)], HF.out, HR.out, Fr.refl _ _⟩
  case round =>
   obtain ⟨j, rfl, hj, h1, h2, h3, h4⟩ := hrel
   by_cases hjc : j < c
   ·have hji : (j : Int) < (c : Int) := by omega
    have hj0 : (0 : Int) ≤ (j : Int) := by omega
    have hr1 := h3.cell j hjc
    obtain ⟨hx1, hx2⟩ := h1.at_ HI.out.1 hjc
    rw [HI.out.2.1, show addUpto m i f t j i j = m i j from by unfold addUpto; rw [if_neg (by omega)]] at hx1
    rw [HI.out.2.1] at hx2
    have H := Lib.hid (And.intro h1 (And.intro h2 (And.intro h3 (And.intro h4 hjc))))
    obtain ⟨x, hx⟩ : ∃ x, m i j = x := ⟨_, rfl⟩
    obtain ⟨y, hy⟩ : ∃ y, f j = y := ⟨_, rfl⟩
    rw [hx] at hx1
    rw [hy] at hr1
    have HXY := Lib.hid (And.intro hx hy)
    clear h1 h2 h3 h4 hj hjc hx hy
    go_wp2_with fail
    --HELD more
    refine wp_region_noPanic ?_
    refine wp_heldG (fun w' => w'.cell? ⟨g, q + j, none⟩ = some (.int .u8 (x.toNat : Int))) [12] (by kernel_rfl) ?hs0 ?rg0
    case hs0 =>
     exact hx1
    case rg0 =>
    intro hHeld
    refine pu 0 ?_
    refine pu 1 ?_
    refine pu 2 ?_
    refine pu 3 ?_
    refine pu 4 ?_
    refine tk 5 rfl (by intro w hSw; (try dsimp only at hSw); go_simp; try with_reducible rfl) ?_
    refine pu 6 ?_
    refine pu 7 ?_
    refine pu 8 ?_
    refine on 9 rfl fun K hK => ?_
    go_simp
    refine (mul_any _ (some p) (FldR.some (H.out.2.1.keep (nextN (Mem.start wr) 1))) _ _ y t rfl rfl).mono ?_
    rintro e w1 ⟨rfl, hF1, hf1⟩
    have hf2 : Fr (fun k => k = p) wr w1 := (Fr.quiet (nextN (Mem.start wr) 1)).trans hf1 (fun _ _ h => by injection h with h; exact h.symm)
    have H1 := Lib.hid (And.intro (hF1 p rfl) (And.intro hf2 (H.out.1.fr hf2 (fun e => HI.out.2.2 e.symm))))
    clear hF1 hf1 hf2
    try dsimp only
    refine hK.out _ _ (fun _ => cellFr H1.out.2.1 hx1 (fun e => HI.out.2.2 e.symm)) fun hHeld => ?_
    clear hK K
    try simp only [pU, pU0, pA, pB, pC]
    have hHeld := hHeld (by kernel_rfl)
    refine on 10 rfl fun K hK => ?_
    go_simp
    refine (add_any _ _ x (mul y t) rfl rfl _).mono ?_
    rintro e w' ⟨rfl, rfl⟩
    try dsimp only
    refine hK.out _ _ (fun _ => hHeld) fun hHeld => ?_
    clear hK K
    try simp only [pU, pU0, pA, pB, pC]
    have hHeld := hHeld (by kernel_rfl)
    refine pu 11 ?_
    refine on 12 rfl fun K hK => ?_
    obtain ⟨k1, k2⟩ := H1.out.2.2.at_ HI.out.1 H.out.2.2.2.2
    rw [HI.out.2.1] at k1 k2
    go_simp
    try dsimp only
    refine hK.out _ _ ?_ (fun hHeld => ?_)
    ·exact fun h => (st_no (by kernel_rfl) h).elim
    clear hK K
    try simp only [pU, pU0, pA, pB, pC]
    clear hHeld
    refine wpAnyG_done (by kernel_rfl) ?_ _
    refine NoPanic.normal ?_
    --END more
    go_wp2_with fail
    go_roundw
    case rel =>
     have hs := H1.out.2.2.set HI.out.1 H.out.2.2.2.2 (x ^^^ mul y t)
     rw [HI.out.2.1, UInt8.toNat_xor] at hs
     have hf := setF (p := g) w1 ⟨g, q + j, none⟩ rfl (.int .u8 ((x.toNat ^^^ (mul y t).toNat : Nat) : Int))
     refine ⟨j + 1, by simp, H.out.2.2.2.2, hs.congr fun i' hi' k hk => ?_, H1.out.1.fr hf HI.out.2.2, ?_, ?_⟩
     ·unfold upd addUpto
      by_cases e : i' = i
      ·subst e
       by_cases e2 : k = j
       ·subst e2
        rw [if_pos ⟨rfl, rfl⟩, if_pos ⟨rfl, by omega⟩, HXY.out.1, HXY.out.2]
       ·rw [if_neg (fun h => e2 h.2)]
        by_cases e3 : k < j
        ·rw [if_pos ⟨rfl, e3⟩, if_pos ⟨rfl, by omega⟩]
        ·rw [if_neg (by omega), if_neg (by omega)]
      ·rw [if_neg (fun h => e h.1), if_neg (fun h => e h.1), if_neg (fun h => e h.1)]
     ·have h3 := H.out.2.2.1.fr H1.out.2.1 H.out.2.2.1.ne
      refine ⟨fun k hk => cell_far ?_ _ _ (h3.cell k hk), h3.far, h3.ne, Nat.lt_of_lt_of_le h3.lt hf.size⟩
      intro e
      injection e with e1 e2
      rcases h3.far with h | h
      ·exact h e1
      ·exact h k j hk H.out.2.2.2.2 (by rw [HI.out.2.1]; exact e2)
     ·exact (H.out.2.2.2.1.trans (H1.out.2.1.mono (S' := fun k => k = g ∨ k = p) fun k _ e => .inr e) fun _ _ h => h).trans (hf.mono (S' := fun k => k = g ∨ k = p) fun k _ e => .inl e) fun _ _ h => h
    case measure => simp [intOf]; omega
   ·obtain rfl : j = c := by omega
    have H := Lib.hid (And.intro h1 (And.intro h2 h4))
    clear h1 h2 h3 h4 hj
    go_wp2_with fail
    go_end0
    refine ⟨rfl, H.out.1.congr fun i' hi' k hk => ?_, H.out.2.1, H.out.2.2⟩
    unfold addUpto addRow
    by_cases e : i' = i
    ·subst e; rw [if_pos ⟨rfl, hk⟩, if_pos rfl]
    ·rw [if_neg (fun h => e h.1), if_neg e]
theorem more_nil (w : World) (F : Value) (X Y : Option Addr) (cx cy : Nat) (t : UInt8) : Calls Try.prog 48 #[F, .slice X 0 cx, .slice Y 0 cy, .int .u8 (t.toNat : Int)] w fun e w' => e = .returned (.tuple #[]) ∧ w = w' := by
 by_cases ht : t = 0
 ·have hz : ((t.toNat : Int) == 0) = true := by rw [ht]; rfl
  clear ht
  go_enter Try.func48, Try.ntmps48
  go_wp2_with fail
  refine bodyPost_ret (results_none rfl _ _ _) rfl ?_
  exact ⟨rfl, rfl⟩
 ·have hz : ((t.toNat : Int) == 0) = false := u8_zero_no ht
  clear ht
  go_enter Try.func48, Try.ntmps48
  go_wp2_with fail
  go_loopw [14] (fun x wr => x = .int .i64 0 ∧ wr = w) (fun x _ => 0)
  case atStart => exact ⟨rfl, rfl⟩
  case round =>
   obtain ⟨rfl, rfl⟩ := hrel
   go_wp2_with fail
   go_end0
   exact ⟨rfl, rfl⟩
/-- .. onto row i of a matrix, whatever its width. -/
theorem more_row (w : World) (p : Nat) (hp : Fld w p) (B g cap r c : Nat) (m : M) (hw : Wm w B g cap r c m) (i : Nat) (hi : i < r) (hc9 : ((r * c : Nat) : Int) ≤ 1000000000) (hpg : p ≠ g) (Y : Option Addr) (cy : Nat) (f : Nat → UInt8) (hr : 0 < c → ∃ gr o, Y = some ⟨gr, o, none⟩ ∧ Rd w p g i c gr o f) (t : UInt8) (ct : Nat) :
    Calls Try.prog 48 #[fptr (some p), .slice (rowA (some ⟨g, 0, none⟩) c i) c ct, .slice Y c cy, .int .u8 (t.toNat : Int)] w (MoreOk w p B g cap r c (addRow m i f t)) := by
 by_cases hc : c = 0
 ·subst hc
  refine (more_nil w _ _ _ _ _ t).mono ?_
  rintro e w' ⟨rfl, rfl⟩
  exact ⟨rfl, hw.congr fun _ _ k hk => absurd hk (by omega), hp, Fr.refl _ _⟩
 ·obtain ⟨gr, o, rfl, hR⟩ := hr (by omega)
  rw [rowA_some (by omega), Nat.zero_add]
  have := idx_le (c := c) hi
  exact more_any w p hp B g cap r c m hw i hi (by omega) (by omega) hpg gr o cy f hR t ct
end Go.Proofs.Ythdapoipfnnaeaa.MxW
/- Turned. -/
namespace Go.Proofs.Ythdapoipfnnaeaa.MxW
open Go.RowKit Go.Shelf Mem Gf FdW Mx Rng
set_option linter.unusedVariables false
attribute [local go_sem] Oper.semAt_some wide_fn

/-- A new matrix, and OK. -/
def NewT (w : World) (r c : Nat) (m : M) (e : Ending) (w' : World) : Prop := ∃ A cap, e = .returned (.tuple #[.agg #[.int .i64 (r : Int), .int .i64 (c : Int), .slice A (r * c) cap], .int .i64 0]) ∧ r * c ≤ cap ∧ Nw w.heap.size w' A (flat r c m) ∧ Below w.heap.size w w'
def ErrM (w : World) (code : Int) (e : Ending) (w' : World) : Prop := e = .returned (.tuple #[.agg #[.int .i64 0, .int .i64 0, .slice none 0 0], .int .i64 code]) ∧ Below w.heap.size w w'
def zmx : Array Value := #[.int .i64 0, .int .i64 0, .slice none 0 0]
/-- A row of bytes in memory. -/
theorem row_at {w : World} {B r c i : Nat} {A : Option Addr} {m : M} (h : Bytes w B A (flat r c m)) (hi : i < r) (hc : 0 < c) :
    ∃ ab off, rowA A c i = some ⟨ab, off, none⟩ ∧ ab < B ∧ (∃ o, A = some ⟨ab, o, none⟩ ∧ off = o + i * c) ∧ ∀ k, k < c → w.cell? ⟨ab, off + k, none⟩ = some (.int .u8 ((m i k).toNat : Int)) := by
 have hl : 0 < (flat r c m).length := by rw [flat_len]; have := idx_lt (c := c) hi hc; omega
 obtain ⟨ab, o, e, hb, hcs⟩ := h (by rw [List.length_map]; exact hl)
 refine ⟨ab, o + i * c, by rw [e, rowA_some hc], hb, ⟨o, e, rfl⟩, fun k hk => ?_⟩
 have := hcs (i * c + k) (u8v (m i k)) (by rw [List.getElem?_map, flat_get hi hk]; rfl)
 rw [Nat.add_assoc]; exact this
def trM (m : M) (i j : Nat) : M := fun a b => if b < i ∨ (b = i ∧ a < j) then m b a else 0
/-- While a matrix is turned about. -/
structure TurnI (w : World) (g0 g4 B g r c : Nat) (m : M) (i j : Nat) (W : World) : Prop where
 below : Below w.heap.size w W
 res : Blk W g0 27 zmx
 var : Blk W g4 27 (mcells c r (some ⟨g, 0, none⟩) (c * r) (c * r))
 row : Wm W B g (c * r) c r (trM m i j)
theorem TurnI.fr {w : World} {g0 g4 B g r c : Nat} {m : M} {i j : Nat} {W W' : World} (h : TurnI w g0 g4 B g r c m i j W) {S : Nat → Prop} (hf : Fr S W W') (h0 : ∀ k, S k → w.heap.size ≤ k) (h1 : ¬ S g0) (h2 : ¬ S g4) (h3 : ¬ S g) : TurnI w g0 g4 B g r c m i j W' :=
 ⟨h.below.trans (hf.below h.below.size h0), h.res.fr hf h1, h.var.fr hf h2, h.row.fr hf h3⟩
theorem TurnI.keep {w : World} {g0 g4 B g r c : Nat} {m : M} {i j : Nat} {W W' : World} (h : TurnI w g0 g4 B g r c m i j W) (hb : Below W.heap.size W W') : TurnI w g0 g4 B g r c m i j W' :=
 h.fr (Fr.quiet (S := fun _ => False) hb) (fun _ h => h.elim) (fun h => h) (fun h => h) (fun h => h)
theorem TurnI.congr {w : World} {g0 g4 B g r c : Nat} {m : M} {i j i' j' : Nat} {W : World} (h : TurnI w g0 g4 B g r c m i j W) (e : ∀ a, a < c → ∀ b, b < r → trM m i j a b = trM m i' j' a b) : TurnI w g0 g4 B g r c m i' j' W := ⟨h.below, h.res, h.var, h.row.congr e⟩
set_option maxRecDepth 100000 in
set_option maxHeartbeats 40000000 in
theorem turned_ok (w : World) (r c : Nat) (A : Option Addr) (n cap : Nat) (m : M) (hn : n = r * c) (hrt : rightB r c n = true) (hcap : n ≤ cap) (hn9 : (n : Int) ≤ 1000000000) (hA : Bytes w w.heap.size A (flat r c m)) :
    Calls Try.prog 34 #[.agg #[.int .i64 (r : Int), .int .i64 (c : Int), .slice A n cap]] w (NewT w c r fun a b => m b a) := by
 have hrc : (r : Int) ≤ 1000000 ∧ (c : Int) ≤ 1000000 := by have h := of_decide_eq_true hrt; omega
 have hq : ((c * r : Nat) : Int) ≤ 1000000000 := by rw [Nat.mul_comm]; omega
 refine of_wide ?_
 refine callsIn_of_wp_marks Try.func34 rfl trivial ?_ rfl
 refine wpIn_wide.2 ?_
 simp only [Try.ntmps34, List.size_toArray, List.length_cons, List.length_nil, Nat.reduceAdd, Nat.reduceSub, Array.replicate_succ, Array.replicate_zero, List.push_toArray, List.append_toArray, List.nil_append, List.cons_append]
 obtain ⟨wa, ga, ha, hwa, hga⟩ := boxed w (mcells r c A n cap)
 obtain ⟨w1, g0, h1, hw1, hg0⟩ := boxed wa zmx
 have HWA := Lib.hid (show w.alloc (.cells #[.int .i64 (r : Int), .int .i64 (c : Int), .slice A n cap] 27) = wa from hwa)
 have HW1 := Lib.hid (show wa.alloc (.cells #[.int .i64 0, .int .i64 0, .slice none 0 0] 27) = w1 from hw1)
 have H1 := Lib.hid (show Below w.heap.size w w1 ∧ Blk w1 ga 27 (mcells r c A n cap) ∧ Blk w1 g0 27 zmx ∧ w.heap.size = ga ∧ g0 = ga + 1 ∧ w1.heap.size = ga + 2 from
  ⟨next ha.1 h1.1, ha.2.1.keep h1.1, h1.2.1, hga, by have := ha.2.2; omega, by have := ha.2.2; have := h1.2.2; omega⟩)
 have HG := Lib.hid (And.intro hga hg0)
 have HL := Lib.hid (And.intro hn (And.intro hcap (And.intro hn9 (And.intro hrc.1 (And.intro hrc.2 hq)))))
 have HA := Lib.hid hA
 have HRT := Lib.hid hrt
 clear ha hwa hga h1 hw1 hg0 hn hcap hn9 hrc hA hrt hq
 go_wp2_with fail
 rw [HWA.out, HW1.out, HG.out.1, show ga + 1 = g0 from H1.out.2.2.2.2.1.symm]
 refine (right_any w1 _ _ A n cap).mono ?_
 rintro e w2 ⟨rfl, hb⟩
 rw [HRT.out]
 have H2 := Lib.hid (And.intro (next H1.out.1 hb) (And.intro (H1.out.2.1.keep hb) (And.intro (H1.out.2.2.1.keep hb) hb.size)))
 obtain ⟨⟨c0, c1, c2⟩, _⟩ := cells3 H2.out.2.1
 clear hb
 go_wp2_with fail
 refine (none_any w2 c r HL.out.2.2.2.2.2).mono ?_
 rintro e w3 ⟨g, rfl, ho, hb⟩
 have H3 := Lib.hid (And.intro (next H2.out.1 hb) (And.intro (H2.out.2.1.keep hb) (And.intro (H2.out.2.2.1.keep hb) (show Wm w3 w2.heap.size g (c * r) c r (fun _ _ => 0) from ho))))
 obtain ⟨w4, g4, h4, hw4, hg4⟩ := boxed w3 (mcells c r (some ⟨g, 0, none⟩) (c * r) (c * r))
 have HW4 := Lib.hid (show w3.alloc (.cells #[.int .i64 (c : Int), .int .i64 (r : Int), .slice (some ⟨g, 0, none⟩) (c * r) (c * r)] 27) = w4 from hw4)
 obtain ⟨⟨d0, d1, d2⟩, _⟩ := cells3 (H3.out.2.1.keep h4.1)
 rw [← HW4.out] at d0 d1 d2
 have H4 := Lib.hid h4
 have HG4 := Lib.hid hg4
 clear ho hb h4 hw4 hg4 c0 c1 c2
 go_wp2_with fail
 rw [HW4.out, HG4.out]
 refine (rows_any w4 _ _ _).mono ?_
 rintro e w5' ⟨rfl, rfl⟩
 obtain ⟨w5, bm, h5, hw5, hbm⟩ := boxed w4 (mcells r c A n cap)
 have HW5 := Lib.hid (show w4.alloc (.cells #[.int .i64 (r : Int), .int .i64 (c : Int), .slice A n cap] 27) = w5 from hw5)
 rw [HW5.out, hbm]
 have hap : w.heap.size = ga ∧ g0 = ga + 1 ∧ ga + 2 ≤ w2.heap.size ∧ w2.heap.size ≤ g ∧ g < g4 ∧ bm = g4 + 1 ∧ w5.heap.size = bm + 1 := by
  have k1 := H1.out.2.2.2; have k2 := H2.out.2.2.2; have k3 := H3.out.2.2.2.form; have k4 := HG4.out; have k5 := H4.out.2.2; have k6 := h5.2.2
  omega
 have HAP := Lib.hid hap
 have HI0 := Lib.hid (show TurnI w g0 g4 w2.heap.size g r c m 0 0 w5 from ⟨next (next H3.out.1 H4.out.1) h5.1, (H3.out.2.2.1.keep H4.out.1).keep h5.1, H4.out.2.1.keep h5.1, ((H3.out.2.2.2.keep H4.out.1).keep h5.1).congr fun a _ b _ => by unfold trM; rw [if_neg (by omega)]⟩)
 have H5 := Lib.hid h5
 clear hw5 h5 hap d0 d1 d2 hbm
 go_wp2_with fail
 refine (wpIn_wide (n := 5)).1 ?_
 refine wpIn_rows bm r c A n cap rfl H5.out.2.1 HL.out.2.2.2.1 HL.out.1 HL.out.2.2.1 HL.out.2.1 (fun k => k = g) (by have := HAP.out; omega)
  (fun i W => TurnI w g0 g4 w2.heap.size g r c m i 0 W) ?hI HI0.out ?hround ?hdone
 case hI =>
  intro i W W' h hf
  have hap := HAP.out
  exact h.fr hf (fun k e => by omega) (by omega) (by omega) (by omega)
 case hround =>
  intro l i W hi hlt
  have HLT := Lib.hid hlt
  obtain ⟨X, hX⟩ : ∃ X, rowA A c i = X := ⟨_, rfl⟩
  rw [hX]
  have HX := Lib.hid hX
  clear hlt hi hX
  gi_wp2
  refine ⟨trivial, fun W2 hi2 => ?_⟩
  have H := Lib.hid hi2
  clear hi2
  gi_wp2
  gi_loopw [24] (fun x wr => ∃ j : Nat, x = .int .i64 (j : Int) ∧ j ≤ c ∧ TurnI w g0 g4 w2.heap.size g r c m i j wr ∧ Fr (fun k => k = g) W2 wr) (fun x _ => c - (intOf x).toNat)
  case atStart => exact ⟨0, rfl, Nat.zero_le _, H.out, Fr.refl _ _⟩
  case round =>
   obtain ⟨j, rfl, hj, h1, h2⟩ := hrel
   by_cases hjc : j < c
   ·obtain ⟨ab, off, hx, hab, _, hcs⟩ := row_at (HA.out.below h1.below) HLT.out (show 0 < c by omega)
    rw [HX.out] at hx
    subst hx
    have hji : (j : Int) < (c : Int) := by omega
    have hj0 : (0 : Int) ≤ (j : Int) := by omega
    have hj9 : (j : Int) ≤ 1000000 := by have := HL.out.2.2.2.2.1; omega
    have hr1 := hcs j hjc
    obtain ⟨⟨d0, d1, d2⟩, _⟩ := cells3 h1.var
    have HJ := Lib.hid (And.intro h1 (And.intro h2 hjc))
    obtain ⟨x, hx⟩ : ∃ x, m i j = x := ⟨_, rfl⟩
    rw [hx] at hr1
    have HXV := Lib.hid hx
    clear h1 h2 hj hjc hcs hx hab
    gi_wp2
    refine (wideR (row_any wr c r j (some ⟨g, 0, none⟩) (c * r) (c * r) HJ.out.2.2 HL.out.2.2.2.2.1 rfl HL.out.2.2.2.2.2 (Nat.le_refl _))).mono ?_
    rintro e w6 ⟨rfl, hb⟩
    rw [show rowA (some ⟨g, 0, none⟩) r j = some ⟨g, j * r, none⟩ from by rw [rowA_some (by have := HLT.out; omega), Nat.zero_add]]
    have h6 := HJ.out.1.keep hb
    obtain ⟨k1, k2⟩ := h6.row.at_ HJ.out.2.2 HLT.out
    obtain ⟨q, hq⟩ : ∃ q, j * r = q := ⟨_, rfl⟩
    rw [hq] at k1 k2 ⊢
    have hir : (i : Int) < (r : Int) := by have := HLT.out; omega
    have hi0 : (0 : Int) ≤ (i : Int) := by omega
    have H6 := Lib.hid (And.intro h6 (And.intro (HJ.out.2.1.trans (Fr.quiet (S := fun k => k = g) hb) fun _ _ h => h) hq))
    clear hb h6 hq d0 d1 d2
    gi_wp2
    go_roundw
    case rel =>
     have hs := H6.out.1.row.set HJ.out.2.2 HLT.out x
     rw [H6.out.2.2] at hs
     have hf := setF (p := g) w6 ⟨g, q + i, none⟩ rfl (.int .u8 (x.toNat : Int))
     have hap := HAP.out
     refine ⟨j + 1, by simp, HJ.out.2.2, ⟨H6.out.1.below.trans (hf.below H6.out.1.below.size fun k e => by rw [e]; omega), H6.out.1.res.fr hf (by omega), H6.out.1.var.fr hf (by omega), hs.congr fun a ha b hb => ?_⟩, H6.out.2.1.trans hf fun _ _ h => h⟩
     have hx := HXV.out
     unfold upd trM
     by_cases e : a = j ∧ b = i
     ·obtain ⟨rfl, rfl⟩ := e
      rw [if_pos ⟨rfl, rfl⟩, if_pos (.inr ⟨rfl, by omega⟩), hx]
     ·rw [if_neg e]
      by_cases e2 : b < i ∨ b = i ∧ a < j
      ·rw [if_pos e2, if_pos (by omega)]
      ·rw [if_neg e2, if_neg (by omega)]
    case measure => simp [intOf]; omega
   ·obtain rfl : j = c := by omega
    have HJ := Lib.hid (And.intro h1 h2)
    clear h1 h2 hj
    gi_wp2
    have hap := HAP.out
    exact ⟨HJ.out.2, HJ.out.1.congr fun a ha b _ => by
     unfold trM
     by_cases e : b < i ∨ b = i ∧ a < j
     ·rw [if_pos e, if_pos (by omega)]
     ·rw [if_neg e, if_neg (by omega)]⟩
 case hdone =>
  intro D W hD hi hK
  have H := Lib.hid hi
  have HK := Lib.hid (And.intro hD hK)
  obtain ⟨⟨c0, c1, c2⟩, _⟩ := cells3 hi.var
  obtain ⟨⟨d0, d1, d2⟩, f0, f1, f2⟩ := cells3 hi.res
  obtain ⟨W3, hW3⟩ : ∃ x : World, ((W.setCell ⟨g0, 0, none⟩ (.int .i64 (c : Int))).setCell ⟨g0, 1, none⟩ (.int .i64 (r : Int))).setCell ⟨g0, 2, none⟩ (.slice (some ⟨g, 0, none⟩) (c * r) (c * r)) = x := ⟨_, rfl⟩
  have h3 := set3 hi.res (.int .i64 (c : Int)) (.int .i64 (r : Int)) (.slice (some ⟨g, 0, none⟩) (c * r) (c * r))
  rw [hW3] at h3
  have HW3 := Lib.hid hW3
  have HR := Lib.hid h3
  clear hi hK hD h3 hW3
  go_wp2_with fail
  rw [HW3.out]
  have hap := HAP.out
  have hd := HK.out.1
  have hKD : W3.heap[D]? = some (.deferred (some [])) := by
   have h1 := (Array.getElem?_eq_some_iff.1 HK.out.2).1
   rw [HR.out.2.block D h1 (by omega)]; exact HK.out.2
  have hst := shut_still (B := 0) (.deferred none) hKD rfl (Nat.zero_le _)
  obtain ⟨⟨e0, e1, e2⟩, _⟩ := cells3 (hst.blk HR.out.1)
  refine ⟨by simp, .inl ⟨_, _, rfl, run_takeDeferred hKD, ?_⟩⟩
  refine ⟨.tuple #[.agg #[.int .i64 (c : Int), .int .i64 (r : Int), .slice (some ⟨g, 0, none⟩) (c * r) (c * r)], .int .i64 0], ?_, ?_⟩
  ·simp [results, Try.results34, go_sem, e0, e1, e2]
  ·have hb : Below w.heap.size w W3 := H.out.below.trans (HR.out.2.below H.out.below.size fun k e => by rw [e]; omega)
   have hw := (H.out.row.fr HR.out.2 (by omega)).congr (m' := fun a b => m b a) fun a _ b hb => by unfold trM; rw [if_pos (.inl hb)]
   refine ⟨some ⟨g, 0, none⟩, c * r, rfl, Nat.le_refl _, ?_, ?_⟩
   ·exact Nw.of_own (Own.down (Own.fr hw (put_fr (k := D) _) (fun g' e1 e2 => by injection e1 with e1; have := congrArg Addr.block e1; dsimp only at this; omega)) (by omega))
   ·exact hb.trans ((put_fr (k := D) _).below hb.size fun k e => by rw [e]; omega)
set_option maxRecDepth 100000 in
set_option maxHeartbeats 2000000 in
theorem turned_bad (w : World) (R C : Int) (A : Option Addr) (n cap : Nat) (hrt : rightB R C n = false) : Calls Try.prog 34 #[.agg #[.int .i64 R, .int .i64 C, .slice A n cap]] w (ErrM w 50) := by
 refine of_wide ?_
 refine callsIn_of_wp_marks Try.func34 rfl trivial ?_ rfl
 refine wpIn_wide.2 ?_
 simp only [Try.ntmps34, List.size_toArray, List.length_cons, List.length_nil, Nat.reduceAdd, Nat.reduceSub, Array.replicate_succ, Array.replicate_zero, List.push_toArray, List.append_toArray, List.nil_append, List.cons_append]
 obtain ⟨wa, ga, ha, hwa, hga⟩ := boxed w #[.int .i64 R, .int .i64 C, .slice A n cap]
 obtain ⟨w1, g0, h1, hw1, hg0⟩ := boxed wa zmx
 have HWA := Lib.hid hwa
 have HW1 := Lib.hid (show wa.alloc (.cells #[.int .i64 0, .int .i64 0, .slice none 0 0] 27) = w1 from hw1)
 have hg1 : g0 = ga + 1 := by have := ha.2.2; omega
 have H1 := Lib.hid (show Below w.heap.size w w1 ∧ Blk w1 g0 27 zmx ∧ w.heap.size ≤ g0 from ⟨next ha.1 h1.1, h1.2.1, by omega⟩)
 have HG := Lib.hid (And.intro hga hg1.symm)
 have HRT := Lib.hid hrt
 clear ha hwa hga h1 hw1 hg0 hrt hg1
 go_wp2_with fail
 rw [HWA.out, HW1.out, HG.out.1, HG.out.2]
 refine (right_any w1 _ _ A n cap).mono ?_
 rintro e w2 ⟨rfl, hb⟩
 rw [HRT.out]
 have H2 := Lib.hid (And.intro (next H1.out.1 hb) (H1.out.2.1.keep hb))
 obtain ⟨⟨d0, d1, d2⟩, f0, f1, f2⟩ := cells3 H2.out.2
 clear hb
 go_wp2_with fail
 have h3 := set3 H2.out.2 (.int .i64 0) (.int .i64 0) (.slice none 0 0)
 obtain ⟨w3, hw3⟩ : ∃ x : World, ((w2.setCell ⟨g0, 0, none⟩ (.int .i64 0)).setCell ⟨g0, 1, none⟩ (.int .i64 0)).setCell ⟨g0, 2, none⟩ (.slice none 0 0) = x := ⟨_, rfl⟩
 rw [hw3] at h3 ⊢
 obtain ⟨⟨e0, e1, e2⟩, _⟩ := cells3 h3.1
 refine ⟨.tuple #[.agg #[.int .i64 0, .int .i64 0, .slice none 0 0], .int .i64 50], ?_, rfl, ?_⟩
 ·simp [results, Try.results34, go_sem, e0, e1, e2]
 ·exact H2.out.1.trans (h3.2.below H2.out.1.size fun k e => by rw [e]; exact H1.out.2.2)
end Go.Proofs.Ythdapoipfnnaeaa.MxW
/- Sums of products over the field. -/
namespace Go.Proofs.Ythdapoipfnnaeaa.Mx
open Gf
set_option linter.unusedVariables false

/-- The sum of f 0 to f (n - 1). -/
def xsum : Nat → (Nat → UInt8) → UInt8
 | 0, _ => 0
 | n + 1, f => xsum n f ^^^ f n
/-- The product of matrices, the first one of c columns. -/
def mulM (c : Nat) (a b : M) : M := fun i k => xsum c fun j => mul (a i j) (b j k)
theorem xsum_congr {n : Nat} {f g : Nat → UInt8} (h : ∀ j, j < n → f j = g j) : xsum n f = xsum n g := by
 induction n with
 | zero => rfl
 | succ n ih => unfold xsum; rw [ih fun j hj => h j (by omega), h n (by omega)]
theorem mulM_congr {c : Nat} {a a' b b' : M} {i k : Nat} (ha : ∀ j, j < c → a i j = a' i j) (hb : ∀ j, j < c → b j k = b' j k) : mulM c a b i k = mulM c a' b' i k :=
 xsum_congr fun j hj => by rw [ha j hj, hb j hj]
/-- While it is reckoned: rows ahead of i whole, row i with j of its summands. -/
def mulUp (c : Nat) (a b : M) (i j : Nat) : M := fun x k => if x < i then mulM c a b x k else if x = i then xsum j (fun j => mul (a i j) (b j k)) else 0
theorem mulUp_start (c : Nat) (a b : M) (x k : Nat) : mulUp c a b 0 0 x k = 0 := by
 unfold mulUp
 rw [if_neg (by omega)]
 split <;> rfl
theorem mulUp_next (c : Nat) (a b : M) (i x k : Nat) : mulUp c a b i c x k = mulUp c a b (i + 1) 0 x k := by
 unfold mulUp
 by_cases h : x < i
 ·rw [if_pos h, if_pos (by omega)]
 ·by_cases h2 : x = i
  ·subst h2; rw [if_neg h, if_pos rfl, if_pos (by omega)]; rfl
  ·rw [if_neg h, if_neg h2, if_neg (by omega)]
   split <;> rfl
theorem mulUp_done (c : Nat) (a b : M) {r x : Nat} (h : x < r) (k : Nat) : mulUp c a b r 0 x k = mulM c a b x k := by unfold mulUp; rw [if_pos h]
end Go.Proofs.Ythdapoipfnnaeaa.Mx
/- Mul. -/
namespace Go.Proofs.Ythdapoipfnnaeaa.MxW
open Go.RowKit Go.Shelf Mem Gf FdW Mx Rng
open PlW (In)
set_option linter.unusedVariables false
attribute [local go_sem] Oper.semAt_some wide_fn

theorem boxedT (w : World) (cs : Array Value) (T : TypeId) : ∃ w' g, (Below w.heap.size w w' ∧ Blk w' g T cs ∧ w'.heap.size = g + 1) ∧ w.alloc (.cells cs T) = w' ∧ w.heap.size = g :=
 ⟨_, _, ⟨nextA (Mem.start w) _, Blk.new w _ _, World.size_alloc _ _⟩, rfl, rfl⟩
/-- A new matrix, and OK; the field may have been made. -/
def NewF (w : World) (p r c : Nat) (m : M) (e : Ending) (w' : World) : Prop := ∃ A cap, e = .returned (.tuple #[.agg #[.int .i64 (r : Int), .int .i64 (c : Int), .slice A (r * c) cap], .int .i64 0]) ∧ r * c ≤ cap ∧ Nw w.heap.size w' A (flat r c m) ∧ Fld w' p ∧ Fr (fun k => k = p) w w'
def fcellv (p : Nat) : Array Value := #[fptr (some p)]
/-- Behind the parameters. -/
structure MulP (w W : World) (gf ga gb g0 p : Nat) (ca cb : Array Value) : Prop where
 below : Below w.heap.size w W
 f : Blk W gf 24 (fcellv p)
 a : Blk W ga 27 ca
 b : Blk W gb 27 cb
 res : Blk W g0 27 zmx
 nums : w.heap.size = gf ∧ ga = gf + 1 ∧ gb = gf + 2 ∧ g0 = gf + 3 ∧ gf + 4 ≤ W.heap.size
theorem MulP.keep {w W W' : World} {gf ga gb g0 p : Nat} {ca cb : Array Value} (h : MulP w W gf ga gb g0 p ca cb) (hb : Below W.heap.size W W') : MulP w W' gf ga gb g0 p ca cb :=
 ⟨next h.below hb, h.f.keep hb, h.a.keep hb, h.b.keep hb, h.res.keep hb, by have := h.nums; have := hb.size; omega⟩
theorem mulP_start (w : World) (p : Nat) (ca cb : Array Value) : ∃ w1, MulP w w1 w.heap.size (w.heap.size + 1) (w.heap.size + 1 + 1) (w.heap.size + 1 + 1 + 1) p ca cb ∧
    (((w.alloc (.cells (fcellv p) 24)).alloc (.cells ca 27)).alloc (.cells cb 27)).alloc (.cells zmx 27) = w1 := by
 obtain ⟨x1, g1, h1, e1, n1⟩ := boxedT w (fcellv p) 24
 obtain ⟨x2, g2, h2, e2, n2⟩ := boxed x1 ca
 obtain ⟨x3, g3, h3, e3, n3⟩ := boxed x2 cb
 obtain ⟨x4, g4, h4, e4, n4⟩ := boxed x3 zmx
 refine ⟨x4, ?_, by rw [e1, e2, e3, e4]⟩
 have k1 := h1.2.2; have k2 := h2.2.2; have k3 := h3.2.2; have k4 := h4.2.2
 rw [n1]
 obtain rfl : g2 = g1 + 1 := by omega
 obtain rfl : g3 = g1 + 1 + 1 := by omega
 obtain rfl : g4 = g1 + 1 + 1 + 1 := by omega
 exact ⟨next (next (next h1.1 h2.1) h3.1) h4.1, ((h1.2.1.keep h2.1).keep h3.1).keep h4.1, (h2.2.1.keep h3.1).keep h4.1, h3.2.1.keep h4.1, h4.2.1, by omega⟩
set_option maxRecDepth 100000 in
set_option maxHeartbeats 8000000 in
theorem mul_bad1 (w : World) (p : Nat) (R C R' C' : Int) (A A' : Option Addr) (n cap n' cap' : Nat) (hrt : rightB R C n = false) :
    Calls Try.prog 18 #[fptr (some p), .agg #[.int .i64 R, .int .i64 C, .slice A n cap], .agg #[.int .i64 R', .int .i64 C', .slice A' n' cap']] w (ErrM w 50) := by
 refine of_wide ?_
 refine callsIn_of_wp_marks Try.func18 rfl trivial ?_ rfl
 refine wpIn_wide.2 ?_
 simp only [Try.ntmps18, List.size_toArray, List.length_cons, List.length_nil, Nat.reduceAdd, Nat.reduceSub, Array.replicate_succ, Array.replicate_zero, List.push_toArray, List.append_toArray, List.nil_append, List.cons_append]
 obtain ⟨w1, h1, hw1⟩ := mulP_start w p #[.int .i64 R, .int .i64 C, .slice A n cap] #[.int .i64 R', .int .i64 C', .slice A' n' cap']
 obtain ⟨gf, hgf⟩ : ∃ x, w.heap.size = x := ⟨_, rfl⟩
 rw [hgf] at h1
 have HW1 := Lib.hid (show (((w.alloc (.cells #[fptr (some p)] 24)).alloc (.cells #[.int .i64 R, .int .i64 C, .slice A n cap] 27)).alloc (.cells #[.int .i64 R', .int .i64 C', .slice A' n' cap'] 27)).alloc (.cells #[.int .i64 0, .int .i64 0, .slice none 0 0] 27) = w1 from hw1)
 have H1 := Lib.hid h1
 have HG := Lib.hid hgf
 have HRT := Lib.hid hrt
 clear h1 hw1 hgf hrt
 go_wp2_with fail
 rw [HW1.out, HG.out]
 --HELD mulb1
 refine wp_region_noPanic ?_
 refine wp_heldG (fun w' => Below w1.heap.size w1 w') [] (by kernel_rfl) ?hs0 ?rg0
 case hs0 =>
  exact nextN (Mem.start w1) 1
 case rg0 =>
 intro hHeld
 refine tk 0 rfl (by intro w hSw; (try dsimp only at hSw); obtain ⟨⟨c0, c1, c2⟩, _⟩ := cells3 (H1.out.a.keep hSw); go_simp; try with_reducible rfl) ?_
 refine on 1 rfl fun K hK => ?_
 go_simp
 refine (right_any _ _ _ A n cap).mono ?_
 rintro e wA ⟨rfl, hb⟩
 rw [HRT.out]
 have HA := Lib.hid (next hHeld hb)
 try dsimp only
 refine hK.out _ _ (fun _ => HA.out) fun hHeld => ?_
 clear hK K
 try simp only [pU, pU0, pA, pB, pC]
 have hHeld := hHeld (by kernel_rfl)
 refine pu 2 ?_
 refine pu 3 ?_
 refine ofK 4 ?_
 refine ofK 5 ?_
 refine ofK 6 ?_
 refine pu 7 ?_
 refine pu 8 ?_
 refine ofK 9 ?_
 refine ofK 10 ?_
 refine ofK 11 ?_
 refine ofK 12 ?_
 refine ofK 13 ?_
 refine pu 14 ?_
 refine pu 15 ?_
 refine ofK 16 ?_
 refine ofK 17 ?_
 refine ofK 18 ?_
 refine ofK 19 ?_
 refine ofK 20 ?_
 refine ofK 21 ?_
 refine ofK 22 ?_
 refine ofK 23 ?_
 refine ofK 24 ?_
 refine ofK 25 ?_
 refine ofK 26 ?_
 refine pu 27 ?_
 refine wpAnyG_done (by kernel_rfl) ?_ _
 refine NoPanic.normal ?_
 --END mulb1
 have hres := (show MulP w wA gf (gf + 1) (gf + 1 + 1) (gf + 1 + 1 + 1) p _ _ from H1.out.keep HA.out).res
 obtain ⟨⟨d0, d1, d2⟩, f0, f1, f2⟩ := cells3 hres
 go_wp2_with fail
 have h3 := set3 hres (.int .i64 0) (.int .i64 0) (.slice none 0 0)
 obtain ⟨w3, hw3⟩ : ∃ x : World, ((wA.setCell ⟨gf + 1 + 1 + 1, 0, none⟩ (.int .i64 0)).setCell ⟨gf + 1 + 1 + 1, 1, none⟩ (.int .i64 0)).setCell ⟨gf + 1 + 1 + 1, 2, none⟩ (.slice none 0 0) = x := ⟨_, rfl⟩
 rw [hw3] at h3 ⊢
 obtain ⟨⟨e0, e1, e2⟩, _⟩ := cells3 h3.1
 refine ⟨.tuple #[.agg #[.int .i64 0, .int .i64 0, .slice none 0 0], .int .i64 50], ?_, rfl, ?_⟩
 ·simp [results, Try.results18, go_sem, e0, e1, e2]
 ·have hb := (H1.out.keep HA.out).below
  have hn := H1.out.nums
  exact hb.trans (h3.2.below hb.size fun k e => by rw [e]; omega)
set_option maxRecDepth 100000 in
set_option maxHeartbeats 8000000 in
theorem mul_bad2 (w : World) (p : Nat) (R C R' C' : Int) (A A' : Option Addr) (n cap n' cap' : Nat) (hrt : rightB R C n = true) (hrt2 : rightB R' C' n' = false) :
    Calls Try.prog 18 #[fptr (some p), .agg #[.int .i64 R, .int .i64 C, .slice A n cap], .agg #[.int .i64 R', .int .i64 C', .slice A' n' cap']] w (ErrM w 50) := by
 refine of_wide ?_
 refine callsIn_of_wp_marks Try.func18 rfl trivial ?_ rfl
 refine wpIn_wide.2 ?_
 simp only [Try.ntmps18, List.size_toArray, List.length_cons, List.length_nil, Nat.reduceAdd, Nat.reduceSub, Array.replicate_succ, Array.replicate_zero, List.push_toArray, List.append_toArray, List.nil_append, List.cons_append]
 obtain ⟨w1, h1, hw1⟩ := mulP_start w p #[.int .i64 R, .int .i64 C, .slice A n cap] #[.int .i64 R', .int .i64 C', .slice A' n' cap']
 obtain ⟨gf, hgf⟩ : ∃ x, w.heap.size = x := ⟨_, rfl⟩
 rw [hgf] at h1
 have HW1 := Lib.hid (show (((w.alloc (.cells #[fptr (some p)] 24)).alloc (.cells #[.int .i64 R, .int .i64 C, .slice A n cap] 27)).alloc (.cells #[.int .i64 R', .int .i64 C', .slice A' n' cap'] 27)).alloc (.cells #[.int .i64 0, .int .i64 0, .slice none 0 0] 27) = w1 from hw1)
 have H1 := Lib.hid h1
 have HG := Lib.hid hgf
 have HRT := Lib.hid hrt
 have HRT2 := Lib.hid hrt2
 clear h1 hw1 hgf hrt hrt2
 go_wp2_with fail
 rw [HW1.out, HG.out]
 --HELD mulb2
 refine wp_region_noPanic ?_
 refine wp_heldG (fun w' => Below w1.heap.size w1 w') [] (by kernel_rfl) ?hs0 ?rg0
 case hs0 =>
  exact nextN (Mem.start w1) 1
 case rg0 =>
 intro hHeld
 refine tk 0 rfl (by intro w hSw; (try dsimp only at hSw); obtain ⟨⟨c0, c1, c2⟩, _⟩ := cells3 (H1.out.a.keep hSw); go_simp; try with_reducible rfl) ?_
 refine on 1 rfl fun K hK => ?_
 go_simp
 refine (right_any _ _ _ A n cap).mono ?_
 rintro e wA ⟨rfl, hb⟩
 rw [HRT.out]
 have HA := Lib.hid (next hHeld hb)
 try dsimp only
 refine hK.out _ _ (fun _ => HA.out) fun hHeld => ?_
 clear hK K
 try simp only [pU, pU0, pA, pB, pC]
 have hHeld := hHeld (by kernel_rfl)
 refine pu 2 ?_
 refine pu 3 ?_
 refine tk 4 rfl (by intro w hSw; (try dsimp only at hSw); obtain ⟨⟨c0, c1, c2⟩, _⟩ := cells3 (H1.out.b.keep hSw); go_simp; try with_reducible rfl) ?_
 refine on 5 rfl fun K hK => ?_
 go_simp
 refine (right_any _ _ _ A' n' cap').mono ?_
 rintro e wB ⟨rfl, hb⟩
 rw [HRT2.out]
 have HB := Lib.hid (next hHeld hb)
 try dsimp only
 refine hK.out _ _ (fun _ => HB.out) fun hHeld => ?_
 clear hK K
 try simp only [pU, pU0, pA, pB, pC]
 have hHeld := hHeld (by kernel_rfl)
 refine pu 6 ?_
 refine pu 7 ?_
 refine pu 8 ?_
 refine ofK 9 ?_
 refine ofK 10 ?_
 refine ofK 11 ?_
 refine ofK 12 ?_
 refine ofK 13 ?_
 refine pu 14 ?_
 refine pu 15 ?_
 refine ofK 16 ?_
 refine ofK 17 ?_
 refine ofK 18 ?_
 refine ofK 19 ?_
 refine ofK 20 ?_
 refine ofK 21 ?_
 refine ofK 22 ?_
 refine ofK 23 ?_
 refine ofK 24 ?_
 refine ofK 25 ?_
 refine ofK 26 ?_
 refine pu 27 ?_
 refine wpAnyG_done (by kernel_rfl) ?_ _
 refine NoPanic.normal ?_
 --END mulb2
 have hres := (show MulP w wB gf (gf + 1) (gf + 1 + 1) (gf + 1 + 1 + 1) p _ _ from H1.out.keep HB.out).res
 obtain ⟨⟨d0, d1, d2⟩, f0, f1, f2⟩ := cells3 hres
 go_wp2_with fail
 have h3 := set3 hres (.int .i64 0) (.int .i64 0) (.slice none 0 0)
 obtain ⟨w3, hw3⟩ : ∃ x : World, ((wB.setCell ⟨gf + 1 + 1 + 1, 0, none⟩ (.int .i64 0)).setCell ⟨gf + 1 + 1 + 1, 1, none⟩ (.int .i64 0)).setCell ⟨gf + 1 + 1 + 1, 2, none⟩ (.slice none 0 0) = x := ⟨_, rfl⟩
 rw [hw3] at h3 ⊢
 obtain ⟨⟨e0, e1, e2⟩, _⟩ := cells3 h3.1
 refine ⟨.tuple #[.agg #[.int .i64 0, .int .i64 0, .slice none 0 0], .int .i64 50], ?_, rfl, ?_⟩
 ·simp [results, Try.results18, go_sem, e0, e1, e2]
 ·have hb := (H1.out.keep HB.out).below
  have hn := H1.out.nums
  exact hb.trans (h3.2.below hb.size fun k e => by rw [e]; omega)
set_option maxRecDepth 100000 in
set_option maxHeartbeats 8000000 in
theorem mul_bad3 (w : World) (p : Nat) (R C R' C' : Int) (A A' : Option Addr) (n cap n' cap' : Nat) (hrt : rightB R C n = true) (hrt2 : rightB R' C' n' = true) (hne : (C != R') = true) :
    Calls Try.prog 18 #[fptr (some p), .agg #[.int .i64 R, .int .i64 C, .slice A n cap], .agg #[.int .i64 R', .int .i64 C', .slice A' n' cap']] w (ErrM w 50) := by
 refine of_wide ?_
 refine callsIn_of_wp_marks Try.func18 rfl trivial ?_ rfl
 refine wpIn_wide.2 ?_
 simp only [Try.ntmps18, List.size_toArray, List.length_cons, List.length_nil, Nat.reduceAdd, Nat.reduceSub, Array.replicate_succ, Array.replicate_zero, List.push_toArray, List.append_toArray, List.nil_append, List.cons_append]
 obtain ⟨w1, h1, hw1⟩ := mulP_start w p #[.int .i64 R, .int .i64 C, .slice A n cap] #[.int .i64 R', .int .i64 C', .slice A' n' cap']
 obtain ⟨gf, hgf⟩ : ∃ x, w.heap.size = x := ⟨_, rfl⟩
 rw [hgf] at h1
 have HW1 := Lib.hid (show (((w.alloc (.cells #[fptr (some p)] 24)).alloc (.cells #[.int .i64 R, .int .i64 C, .slice A n cap] 27)).alloc (.cells #[.int .i64 R', .int .i64 C', .slice A' n' cap'] 27)).alloc (.cells #[.int .i64 0, .int .i64 0, .slice none 0 0] 27) = w1 from hw1)
 have H1 := Lib.hid h1
 have HG := Lib.hid hgf
 have HRT := Lib.hid hrt
 have HRT2 := Lib.hid hrt2
 have HNE := Lib.hid hne
 clear h1 hw1 hgf hrt hrt2 hne
 go_wp2_with fail
 rw [HW1.out, HG.out]
 --HELD mulb3
 refine wp_region_noPanic ?_
 refine wp_heldG (fun w' => Below w1.heap.size w1 w') [] (by kernel_rfl) ?hs0 ?rg0
 case hs0 =>
  exact nextN (Mem.start w1) 1
 case rg0 =>
 intro hHeld
 refine tk 0 rfl (by intro w hSw; (try dsimp only at hSw); obtain ⟨⟨c0, c1, c2⟩, _⟩ := cells3 (H1.out.a.keep hSw); go_simp; try with_reducible rfl) ?_
 refine on 1 rfl fun K hK => ?_
 go_simp
 refine (right_any _ _ _ A n cap).mono ?_
 rintro e wA ⟨rfl, hb⟩
 rw [HRT.out]
 have HA := Lib.hid (next hHeld hb)
 try dsimp only
 refine hK.out _ _ (fun _ => HA.out) fun hHeld => ?_
 clear hK K
 try simp only [pU, pU0, pA, pB, pC]
 have hHeld := hHeld (by kernel_rfl)
 refine pu 2 ?_
 refine pu 3 ?_
 refine tk 4 rfl (by intro w hSw; (try dsimp only at hSw); obtain ⟨⟨c0, c1, c2⟩, _⟩ := cells3 (H1.out.b.keep hSw); go_simp; try with_reducible rfl) ?_
 refine on 5 rfl fun K hK => ?_
 go_simp
 refine (right_any _ _ _ A' n' cap').mono ?_
 rintro e wB ⟨rfl, hb⟩
 rw [HRT2.out]
 have HB := Lib.hid (next hHeld hb)
 try dsimp only
 refine hK.out _ _ (fun _ => HB.out) fun hHeld => ?_
 clear hK K
 try simp only [pU, pU0, pA, pB, pC]
 have hHeld := hHeld (by kernel_rfl)
 refine pu 6 ?_
 refine pu 7 ?_
 refine pu 8 ?_
 refine pu 9 ?_
 refine tk 10 rfl (by intro w hSw; (try dsimp only at hSw); obtain ⟨⟨c0, c1, c2⟩, _⟩ := cells3 (H1.out.a.keep hSw); go_simp; try with_reducible rfl) ?_
 refine pu 11 ?_
 refine tk 12 rfl (by intro w hSw; (try dsimp only at hSw); obtain ⟨⟨c0, c1, c2⟩, _⟩ := cells3 (H1.out.b.keep hSw); go_simp; try with_reducible rfl) ?_
 refine pu 13 (hv := by intro w _; have hne := HNE.out; go_simp; try with_reducible rfl) ?_
 refine pu 14 ?_
 refine pu 15 ?_
 refine ofK 16 ?_
 refine ofK 17 ?_
 refine ofK 18 ?_
 refine ofK 19 ?_
 refine ofK 20 ?_
 refine ofK 21 ?_
 refine ofK 22 ?_
 refine ofK 23 ?_
 refine ofK 24 ?_
 refine ofK 25 ?_
 refine ofK 26 ?_
 refine pu 27 ?_
 refine wpAnyG_done (by kernel_rfl) ?_ _
 refine NoPanic.normal ?_
 --END mulb3
 have hres := (show MulP w wB gf (gf + 1) (gf + 1 + 1) (gf + 1 + 1 + 1) p _ _ from H1.out.keep HB.out).res
 obtain ⟨⟨d0, d1, d2⟩, f0, f1, f2⟩ := cells3 hres
 go_wp2_with fail
 have h3 := set3 hres (.int .i64 0) (.int .i64 0) (.slice none 0 0)
 obtain ⟨w3, hw3⟩ : ∃ x : World, ((wB.setCell ⟨gf + 1 + 1 + 1, 0, none⟩ (.int .i64 0)).setCell ⟨gf + 1 + 1 + 1, 1, none⟩ (.int .i64 0)).setCell ⟨gf + 1 + 1 + 1, 2, none⟩ (.slice none 0 0) = x := ⟨_, rfl⟩
 rw [hw3] at h3 ⊢
 obtain ⟨⟨e0, e1, e2⟩, _⟩ := cells3 h3.1
 refine ⟨.tuple #[.agg #[.int .i64 0, .int .i64 0, .slice none 0 0], .int .i64 50], ?_, rfl, ?_⟩
 ·simp [results, Try.results18, go_sem, e0, e1, e2]
 ·have hb := (H1.out.keep HB.out).below
  have hn := H1.out.nums
  exact hb.trans (h3.2.below hb.size fun k e => by rw [e]; omega)
theorem rd_of {w W : World} {p g i j c d : Nat} {A' : Option Addr} {b : M} (hB : In w p A' (flat c d b)) (hf : Fr (fun k => k = p) w W) (hj : j < c) (hg : w.heap.size ≤ g) (hd : 0 < d) : ∃ gr o, rowA A' d j = some ⟨gr, o, none⟩ ∧ Rd W p g i d gr o (b j) := by
 obtain ⟨ab, off, hx, hab, ⟨o, hA, _⟩, hcs⟩ := row_at hB.1 hj hd
 have hne : ab ≠ p := hB.2 ab o hA (by rw [flat_len]; have := idx_lt (c := d) hj hd; omega)
 exact ⟨ab, off, hx, ⟨fun k hk => (World.cell?_of_block (hf.block ab hab hne)).trans (hcs k hk), .inl (by omega), hne, Nat.lt_of_lt_of_le hab hf.size⟩⟩
/-- While a product is reckoned. -/
structure MulI (w : World) (gf gb g0 g8 p B g r c d : Nat) (A' : Option Addr) (n' cap' : Nat) (a b : M) (i j : Nat) (W : World) : Prop where
 fr : Fr (fun k => k = p) w W
 fld : Fld W p
 ff : Blk W gf 24 (fcellv p)
 mb : Blk W gb 27 (mcells c d A' n' cap')
 res : Blk W g0 27 zmx
 var : Blk W g8 27 (mcells r d (some ⟨g, 0, none⟩) (r * d) (r * d))
 row : Wm W B g (r * d) r d (mulUp c a b i j)
section
variable {w W W' : World} {gf gb g0 g8 p B g r c d : Nat} {A' : Option Addr} {n' cap' : Nat} {a b : M} {i j : Nat}
theorem MulI.fr_ {S : Nat → Prop} (h : MulI w gf gb g0 g8 p B g r c d A' n' cap' a b i j W) (hf : Fr S W W') (hS : ∀ k, S k → w.heap.size ≤ k) (hp : p < w.heap.size) (hg : ¬ S gf ∧ ¬ S gb ∧ ¬ S g0 ∧ ¬ S g8 ∧ ¬ S g) : MulI w gf gb g0 g8 p B g r c d A' n' cap' a b i j W' :=
 ⟨h.fr.trans hf fun k hk hs => absurd (hS k hs) (by omega), h.fld.fr hf fun hs => absurd (hS p hs) (by omega), h.ff.fr hf hg.1, h.mb.fr hf hg.2.1, h.res.fr hf hg.2.2.1, h.var.fr hf hg.2.2.2.1, h.row.fr hf hg.2.2.2.2⟩
theorem MulI.keep (h : MulI w gf gb g0 g8 p B g r c d A' n' cap' a b i j W) (hp : p < w.heap.size) (hb : Below W.heap.size W W') : MulI w gf gb g0 g8 p B g r c d A' n' cap' a b i j W' :=
 h.fr_ (Fr.quiet (S := fun _ => False) hb) (fun _ h => h.elim) hp ⟨fun h => h, fun h => h, fun h => h, fun h => h, fun h => h⟩
theorem MulI.congr {i' j' : Nat} (h : MulI w gf gb g0 g8 p B g r c d A' n' cap' a b i j W) (e : ∀ x, x < r → ∀ k, k < d → mulUp c a b i j x k = mulUp c a b i' j' x k) : MulI w gf gb g0 g8 p B g r c d A' n' cap' a b i' j' W :=
 ⟨h.fr, h.fld, h.ff, h.mb, h.res, h.var, h.row.congr e⟩
/-- Behind more. -/
theorem MulI.more (h : MulI w gf gb g0 g8 p B g r c d A' n' cap' a b i j W) (hf : Fr (fun k => k = g ∨ k = p) W W') (hF : Fld W' p) (hw : Wm W' B g (r * d) r d (addRow (mulUp c a b i j) i (fun k => b j k) (a i j))) (hg : w.heap.size ≤ g) (hne : (gf ≠ g ∧ gf ≠ p) ∧ (gb ≠ g ∧ gb ≠ p) ∧ (g0 ≠ g ∧ g0 ≠ p) ∧ g8 ≠ g ∧ g8 ≠ p) : MulI w gf gb g0 g8 p B g r c d A' n' cap' a b i (j + 1) W' :=
 ⟨h.fr.trans hf fun k hk hs => hs.elim (fun e => absurd hk (by omega)) fun e => e, hF, h.ff.fr hf (by omega), h.mb.fr hf (by omega), h.res.fr hf (by omega), h.var.fr hf (by omega), hw.congr fun x hx k hk => by
  unfold addRow mulUp
  by_cases e : x = i
  ·subst e
   rw [if_pos rfl, if_neg (by omega), if_pos rfl, if_neg (by omega), if_pos rfl, mul_comm (b j k)]; rfl
  ·rw [if_neg e]
   by_cases e2 : x < i
   ·rw [if_pos e2, if_pos e2]
   ·rw [if_neg e2, if_neg e2, if_neg e, if_neg e]⟩
end
set_option maxRecDepth 100000 in
set_option maxHeartbeats 8000000 in
theorem mul_ok0 (w : World) (p : Nat) (hp : Fld w p) (r c d : Nat) (A A' : Option Addr) (n cap n' cap' : Nat) (a b : M) (hrt : rightB r c n = true) (hrt2 : rightB c d n' = true) (hrd : r ≤ 100 ∧ c ≤ 100 ∧ d ≤ 100) (hcap : n ≤ cap ∧ n' ≤ cap') (hA : In w p A (flat r c a)) (hB : In w p A' (flat c d b)) (hz : r = 0) :
    Calls Try.prog 18 #[fptr (some p), .agg #[.int .i64 (r : Int), .int .i64 (c : Int), .slice A n cap], .agg #[.int .i64 (c : Int), .int .i64 (d : Int), .slice A' n' cap']] w (NewF w p r d (mulM c a b)) := by
 have hn : n = r * c := by obtain ⟨r', c', e1, e2, _, _, e⟩ := right_nat hrt; rw [e, Int.ofNat.inj e1, Int.ofNat.inj e2]
 have hn' : n' = c * d := by obtain ⟨r', c', e1, e2, _, _, e⟩ := right_nat hrt2; rw [e, Int.ofNat.inj e1, Int.ofNat.inj e2]
 have hl : (n : Int) ≤ 1000000000 ∧ (n' : Int) ≤ 1000000000 ∧ ((r * d : Nat) : Int) ≤ 1000000000 := by
  have k1 : r * c ≤ 100 * 100 := Nat.mul_le_mul hrd.1 hrd.2.1
  have k2 : c * d ≤ 100 * 100 := Nat.mul_le_mul hrd.2.1 hrd.2.2
  have k3 : r * d ≤ 100 * 100 := Nat.mul_le_mul hrd.1 hrd.2.2
  omega
 have hpw := hp.lt
 have hr0 : ¬ 0 < r := by omega
 have hdv : decide (0 < r) = false := decide_eq_false hr0
 have HDV := Lib.hid (And.intro hr0 hdv)
 refine of_wide ?_
 refine callsIn_of_wp_marks Try.func18 rfl trivial ?_ rfl
 refine wpIn_wide.2 ?_
 simp only [Try.ntmps18, List.size_toArray, List.length_cons, List.length_nil, Nat.reduceAdd, Nat.reduceSub, Array.replicate_succ, Array.replicate_zero, List.push_toArray, List.append_toArray, List.nil_append, List.cons_append]
 obtain ⟨w1, h1, hw1⟩ := mulP_start w p #[.int .i64 (r : Int), .int .i64 (c : Int), .slice A n cap] #[.int .i64 (c : Int), .int .i64 (d : Int), .slice A' n' cap']
 obtain ⟨gf, hgf⟩ : ∃ x, w.heap.size = x := ⟨_, rfl⟩
 rw [hgf] at h1
 have HW1 := Lib.hid (show (((w.alloc (.cells #[fptr (some p)] 24)).alloc (.cells #[.int .i64 (r : Int), .int .i64 (c : Int), .slice A n cap] 27)).alloc (.cells #[.int .i64 (c : Int), .int .i64 (d : Int), .slice A' n' cap'] 27)).alloc (.cells #[.int .i64 0, .int .i64 0, .slice none 0 0] 27) = w1 from hw1)
 have H1 := Lib.hid h1
 have HG := Lib.hid hgf
 have HP := Lib.hid hp
 have HRT := Lib.hid hrt
 have HRT2 := Lib.hid hrt2
 have HRD := Lib.hid hrd
 have HCAP := Lib.hid hcap
 have HAA := Lib.hid hA
 have HBB := Lib.hid hB
 have HN := Lib.hid hn
 have HN2 := Lib.hid hn'
 have HL := Lib.hid hl
 have HPW := Lib.hid hpw
 have HZ := Lib.hid hz
 clear h1 hw1 hgf hp hrt hrt2 hrd hcap hA hB hn hn' hl hpw hr0 hdv hz
 go_wp2_with fail
 rw [HW1.out, HG.out]
 --HELD mulo0
 refine wp_region_noPanic ?_
 refine wp_heldG (fun w' => Below w1.heap.size w1 w') [] (by kernel_rfl) ?hs0 ?rg0
 case hs0 =>
  exact nextN (Mem.start w1) 1
 case rg0 =>
 intro hHeld
 refine tk 0 rfl (by intro w hSw; (try dsimp only at hSw); obtain ⟨⟨c0, c1, c2⟩, _⟩ := cells3 (H1.out.a.keep hSw); go_simp; try with_reducible rfl) ?_
 refine on 1 rfl fun K hK => ?_
 go_simp
 refine (right_any _ _ _ A n cap).mono ?_
 rintro e wA ⟨rfl, hb⟩
 rw [HRT.out]
 have HA := Lib.hid (next hHeld hb)
 try dsimp only
 refine hK.out _ _ (fun _ => HA.out) fun hHeld => ?_
 clear hK K
 try simp only [pU, pU0, pA, pB, pC]
 have hHeld := hHeld (by kernel_rfl)
 refine pu 2 ?_
 refine pu 3 ?_
 refine tk 4 rfl (by intro w hSw; (try dsimp only at hSw); obtain ⟨⟨c0, c1, c2⟩, _⟩ := cells3 (H1.out.b.keep hSw); go_simp; try with_reducible rfl) ?_
 refine on 5 rfl fun K hK => ?_
 go_simp
 refine (right_any _ _ _ A' n' cap').mono ?_
 rintro e wB ⟨rfl, hb⟩
 rw [HRT2.out]
 have HB := Lib.hid (next hHeld hb)
 try dsimp only
 refine hK.out _ _ (fun _ => HB.out) fun hHeld => ?_
 clear hK K
 try simp only [pU, pU0, pA, pB, pC]
 have hHeld := hHeld (by kernel_rfl)
 refine pu 6 ?_
 refine pu 7 ?_
 refine pu 8 ?_
 refine pu 9 ?_
 refine tk 10 rfl (by intro w hSw; (try dsimp only at hSw); obtain ⟨⟨c0, c1, c2⟩, _⟩ := cells3 (H1.out.a.keep hSw); go_simp; try with_reducible rfl) ?_
 refine pu 11 ?_
 refine tk 12 rfl (by intro w hSw; (try dsimp only at hSw); obtain ⟨⟨c0, c1, c2⟩, _⟩ := cells3 (H1.out.b.keep hSw); go_simp; try with_reducible rfl) ?_
 refine pu 13 ?_
 refine pu 14 ?_
 refine pu 15 ?_
 refine pu 16 ?_
 refine tk 17 rfl (by intro w hSw; (try dsimp only at hSw); obtain ⟨⟨c0, c1, c2⟩, _⟩ := cells3 (H1.out.a.keep hSw); go_simp; try with_reducible rfl) ?_
 refine pu 18 (hv := by intro w _; obtain ⟨hr0, hdv⟩ := HDV.out; go_simp; try with_reducible rfl) ?_
 refine pu 19 ?_
 refine ofK 20 ?_
 refine ofK 21 ?_
 refine ofK 22 ?_
 refine ofK 23 ?_
 refine ofK 24 ?_
 refine ofK 25 ?_
 refine pu 26 ?_
 refine pu 27 ?_
 refine wpAnyG_done (by kernel_rfl) ?_ _
 refine NoPanic.normal ?_
 --END mulo0
 have H2 := Lib.hid (H1.out.keep HB.out)
 obtain ⟨⟨a0, a1, a2⟩, _⟩ := cells3 H2.out.a
 obtain ⟨⟨b0, b1, b2⟩, _⟩ := cells3 H2.out.b
 go_wp2_with fail
 refine (none_any wB r d HL.out.2.2).mono ?_
 rintro e w3 ⟨g, rfl, ho, hb⟩
 have H3 := Lib.hid (And.intro (H2.out.keep hb) (show Wm w3 wB.heap.size g (r * d) r d (fun _ _ => 0) from ho))
 obtain ⟨w4, g4, h4, hw4, hg4⟩ := boxed w3 (mcells r d (some ⟨g, 0, none⟩) (r * d) (r * d))
 have HW4 := Lib.hid (show w3.alloc (.cells #[.int .i64 (r : Int), .int .i64 (d : Int), .slice (some ⟨g, 0, none⟩) (r * d) (r * d)] 27) = w4 from hw4)
 obtain ⟨⟨d0, d1, d2⟩, _⟩ := cells3 (H3.out.1.keep h4.1).a
 rw [← HW4.out] at d0 d1 d2
 have H4 := Lib.hid h4
 have HG4 := Lib.hid hg4
 clear ho hb h4 hw4 hg4 a0 a1 a2 b0 b1 b2
 go_wp2_with fail
 rw [HW4.out, HG4.out]
 refine (rows_any w4 _ _ _).mono ?_
 rintro e w5' ⟨rfl, rfl⟩
 obtain ⟨w5, bm, h5, hw5, hbm⟩ := boxed w4 (mcells r c A n cap)
 have HW5 := Lib.hid (show w4.alloc (.cells #[.int .i64 (r : Int), .int .i64 (c : Int), .slice A n cap] 27) = w5 from hw5)
 rw [HW5.out, hbm]
 have hap : w.heap.size = gf ∧ gf + 4 ≤ wB.heap.size ∧ wB.heap.size ≤ g ∧ g < g4 ∧ bm = g4 + 1 ∧ w5.heap.size = bm + 1 ∧ p < gf := by
  have k1 := H2.out.nums; have k3 := H3.out.2.form; have k4 := HG4.out; have k5 := H4.out.2.2; have k6 := h5.2.2; have k7 := HPW.out
  omega
 have HAP := Lib.hid hap
 have hP5 := (H3.out.1.keep H4.out.1).keep h5.1
 have HI0 := Lib.hid (show MulI w gf (gf + 1 + 1) (gf + 1 + 1 + 1) g4 p wB.heap.size g r c d A' n' cap' a b 0 0 w5 from ⟨Fr.quiet hP5.below, HP.out.keep hP5.below, hP5.f, hP5.b, hP5.res, H4.out.2.1.keep h5.1, ((H3.out.2.keep H4.out.1).keep h5.1).congr fun x _ k _ => (mulUp_start c a b x k).symm⟩)
 have H5 := Lib.hid h5
 clear hw5 h5 hap d0 d1 d2 hbm hP5
 go_wp2_with fail
 refine (wpIn_wide (n := 5)).1 ?_
 refine wpIn_rows bm r c A n cap rfl H5.out.2.1 (by have := HRD.out; omega) HN.out HL.out.1 HCAP.out.1 (fun k => k = g ∨ k = p) (by have := HAP.out; omega)
  (fun i W => MulI w gf (gf + 1 + 1) (gf + 1 + 1 + 1) g4 p wB.heap.size g r c d A' n' cap' a b i 0 W) ?hI HI0.out ?hround ?hdone
 case hI =>
  intro i W W' h hf
  have hap := HAP.out
  exact h.fr_ hf (fun k e => by omega) HPW.out ⟨by omega, by omega, by omega, by omega, by omega⟩
 case hround =>
  intro l i W hi hlt
  have HLT := Lib.hid hlt
  obtain ⟨X, hX⟩ : ∃ X, rowA A c i = X := ⟨_, rfl⟩
  rw [hX]
  have HX := Lib.hid hX
  clear hlt hi hX
  gi_wp2
  refine ⟨trivial, fun W2 hi2 => ?_⟩
  have H := Lib.hid hi2
  clear hi2
  gi_wp2
  gi_loopw [53] (fun x wr => ∃ j : Nat, x = .int .i64 (j : Int) ∧ j ≤ c ∧ MulI w gf (gf + 1 + 1) (gf + 1 + 1 + 1) g4 p wB.heap.size g r c d A' n' cap' a b i j wr ∧ Fr (fun k => k = g ∨ k = p) W2 wr) (fun x _ => c - (intOf x).toNat)
  case atStart => exact ⟨0, rfl, Nat.zero_le _, H.out, Fr.refl _ _⟩
  case round =>
   obtain ⟨j, rfl, hj, h1, h2⟩ := hrel
   by_cases hjc : j < c
   ·obtain ⟨ab, off, hx, hab, _, hcs⟩ := row_at (HAA.out.field h1.fr).1 HLT.out (show 0 < c by omega)
    rw [HX.out] at hx
    subst hx
    have hji : (j : Int) < (c : Int) := by omega
    have hj0 : (0 : Int) ≤ (j : Int) := by omega
    have hj9 : (j : Int) ≤ 1000000 := by have := HRD.out; omega
    have hr1 := hcs j hjc
    have HJ := Lib.hid (And.intro h1 (And.intro h2 hjc))
    clear h1 h2 hj hjc hcs hab
    gi_wp2
    --HELD mulo0r
    refine wpIn_only ?_
    refine wpIn_heldG (fun w' => Blk w' gf 24 (fcellv p) ∧ Blk w' g4 27 (mcells r d (some ⟨g, 0, none⟩) (r * d) (r * d)) ∧ Blk w' (gf + 1 + 1) 27 (mcells c d A' n' cap')) [] (by kernel_rfl) (by kernel_rfl) (fun ⟨_, _, h⟩ => h) ?hs0 ?rg0
    case hs0 =>
     exact ⟨HJ.out.1.ff, HJ.out.1.var, HJ.out.1.mb⟩
    case rg0 =>
    intro hHeld
    refine tk 0 rfl (by intro w hSw; (try dsimp only at hSw); have c0 := hSw.1.cell 0; simp only [fcellv, List.getElem?_toArray, List.getElem?_cons_zero] at c0; go_simp; try with_reducible rfl) ?_
    refine tk 1 rfl (by intro w hSw; (try dsimp only at hSw); obtain ⟨⟨c0, c1, c2⟩, _⟩ := cells3 hSw.2.1; go_simp; try with_reducible rfl) ?_
    refine pu 2 ?_
    refine tk 4 rfl (by intro w hSw; (try dsimp only at hSw); obtain ⟨⟨c0, c1, c2⟩, _⟩ := cells3 hSw.2.2; go_simp; try with_reducible rfl) ?_
    refine pu 5 ?_
    refine pu 7 ?_
    refine on 3 rfl fun K hK => ?_
    go_simp
    refine (row_any _ r d i (some ⟨g, 0, none⟩) (r * d) (r * d) HLT.out (by have := HRD.out; omega) rfl HL.out.2.2 (Nat.le_refl _)).mono ?_
    rintro e w6 ⟨rfl, hb⟩
    have H6 := Lib.hid (next (nextN (Mem.start wr) 1) hb)
    try dsimp only
    refine hK.out _ _ (fun _ => ⟨hHeld.1.keep hb, hHeld.2.1.keep hb, hHeld.2.2.keep hb⟩) fun hHeld => ?_
    clear hK K
    try simp only [pU, pU0, pA, pB, pC]
    have hHeld := hHeld (by kernel_rfl)
    refine on 6 rfl fun K hK => ?_
    clear hb
    go_simp
    refine (row_any _ c d j A' n' cap' HJ.out.2.2 (by have := HRD.out; omega) HN2.out HL.out.2.1 HCAP.out.2).mono ?_
    rintro e w7 ⟨rfl, hb⟩
    have H7 := Lib.hid (HJ.out.1.keep HPW.out (next H6.out hb))
    have H7F := Lib.hid (next H6.out hb)
    try dsimp only
    refine hK.out _ _ (fun _ => ⟨hHeld.1.keep hb, hHeld.2.1.keep hb, hHeld.2.2.keep hb⟩) fun hHeld => ?_
    clear hK K
    try simp only [pU, pU0, pA, pB, pC]
    have hHeld := hHeld (by kernel_rfl)
    refine on 8 rfl fun K hK => ?_
    clear hb
    go_simp
    refine (more_row w7 p H7.out.fld wB.heap.size g (r * d) r d _ H7.out.row i HLT.out HL.out.2.2 (by have := HAP.out; omega) (rowA A' d j) d (b j) (fun hd => rd_of HBB.out H7.out.fr HJ.out.2.2 (by have := HAP.out; omega) hd) (a i j) d).mono ?_
    rintro e w8 ⟨rfl, hw8, hf8, hfr8⟩
    have hap := HAP.out
    have H8 := Lib.hid (And.intro (H7.out.more hfr8 hf8 hw8 (by omega) (by omega)) ((HJ.out.2.1.trans (Fr.quiet (S := fun k => k = g ∨ k = p) H7F.out) fun _ _ h => h).trans hfr8 fun _ _ h => h))
    clear hw8 hf8 hfr8 hap
    try dsimp only
    refine hK.out _ _ (fun _ => ⟨H8.out.1.ff, H8.out.1.var, H8.out.1.mb⟩) fun hHeld => ?_
    clear hK K
    try simp only [pU, pU0, pA, pB, pC]
    have hHeld := hHeld (by kernel_rfl)
    refine wpAnyG_done (by kernel_rfl) ?_ _
    refine onlyN_end ?_
    --END mulo0r
    gi_wp2
    go_roundw
    case rel => exact ⟨j + 1, by simp, HJ.out.2.2, H8.out.1, H8.out.2⟩
    case measure => simp [intOf]; omega
   ·obtain rfl : j = c := by omega
    have HJ := Lib.hid (And.intro h1 h2)
    clear h1 h2 hj
    gi_wp2
    exact ⟨HJ.out.2, HJ.out.1.congr fun x _ k _ => mulUp_next j a b i x k⟩
 case hdone =>
  intro D W hD hi hK
  have H := Lib.hid hi
  have HK := Lib.hid (And.intro hD hK)
  obtain ⟨⟨c0, c1, c2⟩, _⟩ := cells3 hi.var
  obtain ⟨⟨d0, d1, d2⟩, f0, f1, f2⟩ := cells3 hi.res
  obtain ⟨W3, hW3⟩ : ∃ x : World, ((W.setCell ⟨gf + 1 + 1 + 1, 0, none⟩ (.int .i64 (r : Int))).setCell ⟨gf + 1 + 1 + 1, 1, none⟩ (.int .i64 (d : Int))).setCell ⟨gf + 1 + 1 + 1, 2, none⟩ (.slice (some ⟨g, 0, none⟩) (r * d) (r * d)) = x := ⟨_, rfl⟩
  have h3 := set3 hi.res (.int .i64 (r : Int)) (.int .i64 (d : Int)) (.slice (some ⟨g, 0, none⟩) (r * d) (r * d))
  rw [hW3] at h3
  have HW3 := Lib.hid hW3
  have HR := Lib.hid h3
  clear hi hK hD h3 hW3
  go_wp2_with fail
  rw [HW3.out]
  have hap := HAP.out
  have hd := HK.out.1
  have hKD : W3.heap[D]? = some (.deferred (some [])) := by
   have h1 := (Array.getElem?_eq_some_iff.1 HK.out.2).1
   rw [HR.out.2.block D h1 (by omega)]; exact HK.out.2
  have hst := shut_still (B := 0) (.deferred none) hKD rfl (Nat.zero_le _)
  obtain ⟨⟨e0, e1, e2⟩, _⟩ := cells3 (hst.blk HR.out.1)
  refine ⟨by simp, .inl ⟨_, _, rfl, run_takeDeferred hKD, ?_⟩⟩
  refine ⟨.tuple #[.agg #[.int .i64 (r : Int), .int .i64 (d : Int), .slice (some ⟨g, 0, none⟩) (r * d) (r * d)], .int .i64 0], ?_, ?_⟩
  ·simp [results, Try.results18, go_sem, e0, e1, e2]
  ·have hw := (H.out.row.fr HR.out.2 (by omega)).congr (m' := mulM c a b) fun x hx k _ => mulUp_done c a b hx k
   refine ⟨some ⟨g, 0, none⟩, r * d, rfl, Nat.le_refl _, ?_, ?_, ?_⟩
   ·exact Nw.of_own (Own.down (Own.fr hw (put_fr (k := D) _) (fun g' e1 e2 => by injection e1 with e1; have := congrArg Addr.block e1; dsimp only at this; omega)) (by omega))
   ·exact (H.out.fld.fr HR.out.2 (by omega)).fr (put_fr (k := D) _) (by omega)
   ·exact (H.out.fr.trans HR.out.2 fun k hk e => absurd hk (by omega)).trans (put_fr (k := D) _) fun k hk e => absurd hk (by omega)
set_option maxRecDepth 100000 in
set_option maxHeartbeats 8000000 in
theorem mul_ok1 (w : World) (p : Nat) (hp : Fld w p) (r c d : Nat) (A A' : Option Addr) (n cap n' cap' : Nat) (a b : M) (hrt : rightB r c n = true) (hrt2 : rightB c d n' = true) (hrd : r ≤ 100 ∧ c ≤ 100 ∧ d ≤ 100) (hcap : n ≤ cap ∧ n' ≤ cap') (hA : In w p A (flat r c a)) (hB : In w p A' (flat c d b)) (hz : 0 < r) :
    Calls Try.prog 18 #[fptr (some p), .agg #[.int .i64 (r : Int), .int .i64 (c : Int), .slice A n cap], .agg #[.int .i64 (c : Int), .int .i64 (d : Int), .slice A' n' cap']] w (NewF w p r d (mulM c a b)) := by
 have hn : n = r * c := by obtain ⟨r', c', e1, e2, _, _, e⟩ := right_nat hrt; rw [e, Int.ofNat.inj e1, Int.ofNat.inj e2]
 have hn' : n' = c * d := by obtain ⟨r', c', e1, e2, _, _, e⟩ := right_nat hrt2; rw [e, Int.ofNat.inj e1, Int.ofNat.inj e2]
 have hl : (n : Int) ≤ 1000000000 ∧ (n' : Int) ≤ 1000000000 ∧ ((r * d : Nat) : Int) ≤ 1000000000 := by
  have k1 : r * c ≤ 100 * 100 := Nat.mul_le_mul hrd.1 hrd.2.1
  have k2 : c * d ≤ 100 * 100 := Nat.mul_le_mul hrd.2.1 hrd.2.2
  have k3 : r * d ≤ 100 * 100 := Nat.mul_le_mul hrd.1 hrd.2.2
  omega
 have hpw := hp.lt
 have hr0 : ¬ r = 0 := by omega
 have hr1 : (0 : Int) < (r : Int) := by omega
 obtain ⟨q, hq⟩ : ∃ q, IntKind.i64.wrap ((16777216 : Int).tdiv (r : Int)) = q := ⟨_, rfl⟩
 have hdv : decide (q < (d : Int)) = false := by
  refine decide_eq_false ?_
  have h1 : (16777216 : Int) / (r : Int) ≥ 100 := Int.le_ediv_of_mul_le hr1 (by omega)
  have h2 : (16777216 : Int) / (r : Int) ≤ 16777216 := Int.ediv_le_self _ (by decide)
  rw [Int.tdiv_eq_ediv_of_nonneg (by decide), IntWalk.i64_in _ (by omega)] at hq
  omega
 have HDV := Lib.hid (And.intro hr0 (And.intro hz (And.intro hq hdv)))
 refine of_wide ?_
 refine callsIn_of_wp_marks Try.func18 rfl trivial ?_ rfl
 refine wpIn_wide.2 ?_
 simp only [Try.ntmps18, List.size_toArray, List.length_cons, List.length_nil, Nat.reduceAdd, Nat.reduceSub, Array.replicate_succ, Array.replicate_zero, List.push_toArray, List.append_toArray, List.nil_append, List.cons_append]
 obtain ⟨w1, h1, hw1⟩ := mulP_start w p #[.int .i64 (r : Int), .int .i64 (c : Int), .slice A n cap] #[.int .i64 (c : Int), .int .i64 (d : Int), .slice A' n' cap']
 obtain ⟨gf, hgf⟩ : ∃ x, w.heap.size = x := ⟨_, rfl⟩
 rw [hgf] at h1
 have HW1 := Lib.hid (show (((w.alloc (.cells #[fptr (some p)] 24)).alloc (.cells #[.int .i64 (r : Int), .int .i64 (c : Int), .slice A n cap] 27)).alloc (.cells #[.int .i64 (c : Int), .int .i64 (d : Int), .slice A' n' cap'] 27)).alloc (.cells #[.int .i64 0, .int .i64 0, .slice none 0 0] 27) = w1 from hw1)
 have H1 := Lib.hid h1
 have HG := Lib.hid hgf
 have HP := Lib.hid hp
 have HRT := Lib.hid hrt
 have HRT2 := Lib.hid hrt2
 have HRD := Lib.hid hrd
 have HCAP := Lib.hid hcap
 have HAA := Lib.hid hA
 have HBB := Lib.hid hB
 have HN := Lib.hid hn
 have HN2 := Lib.hid hn'
 have HL := Lib.hid hl
 have HPW := Lib.hid hpw
 clear h1 hw1 hgf hp hrt hrt2 hrd hcap hA hB hn hn' hl hpw hr0 hr1 hdv hz hq
 go_wp2_with fail
 rw [HW1.out, HG.out]
 --HELD mulo1
 refine wp_region_noPanic ?_
 refine wp_heldG (fun w' => Below w1.heap.size w1 w') [] (by kernel_rfl) ?hs0 ?rg0
 case hs0 =>
  exact nextN (Mem.start w1) 1
 case rg0 =>
 intro hHeld
 refine tk 0 rfl (by intro w hSw; (try dsimp only at hSw); obtain ⟨⟨c0, c1, c2⟩, _⟩ := cells3 (H1.out.a.keep hSw); go_simp; try with_reducible rfl) ?_
 refine on 1 rfl fun K hK => ?_
 go_simp
 refine (right_any _ _ _ A n cap).mono ?_
 rintro e wA ⟨rfl, hb⟩
 rw [HRT.out]
 have HA := Lib.hid (next hHeld hb)
 try dsimp only
 refine hK.out _ _ (fun _ => HA.out) fun hHeld => ?_
 clear hK K
 try simp only [pU, pU0, pA, pB, pC]
 have hHeld := hHeld (by kernel_rfl)
 refine pu 2 ?_
 refine pu 3 ?_
 refine tk 4 rfl (by intro w hSw; (try dsimp only at hSw); obtain ⟨⟨c0, c1, c2⟩, _⟩ := cells3 (H1.out.b.keep hSw); go_simp; try with_reducible rfl) ?_
 refine on 5 rfl fun K hK => ?_
 go_simp
 refine (right_any _ _ _ A' n' cap').mono ?_
 rintro e wB ⟨rfl, hb⟩
 rw [HRT2.out]
 have HB := Lib.hid (next hHeld hb)
 try dsimp only
 refine hK.out _ _ (fun _ => HB.out) fun hHeld => ?_
 clear hK K
 try simp only [pU, pU0, pA, pB, pC]
 have hHeld := hHeld (by kernel_rfl)
 refine pu 6 ?_
 refine pu 7 ?_
 refine pu 8 ?_
 refine pu 9 ?_
 refine tk 10 rfl (by intro w hSw; (try dsimp only at hSw); obtain ⟨⟨c0, c1, c2⟩, _⟩ := cells3 (H1.out.a.keep hSw); go_simp; try with_reducible rfl) ?_
 refine pu 11 ?_
 refine tk 12 rfl (by intro w hSw; (try dsimp only at hSw); obtain ⟨⟨c0, c1, c2⟩, _⟩ := cells3 (H1.out.b.keep hSw); go_simp; try with_reducible rfl) ?_
 refine pu 13 ?_
 refine pu 14 ?_
 refine pu 15 ?_
 refine pu 16 ?_
 refine tk 17 rfl (by intro w hSw; (try dsimp only at hSw); obtain ⟨⟨c0, c1, c2⟩, _⟩ := cells3 (H1.out.a.keep hSw); go_simp; try with_reducible rfl) ?_
 refine pu 18 (hv := by intro w _; obtain ⟨hr0, hrz, hqq, hdv⟩ := HDV.out; go_simp; try with_reducible rfl) ?_
 refine pu 19 ?_
 refine pu 20 ?_
 refine tk 21 rfl (by intro w hSw; (try dsimp only at hSw); obtain ⟨⟨c0, c1, c2⟩, _⟩ := cells3 (H1.out.b.keep hSw); go_simp; try with_reducible rfl) ?_
 refine pu 22 ?_
 refine tk 23 rfl (by intro w hSw; (try dsimp only at hSw); obtain ⟨⟨c0, c1, c2⟩, _⟩ := cells3 (H1.out.a.keep hSw); go_simp; try with_reducible rfl) ?_
 refine pu 24 (hv := by intro w _; obtain ⟨hr0, hr1, hdv⟩ := HDV.out; go_simp; try with_reducible rfl) ?_
 refine pu 25 (hv := by intro w _; obtain ⟨hr0, hr1, hdv⟩ := HDV.out; go_simp; try with_reducible rfl) ?_
 refine pu 26 ?_
 refine pu 27 ?_
 refine wpAnyG_done (by kernel_rfl) ?_ _
 refine NoPanic.normal ?_
 --END mulo1
 have H2 := Lib.hid (H1.out.keep HB.out)
 obtain ⟨⟨a0, a1, a2⟩, _⟩ := cells3 H2.out.a
 obtain ⟨⟨b0, b1, b2⟩, _⟩ := cells3 H2.out.b
 go_wp2_with fail
 refine (none_any wB r d HL.out.2.2).mono ?_
 rintro e w3 ⟨g, rfl, ho, hb⟩
 have H3 := Lib.hid (And.intro (H2.out.keep hb) (show Wm w3 wB.heap.size g (r * d) r d (fun _ _ => 0) from ho))
 obtain ⟨w4, g4, h4, hw4, hg4⟩ := boxed w3 (mcells r d (some ⟨g, 0, none⟩) (r * d) (r * d))
 have HW4 := Lib.hid (show w3.alloc (.cells #[.int .i64 (r : Int), .int .i64 (d : Int), .slice (some ⟨g, 0, none⟩) (r * d) (r * d)] 27) = w4 from hw4)
 obtain ⟨⟨d0, d1, d2⟩, _⟩ := cells3 (H3.out.1.keep h4.1).a
 rw [← HW4.out] at d0 d1 d2
 have H4 := Lib.hid h4
 have HG4 := Lib.hid hg4
 clear ho hb h4 hw4 hg4 a0 a1 a2 b0 b1 b2
 go_wp2_with fail
 rw [HW4.out, HG4.out]
 refine (rows_any w4 _ _ _).mono ?_
 rintro e w5' ⟨rfl, rfl⟩
 obtain ⟨w5, bm, h5, hw5, hbm⟩ := boxed w4 (mcells r c A n cap)
 have HW5 := Lib.hid (show w4.alloc (.cells #[.int .i64 (r : Int), .int .i64 (c : Int), .slice A n cap] 27) = w5 from hw5)
 rw [HW5.out, hbm]
 have hap : w.heap.size = gf ∧ gf + 4 ≤ wB.heap.size ∧ wB.heap.size ≤ g ∧ g < g4 ∧ bm = g4 + 1 ∧ w5.heap.size = bm + 1 ∧ p < gf := by
  have k1 := H2.out.nums; have k3 := H3.out.2.form; have k4 := HG4.out; have k5 := H4.out.2.2; have k6 := h5.2.2; have k7 := HPW.out
  omega
 have HAP := Lib.hid hap
 have hP5 := (H3.out.1.keep H4.out.1).keep h5.1
 have HI0 := Lib.hid (show MulI w gf (gf + 1 + 1) (gf + 1 + 1 + 1) g4 p wB.heap.size g r c d A' n' cap' a b 0 0 w5 from ⟨Fr.quiet hP5.below, HP.out.keep hP5.below, hP5.f, hP5.b, hP5.res, H4.out.2.1.keep h5.1, ((H3.out.2.keep H4.out.1).keep h5.1).congr fun x _ k _ => (mulUp_start c a b x k).symm⟩)
 have H5 := Lib.hid h5
 clear hw5 h5 hap d0 d1 d2 hbm hP5
 go_wp2_with fail
 refine (wpIn_wide (n := 5)).1 ?_
 refine wpIn_rows bm r c A n cap rfl H5.out.2.1 (by have := HRD.out; omega) HN.out HL.out.1 HCAP.out.1 (fun k => k = g ∨ k = p) (by have := HAP.out; omega)
  (fun i W => MulI w gf (gf + 1 + 1) (gf + 1 + 1 + 1) g4 p wB.heap.size g r c d A' n' cap' a b i 0 W) ?hI HI0.out ?hround ?hdone
 case hI =>
  intro i W W' h hf
  have hap := HAP.out
  exact h.fr_ hf (fun k e => by omega) HPW.out ⟨by omega, by omega, by omega, by omega, by omega⟩
 case hround =>
  intro l i W hi hlt
  have HLT := Lib.hid hlt
  obtain ⟨X, hX⟩ : ∃ X, rowA A c i = X := ⟨_, rfl⟩
  rw [hX]
  have HX := Lib.hid hX
  clear hlt hi hX
  gi_wp2
  refine ⟨trivial, fun W2 hi2 => ?_⟩
  have H := Lib.hid hi2
  clear hi2
  gi_wp2
  gi_loopw [53] (fun x wr => ∃ j : Nat, x = .int .i64 (j : Int) ∧ j ≤ c ∧ MulI w gf (gf + 1 + 1) (gf + 1 + 1 + 1) g4 p wB.heap.size g r c d A' n' cap' a b i j wr ∧ Fr (fun k => k = g ∨ k = p) W2 wr) (fun x _ => c - (intOf x).toNat)
  case atStart => exact ⟨0, rfl, Nat.zero_le _, H.out, Fr.refl _ _⟩
  case round =>
   obtain ⟨j, rfl, hj, h1, h2⟩ := hrel
   by_cases hjc : j < c
   ·obtain ⟨ab, off, hx, hab, _, hcs⟩ := row_at (HAA.out.field h1.fr).1 HLT.out (show 0 < c by omega)
    rw [HX.out] at hx
    subst hx
    have hji : (j : Int) < (c : Int) := by omega
    have hj0 : (0 : Int) ≤ (j : Int) := by omega
    have hj9 : (j : Int) ≤ 1000000 := by have := HRD.out; omega
    have hr1 := hcs j hjc
    have HJ := Lib.hid (And.intro h1 (And.intro h2 hjc))
    clear h1 h2 hj hjc hcs hab
    gi_wp2
    --HELD mulo1r
    refine wpIn_only ?_
    refine wpIn_heldG (fun w' => Blk w' gf 24 (fcellv p) ∧ Blk w' g4 27 (mcells r d (some ⟨g, 0, none⟩) (r * d) (r * d)) ∧ Blk w' (gf + 1 + 1) 27 (mcells c d A' n' cap')) [] (by kernel_rfl) (by kernel_rfl) (fun ⟨_, _, h⟩ => h) ?hs0 ?rg0
    case hs0 =>
     exact ⟨HJ.out.1.ff, HJ.out.1.var, HJ.out.1.mb⟩
    case rg0 =>
    intro hHeld
    refine tk 0 rfl (by intro w hSw; (try dsimp only at hSw); have c0 := hSw.1.cell 0; simp only [fcellv, List.getElem?_toArray, List.getElem?_cons_zero] at c0; go_simp; try with_reducible rfl) ?_
    refine tk 1 rfl (by intro w hSw; (try dsimp only at hSw); obtain ⟨⟨c0, c1, c2⟩, _⟩ := cells3 hSw.2.1; go_simp; try with_reducible rfl) ?_
    refine pu 2 ?_
    refine tk 4 rfl (by intro w hSw; (try dsimp only at hSw); obtain ⟨⟨c0, c1, c2⟩, _⟩ := cells3 hSw.2.2; go_simp; try with_reducible rfl) ?_
    refine pu 5 ?_
    refine pu 7 ?_
    refine on 3 rfl fun K hK => ?_
    go_simp
    refine (row_any _ r d i (some ⟨g, 0, none⟩) (r * d) (r * d) HLT.out (by have := HRD.out; omega) rfl HL.out.2.2 (Nat.le_refl _)).mono ?_
    rintro e w6 ⟨rfl, hb⟩
    have H6 := Lib.hid (next (nextN (Mem.start wr) 1) hb)
    try dsimp only
    refine hK.out _ _ (fun _ => ⟨hHeld.1.keep hb, hHeld.2.1.keep hb, hHeld.2.2.keep hb⟩) fun hHeld => ?_
    clear hK K
    try simp only [pU, pU0, pA, pB, pC]
    have hHeld := hHeld (by kernel_rfl)
    refine on 6 rfl fun K hK => ?_
    clear hb
    go_simp
    refine (row_any _ c d j A' n' cap' HJ.out.2.2 (by have := HRD.out; omega) HN2.out HL.out.2.1 HCAP.out.2).mono ?_
    rintro e w7 ⟨rfl, hb⟩
    have H7 := Lib.hid (HJ.out.1.keep HPW.out (next H6.out hb))
    have H7F := Lib.hid (next H6.out hb)
    try dsimp only
    refine hK.out _ _ (fun _ => ⟨hHeld.1.keep hb, hHeld.2.1.keep hb, hHeld.2.2.keep hb⟩) fun hHeld => ?_
    clear hK K
    try simp only [pU, pU0, pA, pB, pC]
    have hHeld := hHeld (by kernel_rfl)
    refine on 8 rfl fun K hK => ?_
    clear hb
    go_simp
    refine (more_row w7 p H7.out.fld wB.heap.size g (r * d) r d _ H7.out.row i HLT.out HL.out.2.2 (by have := HAP.out; omega) (rowA A' d j) d (b j) (fun hd => rd_of HBB.out H7.out.fr HJ.out.2.2 (by have := HAP.out; omega) hd) (a i j) d).mono ?_
    rintro e w8 ⟨rfl, hw8, hf8, hfr8⟩
    have hap := HAP.out
    have H8 := Lib.hid (And.intro (H7.out.more hfr8 hf8 hw8 (by omega) (by omega)) ((HJ.out.2.1.trans (Fr.quiet (S := fun k => k = g ∨ k = p) H7F.out) fun _ _ h => h).trans hfr8 fun _ _ h => h))
    clear hw8 hf8 hfr8 hap
    try dsimp only
    refine hK.out _ _ (fun _ => ⟨H8.out.1.ff, H8.out.1.var, H8.out.1.mb⟩) fun hHeld => ?_
    clear hK K
    try simp only [pU, pU0, pA, pB, pC]
    have hHeld := hHeld (by kernel_rfl)
    refine wpAnyG_done (by kernel_rfl) ?_ _
    refine onlyN_end ?_
    --END mulo1r
    gi_wp2
    go_roundw
    case rel => exact ⟨j + 1, by simp, HJ.out.2.2, H8.out.1, H8.out.2⟩
    case measure => simp [intOf]; omega
   ·obtain rfl : j = c := by omega
    have HJ := Lib.hid (And.intro h1 h2)
    clear h1 h2 hj
    gi_wp2
    exact ⟨HJ.out.2, HJ.out.1.congr fun x _ k _ => mulUp_next j a b i x k⟩
 case hdone =>
  intro D W hD hi hK
  have H := Lib.hid hi
  have HK := Lib.hid (And.intro hD hK)
  obtain ⟨⟨c0, c1, c2⟩, _⟩ := cells3 hi.var
  obtain ⟨⟨d0, d1, d2⟩, f0, f1, f2⟩ := cells3 hi.res
  obtain ⟨W3, hW3⟩ : ∃ x : World, ((W.setCell ⟨gf + 1 + 1 + 1, 0, none⟩ (.int .i64 (r : Int))).setCell ⟨gf + 1 + 1 + 1, 1, none⟩ (.int .i64 (d : Int))).setCell ⟨gf + 1 + 1 + 1, 2, none⟩ (.slice (some ⟨g, 0, none⟩) (r * d) (r * d)) = x := ⟨_, rfl⟩
  have h3 := set3 hi.res (.int .i64 (r : Int)) (.int .i64 (d : Int)) (.slice (some ⟨g, 0, none⟩) (r * d) (r * d))
  rw [hW3] at h3
  have HW3 := Lib.hid hW3
  have HR := Lib.hid h3
  clear hi hK hD h3 hW3
  go_wp2_with fail
  rw [HW3.out]
  have hap := HAP.out
  have hd := HK.out.1
  have hKD : W3.heap[D]? = some (.deferred (some [])) := by
   have h1 := (Array.getElem?_eq_some_iff.1 HK.out.2).1
   rw [HR.out.2.block D h1 (by omega)]; exact HK.out.2
  have hst := shut_still (B := 0) (.deferred none) hKD rfl (Nat.zero_le _)
  obtain ⟨⟨e0, e1, e2⟩, _⟩ := cells3 (hst.blk HR.out.1)
  refine ⟨by simp, .inl ⟨_, _, rfl, run_takeDeferred hKD, ?_⟩⟩
  refine ⟨.tuple #[.agg #[.int .i64 (r : Int), .int .i64 (d : Int), .slice (some ⟨g, 0, none⟩) (r * d) (r * d)], .int .i64 0], ?_, ?_⟩
  ·simp [results, Try.results18, go_sem, e0, e1, e2]
  ·have hw := (H.out.row.fr HR.out.2 (by omega)).congr (m' := mulM c a b) fun x hx k _ => mulUp_done c a b hx k
   refine ⟨some ⟨g, 0, none⟩, r * d, rfl, Nat.le_refl _, ?_, ?_, ?_⟩
   ·exact Nw.of_own (Own.down (Own.fr hw (put_fr (k := D) _) (fun g' e1 e2 => by injection e1 with e1; have := congrArg Addr.block e1; dsimp only at this; omega)) (by omega))
   ·exact (H.out.fld.fr HR.out.2 (by omega)).fr (put_fr (k := D) _) (by omega)
   ·exact (H.out.fr.trans HR.out.2 fun k hk e => absurd hk (by omega)).trans (put_fr (k := D) _) fun k hk e => absurd hk (by omega)
/-- Does Mul refuse? -/
def mulB (R C : Int) (n : Nat) (R' C' : Int) (n' : Nat) : Bool := rightB R C n && rightB R' C' n' && C == R'
theorem mul_bad (w : World) (p : Nat) (R C R' C' : Int) (A A' : Option Addr) (n cap n' cap' : Nat) (h : mulB R C n R' C' n' = false) :
    Calls Try.prog 18 #[fptr (some p), .agg #[.int .i64 R, .int .i64 C, .slice A n cap], .agg #[.int .i64 R', .int .i64 C', .slice A' n' cap']] w (ErrM w 50) := by
 cases h1 : rightB R C n with
 | false => exact mul_bad1 w p R C R' C' A A' n cap n' cap' h1
 | true =>
  cases h2 : rightB R' C' n' with
  | false => exact mul_bad2 w p R C R' C' A A' n cap n' cap' h1 h2
  | true =>
   refine mul_bad3 w p R C R' C' A A' n cap n' cap' h1 h2 ?_
   unfold mulB at h
   rw [h1, h2] at h
   simpa using h
theorem mul_ok (w : World) (p : Nat) (hp : Fld w p) (r c d : Nat) (A A' : Option Addr) (n cap n' cap' : Nat) (a b : M) (hrt : rightB r c n = true) (hrt2 : rightB c d n' = true) (hrd : r ≤ 100 ∧ c ≤ 100 ∧ d ≤ 100) (hcap : n ≤ cap ∧ n' ≤ cap') (hA : In w p A (flat r c a)) (hB : In w p A' (flat c d b)) :
    Calls Try.prog 18 #[fptr (some p), .agg #[.int .i64 (r : Int), .int .i64 (c : Int), .slice A n cap], .agg #[.int .i64 (c : Int), .int .i64 (d : Int), .slice A' n' cap']] w (NewF w p r d (mulM c a b)) := by
 rcases Nat.eq_zero_or_pos r with h | h
 ·exact mul_ok0 w p hp r c d A A' n cap n' cap' a b hrt hrt2 hrd hcap hA hB h
 ·exact mul_ok1 w p hp r c d A A' n cap n' cap' a b hrt hrt2 hrd hcap hA hB h
end Go.Proofs.Ythdapoipfnnaeaa.MxW
/- The reduced form of a matrix, plain. -/
namespace Go.Proofs.Ythdapoipfnnaeaa.Mx
open Gf
set_option linter.unusedVariables false

/-- The first row from one on whose entry in a column is not nought; r: there is none. -/
def findP (A : M) (r k : Nat) : Nat → Nat → Nat
 | 0, i => i
 | n + 1, i => if i < r ∧ A i k = 0 then findP A r k n (i + 1) else i
def find (A : M) (r k i : Nat) : Nat := findP A r k (r - i) i
def swapM (A : M) (a b : Nat) : M := fun i k => if i = a then A b k else if i = b then A a k else A i k
def scaleM (A : M) (a : Nat) (v : UInt8) : M := fun i k => if i = a then mul (A i k) v else A i k
/-- Row a, times t i, added to each other row i. -/
def elim (t : Nat → UInt8) (A : M) (a : Nat) : M := fun i k => if i = a then A i k else A i k ^^^ mul (A a k) (t i)
/-- One column's step, on the matrix that is reduced (its column cc) and on any matrix. -/
def pivA (A : M) (at_ from_ cc : Nat) : M := scaleM (swapM A at_ from_) at_ (inv (A from_ cc))
def pivB (A B : M) (at_ from_ cc : Nat) : M := scaleM (swapM B at_ from_) at_ (inv (A from_ cc))
def stepX (A X : M) (at_ from_ cc : Nat) : M := elim (fun i => pivA A at_ from_ cc i cc) (pivB A X at_ from_ cc) at_
structure RS where
 at_ : Nat
 A : M
 B : M
def redStep (r cc : Nat) (s : RS) : RS := if find s.A r cc s.at_ < r then ⟨s.at_ + 1, stepX s.A s.A s.at_ (find s.A r cc s.at_) cc, stepX s.A s.B s.at_ (find s.A r cc s.at_) cc⟩ else s
/-- Behind so many columns. -/
def redTo (r : Nat) (A B : M) : Nat → RS
 | 0 => ⟨0, A, B⟩
 | n + 1 => redStep r n (redTo r A B n)
section
variable {A B : M} {r k i j : Nat}
theorem findP_ge : ∀ (n i : Nat), i ≤ findP A r k n i
 | 0, i => Nat.le_refl _
 | n + 1, i => by
  unfold findP
  by_cases h : i < r ∧ A i k = 0
  ·rw [if_pos h]; have := findP_ge n (i + 1); omega
  ·rw [if_neg h]; exact Nat.le_refl _
theorem findP_zero : ∀ (n i j : Nat), i ≤ j → j < findP A r k n i → A j k = 0
 | 0, i, j, h1, h2 => by unfold findP at h2; omega
 | n + 1, i, j, h1, h2 => by
  unfold findP at h2
  by_cases h : i < r ∧ A i k = 0
  ·rw [if_pos h] at h2
   by_cases e : j = i
   ·rw [e]; exact h.2
   ·exact findP_zero n (i + 1) j (by omega) h2
  ·rw [if_neg h] at h2; omega
theorem findP_le : ∀ (n i : Nat), i ≤ r → findP A r k n i ≤ r
 | 0, i, h => h
 | n + 1, i, h => by
  unfold findP
  by_cases h1 : i < r ∧ A i k = 0
  ·rw [if_pos h1]; exact findP_le n (i + 1) (by omega)
  ·rw [if_neg h1]; exact h
theorem findP_ne : ∀ (n i : Nat), r - i ≤ n → findP A r k n i < r → A (findP A r k n i) k ≠ 0
 | 0, i, h, h1 => by unfold findP at h1; omega
 | n + 1, i, h, h1 => by
  unfold findP at h1 ⊢
  by_cases h2 : i < r ∧ A i k = 0
  ·rw [if_pos h2] at h1 ⊢; exact findP_ne n (i + 1) (by omega) h1
  ·rw [if_neg h2] at h1 ⊢
   exact fun e => h2 ⟨h1, e⟩
theorem find_ge : i ≤ find A r k i := findP_ge _ _
theorem find_zero (h1 : i ≤ j) (h2 : j < find A r k i) : A j k = 0 := findP_zero _ _ _ h1 h2
theorem find_le (h : i ≤ r) : find A r k i ≤ r := findP_le _ _ h
theorem find_ne (h : find A r k i < r) : A (find A r k i) k ≠ 0 := findP_ne _ _ (Nat.le_refl _) h
/-- Where it is, if it is known. -/
theorem find_is {f : Nat} (h1 : i ≤ f) (h2 : ∀ j, i ≤ j → j < f → A j k = 0) (h3 : f < r → A f k ≠ 0) (h4 : f ≤ r) : find A r k i = f := by
 rcases Nat.lt_trichotomy (find A r k i) f with h | h | h
 ·exact absurd (h2 _ find_ge h) (find_ne (by omega))
 ·exact h
 ·have h5 := find_le (A := A) (r := r) (k := k) (i := i) (by omega)
  exact absurd (find_zero h1 h) (h3 (by omega))
theorem redTo_at : ∀ (n : Nat), (redTo r A B n).at_ ≤ r ∧ (redTo r A B n).at_ ≤ n
 | 0 => ⟨Nat.zero_le _, Nat.le_refl _⟩
 | n + 1 => by
  have h := redTo_at n
  show (redStep r n (redTo r A B n)).at_ ≤ r ∧ (redStep r n (redTo r A B n)).at_ ≤ n + 1
  unfold redStep
  by_cases h1 : find (redTo r A B n).A r n (redTo r A B n).at_ < r
  ·rw [if_pos h1]
   have := find_ge (A := (redTo r A B n).A) (r := r) (k := n) (i := (redTo r A B n).at_)
   exact ⟨by show (redTo r A B n).at_ + 1 ≤ r; omega, by show (redTo r A B n).at_ + 1 ≤ n + 1; omega⟩
  ·rw [if_neg h1]; omega
/-- Behind the last row nothing turns any more. -/
theorem redTo_full {n : Nat} (h : (redTo r A B n).at_ = r) : ∀ m, n ≤ m → redTo r A B m = redTo r A B n := by
 intro m hm
 induction m with
 | zero => obtain rfl : n = 0 := by omega
           rfl
 | succ m ih =>
  by_cases e : n = m + 1
  ·rw [e]
  ·have h1 := ih (by omega)
   show redStep r m (redTo r A B m) = _
   rw [h1]
   unfold redStep
   rw [if_neg]
   have := find_ge (A := (redTo r A B n).A) (r := r) (k := m) (i := (redTo r A B n).at_)
   omega
end
/-- Steps of the loops over one row. -/
def swapUp (A : M) (a b j : Nat) : M := fun i k => if k < j then swapM A a b i k else A i k
theorem swapUp_step (A : M) (a b j i k : Nat) : upd (upd (swapUp A a b j) a j (A b j)) b j (A a j) i k = swapUp A a b (j + 1) i k := by
 unfold upd swapUp swapM
 by_cases h1 : i = b ∧ k = j
 ·obtain ⟨rfl, rfl⟩ := h1
  rw [if_pos ⟨rfl, rfl⟩, if_pos (by omega)]
  by_cases h2 : i = a
  ·subst h2; rw [if_pos rfl]
  ·rw [if_neg h2, if_pos rfl]
 ·rw [if_neg h1]
  by_cases h2 : i = a ∧ k = j
  ·obtain ⟨rfl, rfl⟩ := h2
   rw [if_pos ⟨rfl, rfl⟩, if_pos (by omega), if_pos rfl]
  ·rw [if_neg h2]
   by_cases h3 : k < j
   ·rw [if_pos h3, if_pos (show k < j + 1 by omega)]
   ·rw [if_neg h3]
    by_cases h4 : k < j + 1
    ·obtain rfl : k = j := by omega
     rw [if_pos h4, if_neg (by omega), if_neg (by omega)]
    ·rw [if_neg h4]
def scaleUp (A : M) (a : Nat) (v : UInt8) (j : Nat) : M := fun i k => if i = a ∧ k < j then mul (A i k) v else A i k
theorem scaleUp_step (A : M) (a : Nat) (v : UInt8) (j i k : Nat) : upd (scaleUp A a v j) a j (mul (A a j) v) i k = scaleUp A a v (j + 1) i k := by
 unfold upd scaleUp
 by_cases h : i = a ∧ k = j
 ·obtain ⟨rfl, rfl⟩ := h
  rw [if_pos ⟨rfl, rfl⟩, if_pos ⟨rfl, by omega⟩]
 ·rw [if_neg h]
  by_cases h2 : i = a ∧ k < j
  ·rw [if_pos h2, if_pos ⟨h2.1, by omega⟩]
  ·rw [if_neg h2, if_neg (by omega)]
/-- Rows ahead of j are reckoned. -/
def elimUp (t : Nat → UInt8) (A : M) (a j : Nat) : M := fun i k => if i < j then elim t A a i k else A i k
theorem elimUp_at (t : Nat → UInt8) (A : M) (a j k : Nat) : elimUp t A a j a k = A a k := by
 unfold elimUp elim
 split
 ·rw [if_pos rfl]
 ·rfl
theorem elimUp_ge (t : Nat → UInt8) (A : M) (a : Nat) {i j : Nat} (h : j ≤ i) (k : Nat) : elimUp t A a j i k = A i k := by unfold elimUp; rw [if_neg (by omega)]
theorem elimUp_skip (t : Nat → UInt8) (A : M) (a i k : Nat) : elimUp t A a a i k = elimUp t A a (a + 1) i k := by
 unfold elimUp elim
 by_cases h : i < a
 ·rw [if_pos h, if_pos (show i < a + 1 by omega)]
 ·rw [if_neg h]
  by_cases h2 : i = a
  ·subst h2; rw [if_pos (show i < i + 1 by omega), if_pos rfl]
  ·rw [if_neg (show ¬ i < a + 1 by omega)]
theorem elimUp_done (t : Nat → UInt8) (A : M) (a : Nat) {r i : Nat} (h : i < r) (k : Nat) : elimUp t A a r i k = elim t A a i k := by unfold elimUp; rw [if_pos h]
end Go.Proofs.Ythdapoipfnnaeaa.Mx
/- For reduce: the state of its loops. -/
namespace Go.Proofs.Ythdapoipfnnaeaa.MxW
open Go.RowKit Go.Shelf Mem Gf FdW Mx Rng
open PlW (In)
set_option linter.unusedVariables false

/-- A matrix of the caller's that is written. -/
def Wo (w : World) (X : Option Addr) (cap r c : Nat) (m : M) : Prop := Mem.Own w 0 5 X cap ((flat r c m).map u8v)
section
variable {w w' : World} {X : Option Addr} {cap r c : Nat} {m m' : M}
theorem Wo.some (h : Wo w X cap r c m) (hr : 0 < r) (hc : 0 < c) : ∃ g, X = some ⟨g, 0, none⟩ ∧ Wm w 0 g cap r c m := by
 rcases Own.form h with ⟨_, _, e⟩ | ⟨g, rfl, _⟩
 ·have := congrArg List.length e
  rw [List.length_map, flat_len] at this
  have h2 := idx_lt (i := 0) (k := 0) hr hc
  simp at this; omega
 ·exact ⟨g, rfl, h⟩
theorem Wo.fr {S : Nat → Prop} (h : Wo w X cap r c m) (hf : Fr S w w') (hg : ∀ g, X = Option.some ⟨g, 0, none⟩ → ¬ S g) : Wo w' X cap r c m := Own.fr h hf hg
theorem Wo.keep (h : Wo w X cap r c m) (hb : Below w.heap.size w w') : Wo w' X cap r c m := Own.keep h hb
theorem Wo.congr (h : Wo w X cap r c m) (hm : ∀ i, i < r → ∀ k, k < c → m i k = m' i k) : Wo w X cap r c m' := by unfold Wo; rw [← flat_congr hm]; exact h
theorem Wo.le (h : Wo w X cap r c m) : r * c ≤ cap := by have := Own.le h; rwa [List.length_map, flat_len] at this
end
/-- Where it lies. -/
def Bk (X : Option Addr) (k : Nat) : Prop := X = some ⟨k, 0, none⟩
/-- What reduce may turn. -/
def RS' (XA XB : Option Addr) (p : Nat) (k : Nat) : Prop := Bk XA k ∨ Bk XB k ∨ k = p
/-- While a matrix is reduced. -/
structure RedI (w : World) (p gf gA gB gt : Nat) (XA XB : Option Addr) (capA capB r c d : Nat) (W : World) (at_ : Nat) (A B : M) : Prop where
 fr : Fr (RS' XA XB p) w W
 fld : Fld W p
 ff : Blk W gf 24 (fcellv p)
 ma : Blk W gA 27 (mcells r c XA (r * c) capA)
 mb : Blk W gB 27 (mcells r d XB (r * d) capB)
 mt : Blk W gt 3 #[.int .i64 (at_ : Int)]
 ra : Wo W XA capA r c A
 rb : Wo W XB capB r d B
/-- Where the blocks lie. -/
structure RedN (w : World) (p gf gA gB gt : Nat) (XA XB : Option Addr) : Prop where
 np : p < w.heap.size
 na : ∀ k, Bk XA k → k < w.heap.size ∧ k ≠ p
 nb : ∀ k, Bk XB k → k < w.heap.size ∧ k ≠ p
 nab : ∀ k, Bk XA k → ¬ Bk XB k
 n1 : w.heap.size = gf
 n2 : gA = gf + 1
 n3 : gB = gf + 1 + 1
 n4 : gt = gf + 1 + 1 + 1
section
variable {w W W' : World} {p gf gA gB gt : Nat} {XA XB : Option Addr} {capA capB r c d at_ : Nat} {A B A' B' : M}
theorem RedN.rs (h : RedN w p gf gA gB gt XA XB) {k : Nat} (hk : RS' XA XB p k) : k < w.heap.size := by
 rcases hk with hk | hk | hk
 ·exact (h.na k hk).1
 ·exact (h.nb k hk).1
 ·rw [hk]; exact h.np
/-- New blocks of the call's own are turned, the boxes stay. -/
theorem RedI.own {S : Nat → Prop} (h : RedI w p gf gA gB gt XA XB capA capB r c d W at_ A B) (hn : RedN w p gf gA gB gt XA XB) (hf : Fr S W W') (hS : ∀ k, S k → gt < k) : RedI w p gf gA gB gt XA XB capA capB r c d W' at_ A B := by
 have hlt : ∀ k, k < w.heap.size → ¬ S k := fun k hk hs => by
  have h1 := hS k hs
  have h2 := hn.n1; have h3 := hn.n4
  omega
 have hg : ∀ k, k ≤ gt → ¬ S k := fun k hk hs => by have h1 := hS k hs; omega
 have h3 := hn.n2; have h4 := hn.n3; have h5 := hn.n4
 exact ⟨h.fr.trans hf fun k hk hs => absurd hs (hlt k hk), h.fld.fr hf (hlt p hn.np), h.ff.fr hf (hg _ (by omega)), h.ma.fr hf (hg _ (by omega)), h.mb.fr hf (hg _ (by omega)), h.mt.fr hf (hg _ (Nat.le_refl _)), h.ra.fr hf fun g e => hlt g (hn.na g e).1, h.rb.fr hf fun g e => hlt g (hn.nb g e).1⟩
theorem RedI.keep (h : RedI w p gf gA gB gt XA XB capA capB r c d W at_ A B) (hb : Below W.heap.size W W') : RedI w p gf gA gB gt XA XB capA capB r c d W' at_ A B :=
 ⟨h.fr.trans (Fr.quiet (S := fun _ => False) hb) fun _ _ h => h.elim, h.fld.keep hb, h.ff.keep hb, h.ma.keep hb, h.mb.keep hb, h.mt.keep hb, h.ra.keep hb, h.rb.keep hb⟩
/-- The blocks of the two matrices and the field are turned. -/
theorem RedI.turn {S : Nat → Prop} (h : RedI w p gf gA gB gt XA XB capA capB r c d W at_ A B) (hn : RedN w p gf gA gB gt XA XB) (hf : Fr S W W') (hS : ∀ k, S k → RS' XA XB p k) (hF : Fld W' p) (ha : Wo W' XA capA r c A') (hb : Wo W' XB capB r d B') : RedI w p gf gA gB gt XA XB capA capB r c d W' at_ A' B' := by
 have hg : ∀ k, gf ≤ k → ¬ S k := fun k hk hs => by have h1 := hn.rs (hS k hs); have h2 := hn.n1; omega
 have h3 := hn.n2; have h4 := hn.n3; have h5 := hn.n4
 exact ⟨h.fr.trans hf fun k _ hs => hS k hs, hF, h.ff.fr hf (hg _ (Nat.le_refl _)), h.ma.fr hf (hg _ (by omega)), h.mb.fr hf (hg _ (by omega)), h.mt.fr hf (hg _ (by omega)), ha, hb⟩
theorem RedI.field (h : RedI w p gf gA gB gt XA XB capA capB r c d W at_ A B) (hn : RedN w p gf gA gB gt XA XB) (hf : Fr (fun k => k = p) W W') (hF : Fld W' p) : RedI w p gf gA gB gt XA XB capA capB r c d W' at_ A B :=
 h.turn hn hf (fun k e => .inr (.inr e)) hF (h.ra.fr hf fun g e e2 => (hn.na g e).2 e2) (h.rb.fr hf fun g e e2 => (hn.nb g e).2 e2)
theorem RedI.congr (h : RedI w p gf gA gB gt XA XB capA capB r c d W at_ A B) (hA : ∀ i, i < r → ∀ k, k < c → A i k = A' i k) (hB : ∀ i, i < r → ∀ k, k < d → B i k = B' i k) : RedI w p gf gA gB gt XA XB capA capB r c d W at_ A' B' :=
 ⟨h.fr, h.fld, h.ff, h.ma, h.mb, h.mt, h.ra.congr hA, h.rb.congr hB⟩
/-- One entry of the first matrix; of the second one. -/
theorem RedI.setA {g : Nat} (hX : XA = some ⟨g, 0, none⟩) (h : RedI w p gf gA gB gt XA XB capA capB r c d W at_ A B) (hn : RedN w p gf gA gB gt XA XB) {i k : Nat} (hi : i < r) (hk : k < c) (x : UInt8) :
    RedI w p gf gA gB gt XA XB capA capB r c d (W.setCell ⟨g, i * c + k, none⟩ (.int .u8 (x.toNat : Int))) at_ (upd A i k x) B := by
 have hf := setF (p := g) W ⟨g, i * c + k, none⟩ rfl (.int .u8 (x.toNat : Int))
 have ha := h.ra
 subst hX
 have hw : Wm W 0 g capA r c A := ha
 exact h.turn hn hf (fun k e => .inl (by rw [e]; rfl)) (h.fld.fr hf fun e => (hn.na g rfl).2 e.symm) (hw.set hi hk x) (h.rb.fr hf fun g' e e2 => hn.nab g rfl (by rw [← e2]; exact e))
theorem RedI.setB {g : Nat} (hX : XB = some ⟨g, 0, none⟩) (h : RedI w p gf gA gB gt XA XB capA capB r c d W at_ A B) (hn : RedN w p gf gA gB gt XA XB) {i k : Nat} (hi : i < r) (hk : k < d) (x : UInt8) :
    RedI w p gf gA gB gt XA XB capA capB r c d (W.setCell ⟨g, i * d + k, none⟩ (.int .u8 (x.toNat : Int))) at_ A (upd B i k x) := by
 have hf := setF (p := g) W ⟨g, i * d + k, none⟩ rfl (.int .u8 (x.toNat : Int))
 have hb := h.rb
 subst hX
 have hw : Wm W 0 g capB r d B := hb
 exact h.turn hn hf (fun k e => .inr (.inl (by rw [e]; rfl))) (h.fld.fr hf fun e => (hn.nb g rfl).2 e.symm) (h.ra.fr hf fun g' e e2 => hn.nab g' e (by rw [e2]; rfl)) (hw.set hi hk x)
theorem RedI.atA {g : Nat} (hX : XA = some ⟨g, 0, none⟩) (h : RedI w p gf gA gB gt XA XB capA capB r c d W at_ A B) {i k : Nat} (hi : i < r) (hk : k < c) : W.cell? ⟨g, i * c + k, none⟩ = some (.int .u8 ((A i k).toNat : Int)) ∧ W.frozen? ⟨g, i * c + k, none⟩ = false := by
 have ha := h.ra
 subst hX
 exact Wm.at_ ha hi hk
theorem RedI.atB {g : Nat} (hX : XB = some ⟨g, 0, none⟩) (h : RedI w p gf gA gB gt XA XB capA capB r c d W at_ A B) {i k : Nat} (hi : i < r) (hk : k < d) : W.cell? ⟨g, i * d + k, none⟩ = some (.int .u8 ((B i k).toNat : Int)) ∧ W.frozen? ⟨g, i * d + k, none⟩ = false := by
 have hb := h.rb
 subst hX
 exact Wm.at_ hb hi hk
end
/-- What reduce leaves. -/
def RedOk (w : World) (p : Nat) (XA XB : Option Addr) (capA capB r c d : Nat) (A B : M) (e : Ending) (w' : World) : Prop :=
 e = .returned (.int .i64 ((redTo r A B c).at_ : Int)) ∧ Wo w' XA capA r c (redTo r A B c).A ∧ Wo w' XB capB r d (redTo r A B c).B ∧ Fld w' p ∧ Fr (RS' XA XB p) w w'
/-- The loop over the columns: the column's variable gc, the marks Ds of the loops over rows. -/
structure RedW (w : World) (p gf gA gB gt : Nat) (XA XB : Option Addr) (capA capB r c d gc n : Nat) (Ds : List Nat) (W : World) (at_ : Nat) (A B : M) : Prop where
 inv : RedI w p gf gA gB gt XA XB capA capB r c d W at_ A B
 mc : Blk W gc 3 #[.int .i64 (n : Int)]
 gtc : gt < gc
 ds : ∀ D ∈ Ds, gt < D ∧ W.heap[D]? = some (.deferred (some []))
 nd : Ds.Nodup
section
variable {w W W' : World} {p gf gA gB gt : Nat} {XA XB : Option Addr} {capA capB r c d gc n : Nat} {Ds : List Nat} {at_ : Nat} {A B A' B' : M}
/-- Blocks that lie ahead are turned. -/
theorem RedW.turn {S : Nat → Prop} {a' : Nat} (h : RedW w p gf gA gB gt XA XB capA capB r c d gc n Ds W at_ A B) (hf : Fr S W W') (hS : ∀ k, S k → k ≤ gt) (hi : RedI w p gf gA gB gt XA XB capA capB r c d W' a' A' B') : RedW w p gf gA gB gt XA XB capA capB r c d gc n Ds W' a' A' B' :=
 ⟨hi, h.mc.fr hf (fun hs => by have := hS _ hs; have := h.gtc; omega), h.gtc, fun D hD => ⟨(h.ds D hD).1, (hf.block D (Array.getElem?_eq_some_iff.1 (h.ds D hD).2).1 (fun hs => by have := hS _ hs; have := (h.ds D hD).1; omega)).trans (h.ds D hD).2⟩, h.nd⟩
theorem RedW.keep (h : RedW w p gf gA gB gt XA XB capA capB r c d gc n Ds W at_ A B) (hb : Below W.heap.size W W') : RedW w p gf gA gB gt XA XB capA capB r c d gc n Ds W' at_ A B :=
 h.turn (Fr.quiet (S := fun _ => False) hb) (fun _ h => h.elim) (h.inv.keep hb)
theorem RedW.congr (h : RedW w p gf gA gB gt XA XB capA capB r c d gc n Ds W at_ A B) (hA : ∀ i, i < r → ∀ k, k < c → A i k = A' i k) (hB : ∀ i, i < r → ∀ k, k < d → B i k = B' i k) : RedW w p gf gA gB gt XA XB capA capB r c d gc n Ds W at_ A' B' :=
 ⟨h.inv.congr hA hB, h.mc, h.gtc, h.ds, h.nd⟩
theorem RedN.le (hn : RedN w p gf gA gB gt XA XB) {k : Nat} (hk : RS' XA XB p k) : k ≤ gt := by have h1 := hn.rs hk; have h2 := hn.n1; have h3 := hn.n4; omega
theorem RedW.field (h : RedW w p gf gA gB gt XA XB capA capB r c d gc n Ds W at_ A B) (hn : RedN w p gf gA gB gt XA XB) (hf : Fr (fun k => k = p) W W') (hF : Fld W' p) : RedW w p gf gA gB gt XA XB capA capB r c d gc n Ds W' at_ A B :=
 h.turn hf (fun k e => hn.le (.inr (.inr e))) (h.inv.field hn hf hF)
theorem RedW.setA {g : Nat} (hX : XA = some ⟨g, 0, none⟩) (h : RedW w p gf gA gB gt XA XB capA capB r c d gc n Ds W at_ A B) (hn : RedN w p gf gA gB gt XA XB) {i k : Nat} (hi : i < r) (hk : k < c) (x : UInt8) :
    RedW w p gf gA gB gt XA XB capA capB r c d gc n Ds (W.setCell ⟨g, i * c + k, none⟩ (.int .u8 (x.toNat : Int))) at_ (upd A i k x) B :=
 h.turn (setF (p := g) W ⟨g, i * c + k, none⟩ rfl _) (fun k e => hn.le (.inl (by rw [e]; exact hX))) (h.inv.setA hX hn hi hk x)
theorem RedW.setB {g : Nat} (hX : XB = some ⟨g, 0, none⟩) (h : RedW w p gf gA gB gt XA XB capA capB r c d gc n Ds W at_ A B) (hn : RedN w p gf gA gB gt XA XB) {i k : Nat} (hi : i < r) (hk : k < d) (x : UInt8) :
    RedW w p gf gA gB gt XA XB capA capB r c d gc n Ds (W.setCell ⟨g, i * d + k, none⟩ (.int .u8 (x.toNat : Int))) at_ A (upd B i k x) :=
 h.turn (setF (p := g) W ⟨g, i * d + k, none⟩ rfl _) (fun k e => hn.le (.inr (.inl (by rw [e]; exact hX)))) (h.inv.setB hX hn hi hk x)
/-- One row more. -/
theorem RedW.next (h : RedW w p gf gA gB gt XA XB capA capB r c d gc n Ds W at_ A B) (hn : RedN w p gf gA gB gt XA XB) : RedW w p gf gA gB gt XA XB capA capB r c d gc n Ds (W.setCell ⟨gt, 0, none⟩ (.int .i64 ((at_ : Int) + 1))) (at_ + 1) A B := by
 have hf := setF (p := gt) W ⟨gt, 0, none⟩ rfl (.int .i64 ((at_ : Int) + 1))
 have hlt : ∀ k, k < w.heap.size → k ≠ gt := fun k hk e => by have h2 := hn.n1; have h3 := hn.n4; omega
 have h1 := hn.n1; have h2 := hn.n2; have h3 := hn.n3; have h4 := hn.n4
 have hi := h.inv
 refine h.turn hf (fun k e => by omega) ⟨hi.fr.trans hf fun k hk e => absurd e (hlt k hk), hi.fld.fr hf (hlt p hn.np), hi.ff.fr hf (by omega), hi.ma.fr hf (by omega), hi.mb.fr hf (by omega), ?_, hi.ra.fr hf fun g e => hlt g (hn.na g e).1, hi.rb.fr hf fun g e => hlt g (hn.nb g e).1⟩
 have := hi.mt.set_ 0 (.int .i64 ((at_ : Int) + 1))
 rw [show ((at_ + 1 : Nat) : Int) = (at_ : Int) + 1 from by omega]
 exact this
/-- The next column, in a variable of its own. -/
theorem RedW.col (h : RedW w p gf gA gB gt XA XB capA capB r c d gc n Ds W at_ A B) (hn : RedN w p gf gA gB gt XA XB) : RedW w p gf gA gB gt XA XB capA capB r c d W.heap.size (n + 1) Ds (W.alloc (.cells #[.int .i64 ((n : Int) + 1)] 3)) at_ A B := by
 have hk := h.keep (nextA (Mem.start W) (.cells #[.int .i64 ((n : Int) + 1)] 3))
 have h1 := h.inv.mt.lt
 refine ⟨hk.inv, ?_, h1, hk.ds, hk.nd⟩
 rw [show ((n + 1 : Nat) : Int) = (n : Int) + 1 from by omega]
 exact Blk.new W _ _
/-- One mark more. -/
theorem RedW.mark (h : RedW w p gf gA gB gt XA XB capA capB r c d gc n Ds W at_ A B) {D : Nat} (hD : gt < D) (hK : W.heap[D]? = some (.deferred (some []))) (hnew : D ∉ Ds) : RedW w p gf gA gB gt XA XB capA capB r c d gc n (D :: Ds) W at_ A B :=
 ⟨h.inv, h.mc, h.gtc, fun D' hD' => by
  rcases List.mem_cons.1 hD' with rfl | h'
  ·exact ⟨hD, hK⟩
  ·exact h.ds D' h', List.nodup_cons.2 ⟨hnew, h.nd⟩⟩
theorem RedW.lt (h : RedW w p gf gA gB gt XA XB capA capB r c d gc n Ds W at_ A B) {D : Nat} (hD : W.heap.size ≤ D) : D ∉ Ds := fun h' => by
 have := (Array.getElem?_eq_some_iff.1 (h.ds D h').2).1
 omega
end
theorem red_start (w : World) (p gf : Nat) (hp : Fld w p) (hgf : w.heap.size = gf) (r c d ga : Nat) (XB : Option Addr) (capA capB : Nat) (A B : M) (hr : 0 < r) (hc : 0 < c) (hA : Wo w (some ⟨ga, 0, none⟩) capA r c A) (hB : Wo w XB capB r d B) (hne : p ≠ ga ∧ ¬ Bk XB p ∧ ¬ Bk XB ga) :
    RedN w p gf (gf + 1) (gf + 1 + 1) (gf + 1 + 1 + 1) (some ⟨ga, 0, none⟩) XB ∧ ∃ w0, RedW w p gf (gf + 1) (gf + 1 + 1) (gf + 1 + 1 + 1) (some ⟨ga, 0, none⟩) XB capA capB r c d (gf + 1 + 1 + 1 + 1) 0 [] w0 0 A B ∧
     ((((w.alloc (.cells #[fptr (some p)] 24)).alloc (.cells #[.int .i64 (r : Int), .int .i64 (c : Int), .slice (some ⟨ga, 0, none⟩) (r * c) capA] 27)).alloc (.cells #[.int .i64 (r : Int), .int .i64 (d : Int), .slice XB (r * d) capB] 27)).alloc (.cells #[.int .i64 0] 3)).alloc (.cells #[.int .i64 0] 3) = w0 := by
 have hn : RedN w p gf (gf + 1) (gf + 1 + 1) (gf + 1 + 1 + 1) (some ⟨ga, 0, none⟩) XB := by
  refine ⟨hp.lt, fun k e => ?_, fun k e => ?_, fun k e e2 => ?_, hgf, rfl, rfl, rfl⟩
  ·have e1 : ga = k := by have e' : some (⟨ga, 0, none⟩ : Addr) = some ⟨k, 0, none⟩ := e
                          injection e' with e'; exact congrArg Addr.block e'
   subst e1
   obtain ⟨g, e3, h3⟩ := hA.some hr hc
   injection e3 with e3; have e4 := congrArg Addr.block e3; dsimp only at e4; subst e4
   exact ⟨h3.form.2.1, fun e => hne.1 e.symm⟩
  ·rcases Own.form hB with ⟨e1, _⟩ | ⟨g, e1, _, h2, _⟩
   ·have e' : XB = some ⟨k, 0, none⟩ := e
    rw [e1] at e'; cases e'
   ·have e' : XB = some ⟨k, 0, none⟩ := e
    rw [e1] at e'; injection e' with e'; have e4 := congrArg Addr.block e'; dsimp only at e4; subst e4
    exact ⟨h2, fun e5 => hne.2.1 (by rw [← e5]; exact e)⟩
  ·have e' : some (⟨ga, 0, none⟩ : Addr) = some ⟨k, 0, none⟩ := e
   injection e' with e'; have e4 := congrArg Addr.block e'; dsimp only at e4; subst e4
   exact hne.2.2 e2
 refine ⟨hn, ?_⟩
 obtain ⟨x1, g1, h1, e1, n1⟩ := boxedT w #[fptr (some p)] 24
 obtain ⟨x2, g2, h2, e2, n2⟩ := boxed x1 #[.int .i64 (r : Int), .int .i64 (c : Int), .slice (some ⟨ga, 0, none⟩) (r * c) capA]
 obtain ⟨x3, g3, h3, e3, n3⟩ := boxed x2 #[.int .i64 (r : Int), .int .i64 (d : Int), .slice XB (r * d) capB]
 obtain ⟨x4, g4, h4, e4, n4⟩ := boxedT x3 #[.int .i64 0] 3
 obtain ⟨x5, g5, h5, e5, n5⟩ := boxedT x4 #[.int .i64 0] 3
 have k1 := h1.2.2; have k2 := h2.2.2; have k3 := h3.2.2; have k4 := h4.2.2; have k5 := h5.2.2
 obtain rfl : g1 = gf := by omega
 obtain rfl : g2 = g1 + 1 := by omega
 obtain rfl : g3 = g1 + 1 + 1 := by omega
 obtain rfl : g4 = g1 + 1 + 1 + 1 := by omega
 obtain rfl : g5 = g1 + 1 + 1 + 1 + 1 := by omega
 have b2 := next h1.1 h2.1
 have b3 := next b2 h3.1
 have b4 := next b3 h4.1
 have b5 := next b4 h5.1
 refine ⟨x5, ⟨⟨Fr.quiet b5, hp.keep b5, (((h1.2.1.keep h2.1).keep h3.1).keep h4.1).keep h5.1, ((h2.2.1.keep h3.1).keep h4.1).keep h5.1, (h3.2.1.keep h4.1).keep h5.1, h4.2.1.keep h5.1, hA.keep b5, hB.keep b5⟩, h5.2.1, by omega, (fun _ h => by cases h), List.nodup_nil⟩, by rw [e1, e2, e3, e4, e5]⟩
/-- A column is done. -/
theorem redTo_yes {r n f : Nat} {A B : M} (hf : f < r) (h : find (redTo r A B n).A r n (redTo r A B n).at_ = f) : redTo r A B (n + 1) = ⟨(redTo r A B n).at_ + 1, stepX (redTo r A B n).A (redTo r A B n).A (redTo r A B n).at_ f n, stepX (redTo r A B n).A (redTo r A B n).B (redTo r A B n).at_ f n⟩ := by
 show redStep r n (redTo r A B n) = _
 unfold redStep
 rw [h, if_pos hf]
theorem redTo_no {r n : Nat} {A B : M} (h : find (redTo r A B n).A r n (redTo r A B n).at_ = r) : redTo r A B (n + 1) = redTo r A B n := by
 show redStep r n (redTo r A B n) = _
 unfold redStep
 rw [h, if_neg (Nat.lt_irrefl r)]
/-- Blocks are turned that are none of these. -/
theorem RedW.far {w W W' : World} {p gf gA gB gt : Nat} {XA XB : Option Addr} {capA capB r c d gc n : Nat} {Ds : List Nat} {at_ : Nat} {A B : M} {S : Nat → Prop} (h : RedW w p gf gA gB gt XA XB capA capB r c d gc n Ds W at_ A B) (hn : RedN w p gf gA gB gt XA XB) (hf : Fr S W W') (hS : ∀ k, S k → gt < k ∧ k ≠ gc ∧ k ∉ Ds) : RedW w p gf gA gB gt XA XB capA capB r c d gc n Ds W' at_ A B :=
 ⟨h.inv.own hn hf fun k hk => (hS k hk).1, h.mc.fr hf fun hs => (hS _ hs).2.1 rfl, h.gtc, fun D hD => ⟨(h.ds D hD).1, (hf.block D (Array.getElem?_eq_some_iff.1 (h.ds D hD).2).1 fun hs => (hS D hs).2.2 hD).trans (h.ds D hD).2⟩, h.nd⟩
/-- Behind more, on the first matrix; on the second one. -/
theorem RedW.moreA {w W W' : World} {p gf gA gB gt : Nat} {XA XB : Option Addr} {capA capB r c d gc n : Nat} {Ds : List Nat} {at_ : Nat} {A B A' : M} (h : RedW w p gf gA gB gt XA XB capA capB r c d gc n Ds W at_ A B) (hn : RedN w p gf gA gB gt XA XB) (hw : Wo W' XA capA r c A') (hF : Fld W' p) (hf : Fr (fun k => Bk XA k ∨ k = p) W W') : RedW w p gf gA gB gt XA XB capA capB r c d gc n Ds W' at_ A' B :=
 have hS : ∀ k, (Bk XA k ∨ k = p) → RS' XA XB p k := fun k hk => hk.elim .inl (fun e => .inr (.inr e))
 h.turn hf (fun k hk => hn.le (hS k hk)) (h.inv.turn hn hf hS hF hw (h.inv.rb.fr hf fun g e e2 => e2.elim (fun e2 => hn.nab g e2 e) (fun e2 => (hn.nb g e).2 e2)))
theorem RedW.moreB {w W W' : World} {p gf gA gB gt : Nat} {XA XB : Option Addr} {capA capB r c d gc n : Nat} {Ds : List Nat} {at_ : Nat} {A B B' : M} (h : RedW w p gf gA gB gt XA XB capA capB r c d gc n Ds W at_ A B) (hn : RedN w p gf gA gB gt XA XB) (hw : Wo W' XB capB r d B') (hF : Fld W' p) (hf : Fr (fun k => Bk XB k ∨ k = p) W W') : RedW w p gf gA gB gt XA XB capA capB r c d gc n Ds W' at_ A B' :=
 have hS : ∀ k, (Bk XB k ∨ k = p) → RS' XA XB p k := fun k hk => hk.elim (fun e => .inr (.inl e)) (fun e => .inr (.inr e))
 h.turn hf (fun k hk => hn.le (hS k hk)) (h.inv.turn hn hf hS hF (h.inv.ra.fr hf fun g e e2 => e2.elim (fun e2 => hn.nab g e e2) (fun e2 => (hn.na g e).2 e2)) hw)
def MoreO (w : World) (p : Nat) (X : Option Addr) (cap r c : Nat) (m : M) (e : Ending) (w' : World) : Prop := e = .returned (.tuple #[]) ∧ Wo w' X cap r c m ∧ Fld w' p ∧ Fr (fun k => Bk X k ∨ k = p) w w'
/-- A row of a matrix added to another row of it. -/
theorem more_own (w : World) (p : Nat) (hp : Fld w p) (X : Option Addr) (cap r c : Nat) (m : M) (hw : Wo w X cap r c m) (i j : Nat) (hi : i < r) (hj : j < r) (hij : j ≠ i) (hc9 : ((r * c : Nat) : Int) ≤ 1000000000) (hne : ∀ k, Bk X k → k ≠ p) (t : UInt8) :
    Calls Try.prog 48 #[fptr (some p), .slice (rowA X c i) c c, .slice (rowA X c j) c c, .int .u8 (t.toNat : Int)] w (MoreO w p X cap r c (addRow m i (m j) t)) := by
 by_cases hc : c = 0
 ·subst hc
  refine (more_nil w _ _ _ _ _ t).mono ?_
  rintro e w' ⟨rfl, rfl⟩
  exact ⟨rfl, hw.congr fun _ _ k hk => absurd hk (by omega), hp, Fr.refl _ _⟩
 ·obtain ⟨g, rfl, hm⟩ := hw.some (by omega) (show 0 < c by omega)
  have hpg : p ≠ g := fun e => hne g rfl e.symm
  refine (more_row w p hp 0 g cap r c m hm i hi hc9 hpg (rowA (some ⟨g, 0, none⟩) c j) c (m j) (fun hd => ⟨g, j * c, by rw [rowA_some hd, Nat.zero_add], ⟨fun k hk => (hm.at_ hj hk).1, .inr fun k k' hk hk' e => ?_, fun e => hpg e.symm, hm.form.2.1⟩⟩) t c).mono ?_
  ·apply hij
   have e1 := congrArg (· / c) e
   simp only [idx_div hk, idx_div hk'] at e1
   exact e1
  ·rintro e w' ⟨he, h1, h2, h3⟩
   exact ⟨he, h1, h2, h3.mono fun k _ hk => hk.elim (fun e => .inl (by rw [e]; rfl)) .inr⟩
theorem elim_more {A : M} {tf : Nat → UInt8} {t i r c : Nat} (hi : i ≠ t) : ∀ x, x < r → ∀ k, k < c → addRow (elimUp tf A t i) i (elimUp tf A t i t) (tf i) x k = elimUp tf A t (i + 1) x k := fun x _ k _ => by
 unfold addRow
 rw [elimUp_at, elimUp_ge tf A t (Nat.le_refl i)]
 by_cases h : x = i
 ·subst h
  rw [if_pos rfl]
  unfold elimUp elim
  rw [if_pos (Nat.lt_succ_self x), if_neg hi]
 ·rw [if_neg h]
  unfold elimUp
  by_cases h2 : x < i
  ·rw [if_pos h2, if_pos (show x < i + 1 by omega)]
  ·rw [if_neg h2, if_neg (show ¬ x < i + 1 by omega)]
/-- Rows t to fm - 1 are nought in column n. -/
def ZerosTo (A : M) (n t fm : Nat) : Prop := ∀ j, t ≤ j → j < fm → A j n = 0
theorem zeros_start (A : M) (n t : Nat) : ZerosTo A n t t := fun j h1 h2 => by omega
theorem zeros_next {A : M} {n t fm : Nat} (h : ZerosTo A n t fm) (h0 : A fm n = 0) : ZerosTo A n t (fm + 1) := fun j h1 h2 => by
 by_cases e : j = fm
 ·rw [e]; exact h0
 ·exact h j h1 (by omega)
theorem scaleUp_all (A : M) (a : Nat) (v : UInt8) {j k : Nat} (hk : k < j) (i : Nat) : scaleUp A a v j i k = scaleM A a v i k := by
 unfold scaleUp scaleM
 by_cases h : i = a
 ·rw [if_pos ⟨h, hk⟩, if_pos h]
 ·rw [if_neg (fun h' => h h'.1), if_neg h]
/-- The two matrices while both are dealt with, one behind the other. -/
def phA (A : M) (t fm n j : Nat) : M := if j = 0 then A else pivA A t fm n
def phB (A B : M) (t fm n j : Nat) : M := if j ≤ 1 then B else pivB A B t fm n
theorem RedW.old {w W : World} {p gf gA gB gt : Nat} {XA XB : Option Addr} {capA capB r c d gc n : Nat} {Ds : List Nat} {at_ : Nat} {A B : M} (hn : RedN w p gf gA gB gt XA XB) (h : RedW w p gf gA gB gt XA XB capA capB r c d gc n Ds W at_ A B) : gt < W.heap.size ∧ gc < W.heap.size := ⟨h.inv.mt.lt, h.mc.lt⟩
theorem marks_still {w W W' : World} {p gf gA gB gt : Nat} {XA XB : Option Addr} {capA capB r c d gc n : Nat} {Ds : List Nat} {at_ : Nat} {A B : M} (h : RedW w p gf gA gB gt XA XB capA capB r c d gc n Ds W at_ A B) (hf : Fr (fun k => k ∈ Ds) W W') : Still 0 W W' :=
 hf.mono fun k _ hk => ⟨Nat.zero_le _, _, (h.ds k hk).2, rfl⟩
/-- The function's end: its marks are shut. -/
theorem red_leave {w W : World} {p gf gA gB gt : Nat} {XA XB : Option Addr} {capA capB r c d gc n : Nat} {Ds : List Nat} {at_ : Nat} {MA MB A B : M} {fn : Func} {tmps : Array Value} {v : Value} (hn : RedN w p gf gA gB gt XA XB) (h : RedW w p gf gA gB gt XA XB capA capB r c d gc n Ds W at_ MA MB)
    (he : RedOk w p XA XB capA capB r c d A B (.returned v) W) (hr : ∀ W', (results fn tmps).run Try.prog W' = .ok v W') :
    LeavesInM Fence.wide 5 Try.prog fn tmps (RedOk w p XA XB capA capB r c d A B) (Ds.map mark) .returning W := by
 refine leaves_marks Ds W h.nd (fun D hD => (h.ds D hD).2) fun W' hf _ => ?_
 have hs := marks_still h hf
 have h1 := hn.n1
 have h4 := hn.n4
 refine ⟨v, hr W', he.1, hs.own he.2.1, hs.own he.2.2.1, he.2.2.2.1.fr hf (fun hp => by have := (h.ds p hp).1; have := hn.np; omega), he.2.2.2.2.trans hf fun k hk hD => by have := (h.ds k hD).1; omega⟩
end Go.Proofs.Ythdapoipfnnaeaa.MxW
