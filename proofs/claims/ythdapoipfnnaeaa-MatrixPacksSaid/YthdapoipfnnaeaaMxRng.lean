/- A range over the rows of a matrix. -/
import Derived.Test.YthdapoipfnnaeaaMxRow
import Derived.Shelf.RegionOpen
import Derived.OwnWalkIn
import Derived.TacticsInMore
import Derived.LoopNIn
import Derived.LoopIn
namespace Go.Proofs.Ythdapoipfnnaeaa.MxW
open Go.RowKit Go.Shelf Mem Gf FdW Mx Rng
set_option linter.unusedVariables false
attribute [local go_sem] Oper.semAt_some wide_fn

theorem rows_any (w : World) (x0 x1 x2 : Value) :
    Calls Try.prog 44 #[.agg #[x0, x1, x2]] w fun e w' => e = .returned (.func (.func 57) #[] #[.pointer (some ⟨w.heap.size, 0, none⟩)]) ∧ w' = w.alloc (.cells #[x0, x1, x2] 27) := by
  have hmf : ∀ (fn : Fn) (first cap : Array Value) (w : World), (Instr.makeFunc fn first cap).run Try.prog w = .ok (.func fn first cap) w := fun _ _ _ _ => rfl
  go_enter Try.func44, Try.ntmps44
  go_wp2_with fail
  go_ret
  exact ⟨rfl, rfl⟩

/-- What is handed over with row i. -/
def rowV (A : Option Addr) (c i : Nat) : Array Value := #[.int .i64 (i : Int), .slice (rowA A c i) c c]
set_option maxRecDepth 100000 in
set_option maxHeartbeats 2000000 in
theorem rows_callT (w : World) (bm r c : Nat) (A : Option Addr) (n cap : Nat) (hbm : Blk w bm 27 #[.int .i64 (r : Int), .int .i64 (c : Int), .slice A n cap]) (hr : (r : Int) ≤ 1000000) (hn : n = r * c) (hn9 : (n : Int) ≤ 1000000000) (hc : n ≤ cap)
    (SB : Nat → Prop) (hSB : ¬ SB bm) (I : List Nat → World → Prop) (hI : ∀ pre W W', I pre W → Below W.heap.size W W' → I pre W') :
    CallT Try.prog 57 #[.pointer (some ⟨bm, 0, none⟩)] (rowV A c) I (fun _ _ _ => False) (fun pre x _ => x = pre.length ∧ x < r) SB w.heap.size (fun xs => xs.length = r) (fun _ => False) w := by
  intro J Jx W hsz hb hJI hJx hJt hJxt hY hJ0
  obtain ⟨D, hD⟩ : ∃ D, w.heap.size = D := ⟨_, rfl⟩
  have hlt := hbm.lt
  have hB := hbm.keep hb
  have hne : bm ≠ D + 1 := by omega
  rw [hD] at hsz hJt hJxt hY ⊢
  have HJT := Lib.hid (show ∀ pre W1 W2, J pre W1 → Below W1.heap.size W1 W2 → J pre W2 from fun pre W1 W2 h hb => hJt pre W1 W2 (fun _ => False) h (Fr.quiet hb) (fun h => h) (fun h => h) (hI _ _ _ (hJI _ _ h) hb))
  have HY := Lib.hid hY
  have HJX := Lib.hid (show ∀ pre W1, Jx pre W1 → False from fun pre W1 h => by obtain ⟨c, h⟩ := hJx _ _ h; exact h)
  have HB := Lib.hid hB
  have HL := Lib.hid (And.intro hn (And.intro hn9 (And.intro hc hr)))
  have HS := Lib.hid (And.intro hSB hne)
  clear hbm hD hlt hB hne hJI hJx hJt hJxt hY hI hb hn hn9 hc hSB hsz
  refine callsIn_of_wp Try.func57 rfl trivial ?_ rfl
  simp only [Try.ntmps57, List.size_toArray, List.length_cons, List.length_nil, Nat.reduceAdd, Nat.reduceSub, Array.replicate_succ, Array.replicate_zero, List.push_toArray, List.append_toArray, List.nil_append, List.cons_append]
  obtain ⟨⟨c0, _, _⟩, _⟩ := cells3 HB.out
  gi_wp2
  clear c0
  gi_loopw [6] (fun i wr => ∃ (k : Nat) (ys : List Nat), ys.length = k ∧ k ≤ r ∧ i = .int .i64 (k : Int) ∧ J ys wr ∧ Blk wr bm 27 #[.int .i64 (r : Int), .int .i64 (c : Int), .slice A n cap])
    (fun i _ => r - (intOf i).toNat)
  case atStart => exact ⟨0, [], rfl, Nat.zero_le _, rfl, hJ0, HB.out⟩
  case round =>
    obtain ⟨k, ys, hys, hk, rfl, hJs, hbk⟩ := hrel
    by_cases hlt : k < r
    · have hki : (k : Int) < (r : Int) := by omega
      have hk0 : (0 : Int) ≤ (k : Int) := by omega
      have hk9 : (k : Int) ≤ 1000000 := by omega
      obtain ⟨⟨d0, d1, d2⟩, _⟩ := cells3 hbk
      have HK := Lib.hid (And.intro hJs (And.intro hbk (And.intro hys hlt)))
      clear hJs hbk hys hk hlt
      gi_wp2
      refine (wide (row_any wr r c k A n cap HK.out.2.2.2 HL.out.2.2.2 HL.out.1 HL.out.2.1 HL.out.2.2.1)).mono ?_
      rintro e W1 ⟨rfl, hb⟩
      have hJ1 := HJT.out _ _ _ HK.out.1 hb
      have HB1 := Lib.hid (HK.out.2.1.keep hb)
      clear hb d0 d1 d2
      obtain ⟨fn, tmps, assign, body, hy, hR⟩ := HY.out ys k W1 hJ1 ⟨HK.out.2.2.1.symm, HK.out.2.2.2⟩
      unfold rowV at hy
      clear hJ1
      gi_wp2
      refine hR.mono ?_
      rintro e W3 (⟨rfl, hJ3, hk3⟩ | ⟨rfl, hJx3, _⟩)
      · have H3 := Lib.hid (And.intro hJ3 (HB1.out.fr hk3 (fun h => h.elim HS.out.1 HS.out.2)))
        clear hJ3 hk3
        gi_wp2
        go_roundw
        case rel => exact ⟨k + 1, ys ++ [k], by rw [List.length_append, HK.out.2.2.1]; rfl, HK.out.2.2.2, by simp, H3.out.1, H3.out.2⟩
        case measure => simp [intOf]; omega
      · exact (HJX.out _ _ hJx3).elim
    · obtain rfl : k = r := by omega
      have HK := Lib.hid (And.intro hJs hys)
      clear hJs hys hk hlt hbk
      gi_wp2
      go_end0
      exact ⟨⟨_, rfl⟩, .inl ⟨_, HK.out.2, HK.out.1⟩⟩

/-- How a round's body may be left. -/
def postR (SB : Nat → Prop) (I : Nat → World → Prop) (i : Nat) (W : World) : Exit → Act → World → Prop
  | .normal, _, W' => Fr SB W W' ∧ I (i + 1) W'
  | _, _, _ => False
/-- A range over a matrix's rows. -/
theorem wpIn_rows {g : Operand} {p q : Tmp} {assign body : Code} {Q : Exit → Act → World → Prop} {a : Act} {w : World} (bm r c : Nat) (A : Option Addr) (n cap : Nat)
    (hg : a.eval g = .func (.func 57) #[] #[.pointer (some ⟨bm, 0, none⟩)]) (hbm : Blk w bm 27 #[.int .i64 (r : Int), .int .i64 (c : Int), .slice A n cap]) (hr : (r : Int) ≤ 1000000) (hn : n = r * c) (hn9 : (n : Int) ≤ 1000000000) (hc : n ≤ cap)
    (SB : Nat → Prop) (hSB : ¬ SB bm ∧ ¬ SB w.heap.size ∧ ¬ SB (w.heap.size + 1)) (I : Nat → World → Prop) (hI : ∀ i W W', I i W → Fr (fun k => k = w.heap.size + 1) W W' → I i W') (h0 : I 0 w)
    (hround : ∀ (l i : Nat) (W : World), I i W → i < r → assign.wpIn (Fence.wide.inRound l) 3 Try.prog (Exit.then (fun a₁ W₁ => W₁ = W ∧ ∀ W2, I i W2 → body.wpIn (Fence.wide.inRound l) 3 Try.prog (postR SB I i W2) a₁ W2) (fun _ _ _ => False))
      { tmps := (a.tmps.setIfInBounds p (.int .i64 (i : Int))).setIfInBounds q (.slice (rowA A c i) c c), defers := [] } W)
    (hdone : ∀ (D : Nat) (W : World), D = w.heap.size → I r W → W.heap[D]? = some (.deferred (some [])) → Q .normal { a with defers := { target := .collected D, args := #[] } :: a.defers } W) :
    (Code.rangeFunc g #[p, q] assign body).wpIn Fence.wide 5 Try.prog Q a w := by
  refine wpIn_rangeT (gf := 57) (lb := #[.pointer (some ⟨bm, 0, none⟩)]) (encs := rowV A c) hg (enters_of Try.func57 (by kernel_rfl) rfl) (fun _ => rfl)
    (fun pre W => I pre.length W) (fun _ _ _ => False) (fun pre x _ => x = pre.length ∧ x < r) SB (S := fun xs => xs.length = r) (Sp := fun _ => False) ⟨hSB.2.1, hSB.2.2⟩
    (rows_callT w bm r c A n cap hbm hr hn hn9 hc SB hSB.1 _ (fun pre W W' h hb => hI _ _ _ h (Fr.quiet hb))) (fun pre W W' h hf => hI _ _ _ h hf) (fun _ _ _ _ h _ => h) (fun _ _ _ _ h _ => h)
    (fun W hb _ => hI _ _ _ h0 (Fr.quiet hb)) ?_ ?_ ?_
  · rintro l pre x W hi ⟨rfl, hx⟩
    rw [show (#[p, q].zip (rowV A c pre.length)).foldl (fun t (p, v) => t.setIfInBounds p v) a.tmps = (a.tmps.setIfInBounds p (.int .i64 (pre.length : Int))).setIfInBounds q (.slice (rowA A c pre.length) c c) from by simp [rowV]]
    refine wpIn_mono (hround l pre.length W hi hx) ?_
    rintro e a1 W0 he
    cases e with
    | normal =>
      obtain ⟨h1, h2⟩ : W0 = W ∧ _ := he
      refine ⟨h1, fun W2 hi2 _ => wpIn_mono (h2 W2 hi2) ?_⟩
      rintro e3 a3 W3 h3
      cases e3 with
      | normal => exact ⟨h3.1, by show I (pre ++ [pre.length]).length W3; rw [List.length_append]; exact h3.2⟩
      | _ => exact h3.elim
    | _ => exact he.elim
  · rintro D xs W hD hxs hi hK
    have hxs : xs.length = r := hxs
    rw [← hxs] at hdone
    exact hdone D W hD hi hK
  · rintro D c pre W _ h
    exact h.elim
/-- A piece that is left by its end alone. -/
def onlyN (Q : Exit → Act → World → Prop) : Exit → Act → World → Prop
  | .normal, a, w => Q .normal a w
  | _, _, _ => False
theorem wpIn_only {F : Fence} {n : Nat} {P : Program} {c : Code} {Q : Exit → Act → World → Prop} {a : Act} {w : World} (h : c.wpIn F n P (onlyN Q) a w) : c.wpIn F n P Q a w := wpIn_mono h (by
  intro e a w h
  cases e with
  | normal => exact h
  | _ => exact h.elim)
theorem onlyN_end {Q : Exit → Act → World → Prop} {a : Act} {w : World} (h : Q .normal a w) : onlyN Q .normal a w := h
/-- Marks of loops over functions, at a function's end. -/
def mark (D : Nat) : Deferred := { target := .collected D, args := #[] }
theorem leaves_marks {P : Program} {fn : Func} {tmps : Array Value} {R : Ending → World → Prop} : ∀ (Ds : List Nat) (W : World), Ds.Nodup → (∀ D ∈ Ds, W.heap[D]? = some (.deferred (some []))) →
    (∀ W', Fr (fun k => k ∈ Ds) W W' → (∀ (k : Nat) (o : Obj), W.heap[k]? = some o → o.isCells = true → W'.heap[k]? = some o) → LeavesIn Fence.wide 5 P fn tmps R [] .returning W') → LeavesInM Fence.wide 5 P fn tmps R (Ds.map mark) .returning W
  | [], W, _, _, h => h W (Fr.refl _ _) (fun _ _ h _ => h)
  | D :: Ds, W, hd, hK, h => by
    obtain ⟨hnd, hd'⟩ := List.nodup_cons.1 hd
    have hKD := hK D (by simp)
    have hf : Fr (fun k => k = D) W (W.putObj D (.deferred none)) := put_fr _
    refine ⟨by simp, .inl ⟨D, _, rfl, run_takeDeferred hKD, leaves_marks Ds _ hd' (fun D' hD' => ?_) fun W' hf' hc' => h W' ?_ ?_⟩⟩
    · exact (World.putObj_heap_other (fun e => hnd (by subst e; exact hD'))).trans (hK D' (by simp [hD']))
    · exact (hf.mono fun k _ e => by rw [e]; simp).trans hf' fun k _ h => by simp [h]
    · intro k o hk ho
      have hkD : k ≠ D := fun e => by
        rw [e, hKD] at hk; injection hk with hk; subst hk; simp [Obj.isCells] at ho
      exact hc' k o ((World.putObj_heap_other hkD).trans hk) ho
end Go.Proofs.Ythdapoipfnnaeaa.MxW
