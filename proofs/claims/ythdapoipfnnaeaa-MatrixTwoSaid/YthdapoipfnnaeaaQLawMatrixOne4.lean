/- Texts of a claim, one behind another. -/
import Derived.Test.YthdapoipfnnaeaaSq
import Derived.Test.YthdapoipfnnaeaaQLawMatrixOne3
import Derived.Laws.CopyRow
/- Bytes copied into a row that is there. -/
namespace Go.Proofs.Ythdapoipfnnaeaa.MxW
open Go.RowKit Go.Shelf Mem Gf FdW Mx Rng
set_option linter.unusedVariables false
set_option linter.unusedSectionVars false

theorem u1info : (Try.prog.info? 5).map (·.size) = some 1 := by kernel_rfl
theorem blkRow {w : World} {g : Nat} {T : TypeId} {old : Array Value} (h : Blk w g T old) (cs : Array Value) : Blk (w.setRow g cs) g T cs := setRow_heap w g old cs T (0, 0) h
theorem frRow {S : Nat → Prop} {w w' : World} {g : Nat} (h : Fr S w w') (hg : g < w.heap.size → S g) (cs : Array Value) : Fr S w (w'.setRow g cs) :=
  ⟨h.os, h.tape, h.output, by unfold World.setRow; simpa using h.size, fun k hk hn => by
    have hne : g ≠ k := fun e => hn (by rw [← e]; exact hg (by omega))
    have : (w'.setRow g cs).heap[k]? = w'.heap[k]? := by unfold World.setRow; simp [Array.getElem?_modify, hne]
    exact this.trans (h.block k hk hn)⟩
theorem step_copyin {ops : Array Oper} {o : Oper} {a : Act} {R : Act → World → Prop} {Q : Exit → Act → World → Prop} {E : Prop} (w : World) (hgd : o.guard = none) (d s : Operand) (ho : o.op = .call { callee := .builtin .copy, args := #[d, s], argTypes := #[22, 22] })
    (g off n n' : Nat) (A : Option Addr) (m c : Nat) (l : List UInt8) (T : TypeId) (cur : Array Value) (hd : a.eval d = .slice (some ⟨g, off, none⟩) n n') (hs : a.eval s = .slice A m c) (hl : l.length = Nat.min m n)
    (hB : Blk w g T cur) (hfit : off + l.length ≤ cur.size) (hA : Bytes w w.heap.size A l)
    (h : ∀ w' k, Blk w' g T (cur.toList.take off ++ l.map u8v ++ cur.toList.drop (off + l.length)).toArray → Fr (fun k => k = g) w w' → w'.heap.size = w.heap.size → R (a.put o.dst (.int .i64 k)) w') : if Region.wanted o (yielded ops a.tmps) = true then Oper.wp Try.prog o a w R Q else E := by
  rw [if_pos (by simp [Region.wanted, hgd])]
  unfold Oper.wp execOp
  by_cases hz : l.length = 0
  · have hrun := run_copy_none (P := Try.prog) w 22 22 o.type 5 (some ⟨g, off, none⟩) A n n' m c Try.underlying22 u1info (by rw [← hl]; exact hz)
    simp only [ho, resolve, invoke, builtin, Sem.run_bind, Sem.run_pure, Result.andThen_ok, List.map_toArray, List.map_cons, List.map_nil, hd, hs, hrun]
    refine h w 0 ?_ (Fr.refl _ w) rfl
    obtain rfl : l = [] := List.eq_nil_of_length_eq_zero hz
    simp only [List.map_nil, List.append_nil, List.length_nil, Nat.add_zero, List.take_append_drop, Array.toArray_toList]
    exact hB
  · obtain ⟨b, o2, rfl, _, hc⟩ := hA (by rw [List.length_map]; omega)
    have hrun := run_copy_row (P := Try.prog) w 22 22 o.type 5 g off n n' ⟨b, o2, none⟩ m c cur T (l.map u8v) Try.underlying22 u1info hB (by rw [List.length_map]; exact hl) (fun j v hv => by rw [Addr.add_lit]; exact hc j v hv) (by rw [List.length_map]; exact hfit) (u8v_one (l := l))
    simp only [ho, resolve, invoke, builtin, Sem.run_bind, Sem.run_pure, Result.andThen_ok, List.map_toArray, List.map_cons, List.map_nil, hd, hs, hrun]
    rw [List.length_map]
    exact h _ _ (blkRow hB _) (frRow (Fr.refl (fun k => k = g) w) (fun _ => rfl) _) (by unfold World.setRow; simp)
theorem own_blk {w : World} {base g c : Nat} {T : TypeId} {xs : List Value} (h : Mem.Own w base T (some ⟨g, 0, none⟩) c xs) (hl : xs.length = c) : Blk w g T xs.toArray ∧ base ≤ g ∧ c ≤ maxLen := by
  rcases h.2 with ⟨hv, _⟩ | ⟨g', cap, cur, hv, hb, hg, hn, hm, hcs, ht⟩
  · injection hv with h1; cases h1
  · injection hv with h1 _ h3
    injection h1 with h1
    have := congrArg Addr.block h1
    dsimp only at this
    subst this; subst h3
    refine ⟨?_, hb, hm⟩
    have e : cur.toList = xs := by
      rw [← ht, List.take_of_length_le]
      rw [Array.length_toList, hcs, hl]; exact Nat.le_refl _
    have : cur = xs.toArray := by rw [← e]
    rw [← this]; exact hg
theorem blk_own {w : World} {base g : Nat} {T : TypeId} {xs : List Value} (h : Blk w g T xs.toArray) (hb : base ≤ g) (hm : xs.length ≤ maxLen) : Mem.Own w base T (some ⟨g, 0, none⟩) xs.length xs :=
  ⟨by simp, .inr ⟨g, xs.length, xs.toArray, by simp, hb, h, by simp, hm, by simp, by simp [List.take_of_length_le]⟩⟩
/-- A row copied over row j. -/
theorem flat_copy {n c j : Nat} {M' : M} {f : Nat → UInt8} (hj : j < n) : (flat n c M').take (j * c) ++ row c f ++ (flat n c M').drop (j * c + c) = flat n c (fun x y => if x = j then f y else M' x y) := by
  have hle := idx_le (c := c) hj
  refine flat_ext (by rw [List.length_append, List.length_append, List.length_take, List.length_drop, row_len, flat_len]; omega) fun i hi k hk => ?_
  by_cases h1 : i < j
  · have := idx_le (c := c) h1
    rw [List.getElem?_append_left (by rw [List.length_append, List.length_take, row_len, flat_len]; omega), List.getElem?_append_left (by rw [List.length_take, flat_len]; omega), List.getElem?_take, if_pos (by omega), flat_get hi hk, if_neg (by omega)]
  · by_cases h2 : i = j
    · subst h2
      rw [List.getElem?_append_left (by rw [List.length_append, List.length_take, row_len, flat_len]; omega), List.getElem?_append_right (by rw [List.length_take, flat_len]; omega), List.length_take, flat_len, Nat.min_eq_left (by omega), Nat.add_sub_cancel_left, row_get hk, if_pos rfl]
    · have := idx_le (c := c) (show j < i by omega)
      rw [List.getElem?_append_right (by rw [List.length_append, List.length_take, row_len, flat_len]; omega), List.length_append, List.length_take, row_len, flat_len, Nat.min_eq_left (by omega), List.getElem?_drop, show j * c + c + (i * c + k - (j * c + c)) = i * c + k by omega, flat_get hi hk, if_neg h2]
end Go.Proofs.Ythdapoipfnnaeaa.MxW
/- The program's Pick. -/
namespace Go.Proofs.Ythdapoipfnnaeaa.MxW
open Go.RowKit Go.Shelf Mem Gf FdW Mx Rng
open PlW (In)
set_option linter.unusedVariables false
set_option linter.unusedSectionVars false
attribute [local go_sem] Oper.semAt_some wide_fn

def pickUp (m : M) (ks : List Int) (j : Nat) : M := fun x y => if x < j then pickM m ks x y else 0
theorem pickUp_next {n c j k : Nat} {m : M} {ks : List Int} (h : pickM m ks j = m k) (hj : j < n) : (flat n c (pickUp m ks j)).take (j * c) ++ row c (m k) ++ (flat n c (pickUp m ks j)).drop (j * c + c) = flat n c (pickUp m ks (j + 1)) := by
  rw [flat_copy hj]
  refine flat_congr fun x hx y hy => ?_
  unfold pickUp
  by_cases e : x = j
  · subst e; rw [if_pos rfl, if_pos (by omega), h]
  · rw [if_neg e]
    by_cases e2 : x < j
    · rw [if_pos e2, if_pos (by omega)]
    · rw [if_neg e2, if_neg (by omega)]
theorem rowA_at {g c j : Nat} : rowA (some ⟨g, 0, none⟩) c j = some ⟨g, j * c, none⟩ := by
  by_cases h : c = 0
  · subst h; rw [rowA_zero, Nat.mul_zero]
  · rw [rowA_some (by omega), Nat.zero_add]
theorem rowB {w : World} {B r c k : Nat} {A : Option Addr} {m : M} (h : Bytes w B A (flat r c m)) (hk : k < r) : Bytes w B (rowA A c k) (row c (m k)) := by
  by_cases h0 : c = 0
  · subst h0; exact Bytes.nil
  · obtain ⟨b, o, rfl, _⟩ := h.at_ (k := k * c) (by rw [flat_len]; have := idx_le (c := c) hk; omega)
    rw [rowA_some (by omega), ← flat_row hk]
    exact (h.drop (k * c)).take c
theorem WS.copied {w0 w w' : World} {Y : List (Nat × TypeId × Array Value)} {g r c : Nat} {m m' : M} (h : WS w0 Y g (r * c) r c m w) (hf : Fr (fun k => k = g) w w') (hb : Blk w' g 5 ((flat r c m').map u8v).toArray) : WS w0 Y g (r * c) r c m' w' := by
  have hob := own_blk h.row (by rw [List.length_map, flat_len])
  refine ⟨h.below.trans (hf.below h.below.size fun k hk => by rw [hk]; exact hob.2.1), fun y hy => ⟨(h.box y hy).1.fr hf fun e => ?_, (h.box y hy).2⟩, ?_⟩
  · exact (h.box y hy).1.ne_own h.row (h.box y hy).2.1 g rfl e.symm
  · have := blk_own hb hob.2.1 (by rw [List.length_map, flat_len]; exact hob.2.2)
    rw [List.length_map, flat_len] at this
    exact this
set_option maxRecDepth 100000 in
set_option maxHeartbeats 4000000 in
theorem pick_any (w : World) (r c : Nat) (A : Option Addr) (nn cap : Nat) (m : M) (K : Option Addr) (ks : List Int) (n ck : Nat) (hn : ks.length = n) (hnn : nn = r * c) (hd : r ≤ 100 ∧ c ≤ 100 ∧ n ≤ 100) (hcap : nn ≤ cap) (hA : Bytes w w.heap.size A (flat r c m)) (hK : Cells w w.heap.size K (ks.map i64v)) :
    Calls Try.prog 28 #[.agg #[.int .i64 (r : Int), .int .i64 (c : Int), .slice A nn cap], .slice K n ck] w (PickOk w n c (pickM m ks) (allIn r ks)) := by
  have HN := Lib.hid (And.intro hd (And.intro hn (And.intro hnn hcap)))
  have HA := Lib.hid hA
  have HK := Lib.hid hK
  have h1 : ¬ (65536 : Int) < (n : Int) := by omega
  have HR := Lib.hid (show rightB (r : Int) (c : Int) nn = true from right_dim ⟨hd.1, hd.2.1⟩ hnn)
  have H0 := Lib.hid (((BS.start w).put (mcells r c A nn cap) 27 (by decide)).put #[.int .i64 0, .int .i64 0, .slice none 0 0] 27 (by decide))
  clear hA hK hn hnn hcap
  go_enter Try.func28, Try.ntmps28
  obtain ⟨⟨a0, a1, a2⟩, _⟩ := H0.out.cells (.tail _ (.head _))
  go_wp2_with fail
  clear a0 a1 a2
  obtain ⟨w1, hw1⟩ : ∃ x : World, (w.alloc (.cells #[.int .i64 (r : Int), .int .i64 (c : Int), .slice A nn cap] 27)).alloc (.cells #[.int .i64 0, .int .i64 0, .slice none 0 0] 27) = x := ⟨_, rfl⟩
  have hw1' : (w.alloc (.cells (mcells r c A nn cap) 27)).alloc (.cells #[.int .i64 0, .int .i64 0, .slice none 0 0] 27) = w1 := hw1
  rw [hw1', World.size_alloc] at H0
  rw [hw1]
  clear hw1 hw1'
  obtain ⟨ga, hga⟩ : ∃ x, w.heap.size = x := ⟨_, rfl⟩
  obtain ⟨g0, hg0⟩ : ∃ x, ga + 1 = x := ⟨_, rfl⟩
  rw [hga, hg0] at H0 ⊢
  refine (right_any w1 _ _ A nn cap).mono ?_
  rintro e w2 ⟨rfl, hb⟩
  rw [HR.out]
  have H1 := Lib.hid (H0.out.keep hb)
  clear hb H0
  by_cases hc0 : (0 : Int) < (c : Int)
  · have hcz : ((c : Int) == 0) = false := by simp; omega
    obtain ⟨qd, hqd⟩ : ∃ q, IntKind.i64.wrap ((16777216 : Int).tdiv (c : Int)) = q := ⟨_, rfl⟩
    have hdv : decide (qd < (n : Int)) = false := by
      refine decide_eq_false ?_
      have k1 : (16777216 : Int) / (c : Int) ≥ 100 := Int.le_ediv_of_mul_le hc0 (by omega)
      have k2 : (16777216 : Int) / (c : Int) ≤ 16777216 := Int.ediv_le_self _ (by decide)
      rw [Int.tdiv_eq_ediv_of_nonneg (by decide), IntWalk.i64_in _ (by omega)] at hqd
      omega
    have hcn : ¬ c = 0 := by omega
    clear hd
    obtain ⟨⟨a0, a1, a2⟩, _⟩ := H1.out.cells (.tail _ (.head _))
    go_wp2_with fail
    clear a0 a1 a2
    refine (none_any w2 n c (by have h1 : n * c ≤ 100 * 100 := Nat.mul_le_mul HN.out.1.2.2 HN.out.1.2.1; omega)).mono ?_
    rintro e w3 ⟨g, rfl, ho, hb⟩
    have H2 := Lib.hid (H1.out.none_ (g := g) (cap := n * c) (r := n) (c := c) (m := fun _ _ => 0) (show Wm w3 w.heap.size g (n * c) n c _ from ho.down H1.out.below.size) hb)
    clear ho hb
    have H3 := Lib.hid (H2.out.put (mcells n c (some ⟨g, 0, none⟩) (n * c) (n * c)) 27 (by decide))
    go_wp2_with fail
    obtain ⟨gm, hgm⟩ : ∃ x, w3.heap.size = x := ⟨_, rfl⟩
    obtain ⟨w4, hw4⟩ : ∃ x : World, w3.alloc (.cells #[.int .i64 (n : Int), .int .i64 (c : Int), .slice (some ⟨g, 0, none⟩) (n * c) (n * c)] 27) = x := ⟨_, rfl⟩
    have hw4' : w3.alloc (.cells (mcells n c (some ⟨g, 0, none⟩) (n * c) (n * c)) 27) = w4 := hw4
    rw [hw4', hgm] at H3
    rw [hw4, hgm]
    clear hw4 hw4' hgm
    go_loopw [38] (fun i wr => ∃ j : Nat, i = .int .i64 (j : Int) ∧ j ≤ n ∧ (∀ i, i < j → 0 ≤ ks.getD i 0 ∧ ks.getD i 0 < (r : Int)) ∧ WS w [(gm, 27, mcells n c (some ⟨g, 0, none⟩) (n * c) (n * c)), (g0, 27, #[.int .i64 0, .int .i64 0, .slice none 0 0]), (ga, 27, mcells r c A nn cap)] g (n * c) n c (pickUp m ks j) wr) (fun i _ => n - (intOf i).toNat)
    case atStart => exact ⟨0, rfl, Nat.zero_le _, fun i hi => absurd hi (Nat.not_lt_zero _), H3.out.congr fun x _ y _ => by unfold pickUp; rw [if_neg (by omega)]⟩
    case round =>
      obtain ⟨j, rfl, hj, hin, h⟩ := hrel
      have H4 := Lib.hid h
      have HIN := Lib.hid hin
      clear h H3 hin
      obtain ⟨w5, rfl⟩ : ∃ w5 : World, w5 = wr := ⟨_, rfl⟩
      by_cases hjn : j < n
      · have hj1 : (j : Int) < (n : Int) := by omega
        have hj0 : (0 : Int) ≤ (j : Int) := by omega
        have hwj : IntKind.i64.wrap ((j : Int) + 1) = ((j + 1 : Nat) : Int) := by have := HN.out.1.2.2; rw [IntWalk.i64_in _ (by omega)]; omega
        have HJ := Lib.hid hjn
        have hjl : j < (ks.map i64v).length := by rw [List.length_map, HN.out.2.1]; exact hjn
        obtain ⟨kb, ko, rfl, -, -⟩ := HK.out.at_ (k := j) hjl
        obtain ⟨v, hv⟩ : ∃ v, ks.getD j 0 = v := ⟨_, rfl⟩
        have HV := Lib.hid (show ∀ W : World, Below w.heap.size w W → W.cell? ⟨kb, ko + j, none⟩ = some (.int .i64 v) from fun W hW => by
          obtain ⟨b', o', e', _, hc⟩ := (HK.out.below hW).at_ (k := j) hjl
          injection e' with e'; injection e' with e1 e2; subst e1; subst e2
          rw [hc, List.getElem_map, ← hv, List.getD_eq_getElem?_getD, List.getElem?_eq_getElem (by rw [HN.out.2.1]; exact hjn)]; rfl)
        have HVE := Lib.hid hv
        have HVM := Lib.hid (show v ∈ ks from by rw [← hv, List.getD_eq_getElem?_getD, List.getElem?_eq_getElem (by rw [HN.out.2.1]; exact hjn)]; exact List.getElem_mem _)
        clear hv hjl
        obtain ⟨⟨a0, a1, a2⟩, _⟩ := H4.out.cells (.tail _ (.tail _ (.head _)))
        have hv0 := HV.out _ H4.out.below
        by_cases hvin : 0 ≤ v ∧ v < (r : Int)
        · obtain ⟨k, rfl⟩ : ∃ k : Nat, v = (k : Int) := ⟨v.toNat, by omega⟩
          have hkr : k < r := by omega
          have hk0 : ¬ (k : Int) < 0 := by omega
          have hk1 : ¬ (r : Int) ≤ (k : Int) := by omega
          have HKR := Lib.hid hkr
          have HMJ := Lib.hid (show pickM m ks j = m k from by unfold pickM; rw [HVE.out]; rfl)
          clear hvin hkr
          go_wp2_with fail
          clear a0 a1 a2 hv0
          refine wp_region_noPanic ?_
          refine wp_heldG (fun w' => (w'.cell? ⟨gm, 0, none⟩ = some (.int .i64 (n : Int)) ∧ w'.cell? ⟨gm, 1, none⟩ = some (.int .i64 (c : Int)) ∧ w'.cell? ⟨gm, 2, none⟩ = some (.slice (some ⟨g, 0, none⟩) (n * c) (n * c))) ∧ (w'.cell? ⟨ga, 0, none⟩ = some (.int .i64 (r : Int)) ∧ w'.cell? ⟨ga, 1, none⟩ = some (.int .i64 (c : Int)) ∧ w'.cell? ⟨ga, 2, none⟩ = some (.slice A nn cap))) [] (by kernel_rfl) ?hs0 ?rg0
          case hs0 =>
            have h := H4.out.keep (nextN (Mem.start w5) 1)
            exact ⟨(h.cells (.head _)).1, (h.cells (.tail _ (.tail _ (.head _)))).1⟩
          case rg0 =>
          intro hHeld
          refine tkG 0 ⟨some 52, .load 27 (.tmp 6), 27, _, #[], none⟩ (v := ?_) ?_ (by assumption) ?_
          rotate_left
          · intro w hSw
            try dsimp only at hSw
            obtain ⟨⟨k0, k1, k2⟩, ⟨l0, l1, l2⟩⟩ := hSw
            go_simp
            try with_reducible rfl
          try simp only [Act.put, List.setIfInBounds_toArray, List.set_cons_zero, List.set_cons_succ]
          refine puG 1 ⟨some 53, .move (.tmp 7), 3, _, #[], none⟩ (v := ?_) ?_ (fun _ => by assumption) ?_
          rotate_left
          · intro w hSw
            try dsimp only at hSw
            obtain ⟨⟨k0, k1, k2⟩, ⟨l0, l1, l2⟩⟩ := hSw
            go_simp
            try with_reducible rfl
          try simp only [Act.put, List.setIfInBounds_toArray, List.set_cons_zero, List.set_cons_succ]
          refine tkG 3 ⟨some 55, .load 27 (.tmp 2), 27, _, #[], none⟩ (v := ?_) ?_ (by assumption) ?_
          rotate_left
          · intro w hSw
            try dsimp only at hSw
            obtain ⟨⟨k0, k1, k2⟩, ⟨l0, l1, l2⟩⟩ := hSw
            go_simp
            try with_reducible rfl
          try simp only [Act.put, List.setIfInBounds_toArray, List.set_cons_zero, List.set_cons_succ]
          refine puG 4 ⟨some 56, .move (.tmp 8), 3, _, #[], none⟩ (v := ?_) ?_ (fun _ => by assumption) ?_
          rotate_left
          · intro w hSw
            try dsimp only at hSw
            obtain ⟨⟨k0, k1, k2⟩, ⟨l0, l1, l2⟩⟩ := hSw
            go_simp
            try with_reducible rfl
          try simp only [Act.put, List.setIfInBounds_toArray, List.set_cons_zero, List.set_cons_succ]
          refine onG 2 ⟨some 54, .call { callee := Callee.value (Operand.func 49), args := #[.tmp 52, .tmp 53], argTypes := #[27, 3] }, 22, _, #[⟨0, .data⟩, ⟨1, .data⟩], none⟩ (fun K hK => ?_)
          have H5 := Lib.hid (show WS w [(gm, 27, mcells n c (some ⟨g, 0, none⟩) (n * c) (n * c)), (g0, 27, #[.int .i64 0, .int .i64 0, .slice none 0 0]), (ga, 27, mcells r c A nn cap)] g (n * c) n c (pickUp m ks j) w5.drew from H4.out.keep (nextN (Mem.start w5) 1))
          go_simp
          refine (row_any _ n c j (some ⟨g, 0, none⟩) (n * c) (n * c) HJ.out (by have := HN.out.1.2.2; omega) rfl (by have h1 : n * c ≤ 100 * 100 := Nat.mul_le_mul HN.out.1.2.2 HN.out.1.2.1; omega) (Nat.le_refl _)).mono ?_
          rintro e w6 ⟨rfl, hb⟩
          have H6 := Lib.hid (H5.out.keep hb)
          clear hb
          rw [rowA_at]
          try dsimp only
          refine hK.out _ _ ?_ (fun hHeld => ?_)
          · intro _
            try dsimp only
            exact ⟨(H6.out.cells (.head _)).1, (H6.out.cells (.tail _ (.tail _ (.head _)))).1⟩
          clear hK K
          try simp only [Act.put, List.setIfInBounds_toArray, List.set_cons_zero, List.set_cons_succ]
          have hHeld := hHeld (by kernel_rfl)
          refine onG 5 ⟨some 57, .call { callee := Callee.value (Operand.func 49), args := #[.tmp 55, .tmp 56], argTypes := #[27, 3] }, 22, _, #[⟨3, .data⟩, ⟨4, .data⟩, ⟨2, .chain⟩], none⟩ (fun K hK => ?_)
          go_simp
          refine (row_any _ r c k A nn cap HKR.out (by have := HN.out.1.1; omega) HN.out.2.2.1 (by have h1 : r * c ≤ 100 * 100 := Nat.mul_le_mul HN.out.1.1 HN.out.1.2.1; have := HN.out.2.2.1; omega) HN.out.2.2.2).mono ?_
          rintro e w8 ⟨rfl, hb⟩
          have H8 := Lib.hid (H6.out.keep hb)
          clear hb
          try dsimp only
          refine hK.out _ _ ?_ (fun hHeld => ?_)
          · intro _
            try dsimp only
            exact ⟨(H8.out.cells (.head _)).1, (H8.out.cells (.tail _ (.tail _ (.head _)))).1⟩
          clear hK K
          try simp only [Act.put, List.setIfInBounds_toArray, List.set_cons_zero, List.set_cons_succ]
          have hHeld := hHeld (by kernel_rfl)
          refine onG 6 ⟨some 58, .call { callee := Callee.builtin Builtin.copy, args := #[.tmp 54, .tmp 57], argTypes := #[22, 22] }, 3, _, #[⟨2, .data⟩, ⟨5, .data⟩, ⟨5, .chain⟩], none⟩ (fun K hK => ?_)
          have hob := own_blk H8.out.row (by rw [List.length_map, flat_len])
          refine step_copyin w8 rfl _ _ rfl g (j * c) c c (rowA A c k) c c (row c (m k)) 5 _ rfl rfl (by rw [row_len]; exact (Nat.min_self c).symm) hob.1 (by rw [row_len]; simp [flat_len]; exact idx_le HJ.out) ((rowB (HA.out.below H8.out.below) HKR.out).up H8.out.below.size) ?_
          intro w9 kk hblk hfr hsz
          have H7 := Lib.hid (show WS w [(gm, 27, mcells n c (some ⟨g, 0, none⟩) (n * c) (n * c)), (g0, 27, #[.int .i64 0, .int .i64 0, .slice none 0 0]), (ga, 27, mcells r c A nn cap)] g (n * c) n c (pickUp m ks (j + 1)) w9 from H8.out.copied hfr (by
            have h := hblk
            rw [row_len] at h
            have e : ((((flat n c (pickUp m ks j)).map u8v).toArray.toList.take (j * c) ++ (row c (m k)).map u8v ++ ((flat n c (pickUp m ks j)).map u8v).toArray.toList.drop (j * c + c)).toArray : Array Value) = ((flat n c (pickUp m ks (j + 1))).map u8v).toArray := by
              rw [← pickUp_next HMJ.out HJ.out, List.map_append, List.map_append, List.map_take, List.map_drop]
            rw [e] at h
            exact h))
          clear hblk hfr hsz hob
          try dsimp only
          refine hK.out _ _ ?_ (fun hHeld => ?_)
          · intro _
            try dsimp only
            exact ⟨(H7.out.cells (.head _)).1, (H7.out.cells (.tail _ (.tail _ (.head _)))).1⟩
          clear hK K
          try simp only [Act.put, List.setIfInBounds_toArray, List.set_cons_zero, List.set_cons_succ]
          have hHeld := hHeld (by kernel_rfl)
          refine wpAnyG_done (by kernel_rfl) ?_ _
          refine NoPanic.normal ?_
          clear hHeld
          go_wp2_with fail
          go_roundw
          case rel =>
            refine ⟨j + 1, by simp, HJ.out, fun i hi => ?_, H7.out⟩
            by_cases e : i = j
            · subst e
              rw [HVE.out]; have := HKR.out; omega
            · exact HIN.out i (by omega)
          case measure => simp [intOf]; omega
        · have HBAD := Lib.hid (show allIn r ks = false from by
            unfold allIn
            rw [List.all_eq_false]
            exact ⟨v, HVM.out, by simp only [decide_eq_true_eq]; exact hvin⟩)
          by_cases hv1 : v < 0
          · clear hvin
            obtain ⟨⟨d0, d1, d2⟩, f0, f1, f2⟩ := H4.out.cells (.tail _ (.head _))
            have hfin := H4.out.bs.end_ (.tail _ (.head _)) (.int .i64 0) (.int .i64 0) (.slice none 0 0)
            go_wp2_with fail
            obtain ⟨h1, h2, e0, e1, e2⟩ := hfin
            refine bodyPost_ret (v := .tuple #[.agg #[.int .i64 0, .int .i64 0, .slice none 0 0], .int .i64 2]) (by simp [results, Try.results28, go_sem, e0, e1, e2]) rfl ?_
            exact ⟨fun h => (by rw [HBAD.out] at h; cases h), fun _ => ⟨rfl, h1⟩⟩
          · have hv2 : (r : Int) ≤ v := by omega
            clear hvin
            obtain ⟨⟨d0, d1, d2⟩, f0, f1, f2⟩ := H4.out.cells (.tail _ (.head _))
            have hfin := H4.out.bs.end_ (.tail _ (.head _)) (.int .i64 0) (.int .i64 0) (.slice none 0 0)
            go_wp2_with fail
            obtain ⟨h1, h2, e0, e1, e2⟩ := hfin
            refine bodyPost_ret (v := .tuple #[.agg #[.int .i64 0, .int .i64 0, .slice none 0 0], .int .i64 2]) (by simp [results, Try.results28, go_sem, e0, e1, e2]) rfl ?_
            exact ⟨fun h => (by rw [HBAD.out] at h; cases h), fun _ => ⟨rfl, h1⟩⟩
      · obtain rfl : n = j := by omega
        have HOK := Lib.hid (show allIn r ks = true from by
          unfold allIn
          rw [List.all_eq_true]
          intro v hv
          obtain ⟨i, hi, e⟩ := List.mem_iff_getElem.1 hv
          have h := HIN.out i (by rw [← HN.out.2.1]; exact hi)
          rw [List.getD_eq_getElem?_getD, List.getElem?_eq_getElem hi, Option.getD_some, e] at h
          exact decide_eq_true h)
        obtain ⟨⟨c0, c1, c2'⟩, _⟩ := H4.out.cells (.head _)
        obtain ⟨⟨d0, d1, d2⟩, f0, f1, f2⟩ := H4.out.cells (.tail _ (.head _))
        have hfin := H4.out.end_ (.tail _ (.head _)) (.int .i64 (n : Int)) (.int .i64 (c : Int)) (.slice (some ⟨g, 0, none⟩) (n * c) (n * c))
        go_wp2_with fail
        obtain ⟨h1, h2, e0, e1, e2⟩ := hfin
        refine bodyPost_ret (v := .tuple #[.agg #[.int .i64 (n : Int), .int .i64 (c : Int), .slice (some ⟨g, 0, none⟩) (n * c) (n * c)], .int .i64 0]) (by simp [results, Try.results28, go_sem, e0, e1, e2]) rfl ?_
        refine ⟨fun _ => ⟨some ⟨g, 0, none⟩, n * c, rfl, Nat.le_refl _, ?_, h1⟩, fun h => ?_⟩
        · rw [flat_congr (m' := pickM m ks) fun a ha b hb => by unfold pickUp; rw [if_pos ha]] at h2
          exact h2
        · rw [HOK.out] at h; cases h
  · clear hd
    obtain ⟨⟨a0, a1, a2⟩, _⟩ := H1.out.cells (.tail _ (.head _))
    go_wp2_with fail
    clear a0 a1 a2
    refine (none_any w2 n c (by have h1 : n * c ≤ 100 * 100 := Nat.mul_le_mul HN.out.1.2.2 HN.out.1.2.1; omega)).mono ?_
    rintro e w3 ⟨g, rfl, ho, hb⟩
    have H2 := Lib.hid (H1.out.none_ (g := g) (cap := n * c) (r := n) (c := c) (m := fun _ _ => 0) (show Wm w3 w.heap.size g (n * c) n c _ from ho.down H1.out.below.size) hb)
    clear ho hb
    have H3 := Lib.hid (H2.out.put (mcells n c (some ⟨g, 0, none⟩) (n * c) (n * c)) 27 (by decide))
    go_wp2_with fail
    obtain ⟨gm, hgm⟩ : ∃ x, w3.heap.size = x := ⟨_, rfl⟩
    obtain ⟨w4, hw4⟩ : ∃ x : World, w3.alloc (.cells #[.int .i64 (n : Int), .int .i64 (c : Int), .slice (some ⟨g, 0, none⟩) (n * c) (n * c)] 27) = x := ⟨_, rfl⟩
    have hw4' : w3.alloc (.cells (mcells n c (some ⟨g, 0, none⟩) (n * c) (n * c)) 27) = w4 := hw4
    rw [hw4', hgm] at H3
    rw [hw4, hgm]
    clear hw4 hw4' hgm
    go_loopw [38] (fun i wr => ∃ j : Nat, i = .int .i64 (j : Int) ∧ j ≤ n ∧ (∀ i, i < j → 0 ≤ ks.getD i 0 ∧ ks.getD i 0 < (r : Int)) ∧ WS w [(gm, 27, mcells n c (some ⟨g, 0, none⟩) (n * c) (n * c)), (g0, 27, #[.int .i64 0, .int .i64 0, .slice none 0 0]), (ga, 27, mcells r c A nn cap)] g (n * c) n c (pickUp m ks j) wr) (fun i _ => n - (intOf i).toNat)
    case atStart => exact ⟨0, rfl, Nat.zero_le _, fun i hi => absurd hi (Nat.not_lt_zero _), H3.out.congr fun x _ y _ => by unfold pickUp; rw [if_neg (by omega)]⟩
    case round =>
      obtain ⟨j, rfl, hj, hin, h⟩ := hrel
      have H4 := Lib.hid h
      have HIN := Lib.hid hin
      clear h H3 hin
      obtain ⟨w5, rfl⟩ : ∃ w5 : World, w5 = wr := ⟨_, rfl⟩
      by_cases hjn : j < n
      · have hj1 : (j : Int) < (n : Int) := by omega
        have hj0 : (0 : Int) ≤ (j : Int) := by omega
        have hwj : IntKind.i64.wrap ((j : Int) + 1) = ((j + 1 : Nat) : Int) := by have := HN.out.1.2.2; rw [IntWalk.i64_in _ (by omega)]; omega
        have HJ := Lib.hid hjn
        have hjl : j < (ks.map i64v).length := by rw [List.length_map, HN.out.2.1]; exact hjn
        obtain ⟨kb, ko, rfl, -, -⟩ := HK.out.at_ (k := j) hjl
        obtain ⟨v, hv⟩ : ∃ v, ks.getD j 0 = v := ⟨_, rfl⟩
        have HV := Lib.hid (show ∀ W : World, Below w.heap.size w W → W.cell? ⟨kb, ko + j, none⟩ = some (.int .i64 v) from fun W hW => by
          obtain ⟨b', o', e', _, hc⟩ := (HK.out.below hW).at_ (k := j) hjl
          injection e' with e'; injection e' with e1 e2; subst e1; subst e2
          rw [hc, List.getElem_map, ← hv, List.getD_eq_getElem?_getD, List.getElem?_eq_getElem (by rw [HN.out.2.1]; exact hjn)]; rfl)
        have HVE := Lib.hid hv
        have HVM := Lib.hid (show v ∈ ks from by rw [← hv, List.getD_eq_getElem?_getD, List.getElem?_eq_getElem (by rw [HN.out.2.1]; exact hjn)]; exact List.getElem_mem _)
        clear hv hjl
        obtain ⟨⟨a0, a1, a2⟩, _⟩ := H4.out.cells (.tail _ (.tail _ (.head _)))
        have hv0 := HV.out _ H4.out.below
        by_cases hvin : 0 ≤ v ∧ v < (r : Int)
        · obtain ⟨k, rfl⟩ : ∃ k : Nat, v = (k : Int) := ⟨v.toNat, by omega⟩
          have hkr : k < r := by omega
          have hk0 : ¬ (k : Int) < 0 := by omega
          have hk1 : ¬ (r : Int) ≤ (k : Int) := by omega
          have HKR := Lib.hid hkr
          have HMJ := Lib.hid (show pickM m ks j = m k from by unfold pickM; rw [HVE.out]; rfl)
          clear hvin hkr
          go_wp2_with fail
          clear a0 a1 a2 hv0
          refine wp_region_noPanic ?_
          refine wp_heldG (fun w' => (w'.cell? ⟨gm, 0, none⟩ = some (.int .i64 (n : Int)) ∧ w'.cell? ⟨gm, 1, none⟩ = some (.int .i64 (c : Int)) ∧ w'.cell? ⟨gm, 2, none⟩ = some (.slice (some ⟨g, 0, none⟩) (n * c) (n * c))) ∧ (w'.cell? ⟨ga, 0, none⟩ = some (.int .i64 (r : Int)) ∧ w'.cell? ⟨ga, 1, none⟩ = some (.int .i64 (c : Int)) ∧ w'.cell? ⟨ga, 2, none⟩ = some (.slice A nn cap))) [] (by kernel_rfl) ?hs0 ?rg0
          case hs0 =>
            have h := H4.out.keep (nextN (Mem.start w5) 1)
            exact ⟨(h.cells (.head _)).1, (h.cells (.tail _ (.tail _ (.head _)))).1⟩
          case rg0 =>
          intro hHeld
          refine tkG 0 ⟨some 52, .load 27 (.tmp 6), 27, _, #[], none⟩ (v := ?_) ?_ (by assumption) ?_
          rotate_left
          · intro w hSw
            try dsimp only at hSw
            obtain ⟨⟨k0, k1, k2⟩, ⟨l0, l1, l2⟩⟩ := hSw
            go_simp
            try with_reducible rfl
          try simp only [Act.put, List.setIfInBounds_toArray, List.set_cons_zero, List.set_cons_succ]
          refine puG 1 ⟨some 53, .move (.tmp 7), 3, _, #[], none⟩ (v := ?_) ?_ (fun _ => by assumption) ?_
          rotate_left
          · intro w hSw
            try dsimp only at hSw
            obtain ⟨⟨k0, k1, k2⟩, ⟨l0, l1, l2⟩⟩ := hSw
            go_simp
            try with_reducible rfl
          try simp only [Act.put, List.setIfInBounds_toArray, List.set_cons_zero, List.set_cons_succ]
          refine tkG 3 ⟨some 55, .load 27 (.tmp 2), 27, _, #[], none⟩ (v := ?_) ?_ (by assumption) ?_
          rotate_left
          · intro w hSw
            try dsimp only at hSw
            obtain ⟨⟨k0, k1, k2⟩, ⟨l0, l1, l2⟩⟩ := hSw
            go_simp
            try with_reducible rfl
          try simp only [Act.put, List.setIfInBounds_toArray, List.set_cons_zero, List.set_cons_succ]
          refine puG 4 ⟨some 56, .move (.tmp 8), 3, _, #[], none⟩ (v := ?_) ?_ (fun _ => by assumption) ?_
          rotate_left
          · intro w hSw
            try dsimp only at hSw
            obtain ⟨⟨k0, k1, k2⟩, ⟨l0, l1, l2⟩⟩ := hSw
            go_simp
            try with_reducible rfl
          try simp only [Act.put, List.setIfInBounds_toArray, List.set_cons_zero, List.set_cons_succ]
          refine onG 2 ⟨some 54, .call { callee := Callee.value (Operand.func 49), args := #[.tmp 52, .tmp 53], argTypes := #[27, 3] }, 22, _, #[⟨0, .data⟩, ⟨1, .data⟩], none⟩ (fun K hK => ?_)
          have H5 := Lib.hid (show WS w [(gm, 27, mcells n c (some ⟨g, 0, none⟩) (n * c) (n * c)), (g0, 27, #[.int .i64 0, .int .i64 0, .slice none 0 0]), (ga, 27, mcells r c A nn cap)] g (n * c) n c (pickUp m ks j) w5.drew from H4.out.keep (nextN (Mem.start w5) 1))
          go_simp
          refine (row_any _ n c j (some ⟨g, 0, none⟩) (n * c) (n * c) HJ.out (by have := HN.out.1.2.2; omega) rfl (by have h1 : n * c ≤ 100 * 100 := Nat.mul_le_mul HN.out.1.2.2 HN.out.1.2.1; omega) (Nat.le_refl _)).mono ?_
          rintro e w6 ⟨rfl, hb⟩
          have H6 := Lib.hid (H5.out.keep hb)
          clear hb
          rw [rowA_at]
          try dsimp only
          refine hK.out _ _ ?_ (fun hHeld => ?_)
          · intro _
            try dsimp only
            exact ⟨(H6.out.cells (.head _)).1, (H6.out.cells (.tail _ (.tail _ (.head _)))).1⟩
          clear hK K
          try simp only [Act.put, List.setIfInBounds_toArray, List.set_cons_zero, List.set_cons_succ]
          have hHeld := hHeld (by kernel_rfl)
          refine onG 5 ⟨some 57, .call { callee := Callee.value (Operand.func 49), args := #[.tmp 55, .tmp 56], argTypes := #[27, 3] }, 22, _, #[⟨3, .data⟩, ⟨4, .data⟩, ⟨2, .chain⟩], none⟩ (fun K hK => ?_)
          go_simp
          refine (row_any _ r c k A nn cap HKR.out (by have := HN.out.1.1; omega) HN.out.2.2.1 (by have h1 : r * c ≤ 100 * 100 := Nat.mul_le_mul HN.out.1.1 HN.out.1.2.1; have := HN.out.2.2.1; omega) HN.out.2.2.2).mono ?_
          rintro e w8 ⟨rfl, hb⟩
          have H8 := Lib.hid (H6.out.keep hb)
          clear hb
          try dsimp only
          refine hK.out _ _ ?_ (fun hHeld => ?_)
          · intro _
            try dsimp only
            exact ⟨(H8.out.cells (.head _)).1, (H8.out.cells (.tail _ (.tail _ (.head _)))).1⟩
          clear hK K
          try simp only [Act.put, List.setIfInBounds_toArray, List.set_cons_zero, List.set_cons_succ]
          have hHeld := hHeld (by kernel_rfl)
          refine onG 6 ⟨some 58, .call { callee := Callee.builtin Builtin.copy, args := #[.tmp 54, .tmp 57], argTypes := #[22, 22] }, 3, _, #[⟨2, .data⟩, ⟨5, .data⟩, ⟨5, .chain⟩], none⟩ (fun K hK => ?_)
          have hob := own_blk H8.out.row (by rw [List.length_map, flat_len])
          refine step_copyin w8 rfl _ _ rfl g (j * c) c c (rowA A c k) c c (row c (m k)) 5 _ rfl rfl (by rw [row_len]; exact (Nat.min_self c).symm) hob.1 (by rw [row_len]; simp [flat_len]; exact idx_le HJ.out) ((rowB (HA.out.below H8.out.below) HKR.out).up H8.out.below.size) ?_
          intro w9 kk hblk hfr hsz
          have H7 := Lib.hid (show WS w [(gm, 27, mcells n c (some ⟨g, 0, none⟩) (n * c) (n * c)), (g0, 27, #[.int .i64 0, .int .i64 0, .slice none 0 0]), (ga, 27, mcells r c A nn cap)] g (n * c) n c (pickUp m ks (j + 1)) w9 from H8.out.copied hfr (by
            have h := hblk
            rw [row_len] at h
            have e : ((((flat n c (pickUp m ks j)).map u8v).toArray.toList.take (j * c) ++ (row c (m k)).map u8v ++ ((flat n c (pickUp m ks j)).map u8v).toArray.toList.drop (j * c + c)).toArray : Array Value) = ((flat n c (pickUp m ks (j + 1))).map u8v).toArray := by
              rw [← pickUp_next HMJ.out HJ.out, List.map_append, List.map_append, List.map_take, List.map_drop]
            rw [e] at h
            exact h))
          clear hblk hfr hsz hob
          try dsimp only
          refine hK.out _ _ ?_ (fun hHeld => ?_)
          · intro _
            try dsimp only
            exact ⟨(H7.out.cells (.head _)).1, (H7.out.cells (.tail _ (.tail _ (.head _)))).1⟩
          clear hK K
          try simp only [Act.put, List.setIfInBounds_toArray, List.set_cons_zero, List.set_cons_succ]
          have hHeld := hHeld (by kernel_rfl)
          refine wpAnyG_done (by kernel_rfl) ?_ _
          refine NoPanic.normal ?_
          clear hHeld
          go_wp2_with fail
          go_roundw
          case rel =>
            refine ⟨j + 1, by simp, HJ.out, fun i hi => ?_, H7.out⟩
            by_cases e : i = j
            · subst e
              rw [HVE.out]; have := HKR.out; omega
            · exact HIN.out i (by omega)
          case measure => simp [intOf]; omega
        · have HBAD := Lib.hid (show allIn r ks = false from by
            unfold allIn
            rw [List.all_eq_false]
            exact ⟨v, HVM.out, by simp only [decide_eq_true_eq]; exact hvin⟩)
          by_cases hv1 : v < 0
          · clear hvin
            obtain ⟨⟨d0, d1, d2⟩, f0, f1, f2⟩ := H4.out.cells (.tail _ (.head _))
            have hfin := H4.out.bs.end_ (.tail _ (.head _)) (.int .i64 0) (.int .i64 0) (.slice none 0 0)
            go_wp2_with fail
            obtain ⟨h1, h2, e0, e1, e2⟩ := hfin
            refine bodyPost_ret (v := .tuple #[.agg #[.int .i64 0, .int .i64 0, .slice none 0 0], .int .i64 2]) (by simp [results, Try.results28, go_sem, e0, e1, e2]) rfl ?_
            exact ⟨fun h => (by rw [HBAD.out] at h; cases h), fun _ => ⟨rfl, h1⟩⟩
          · have hv2 : (r : Int) ≤ v := by omega
            clear hvin
            obtain ⟨⟨d0, d1, d2⟩, f0, f1, f2⟩ := H4.out.cells (.tail _ (.head _))
            have hfin := H4.out.bs.end_ (.tail _ (.head _)) (.int .i64 0) (.int .i64 0) (.slice none 0 0)
            go_wp2_with fail
            obtain ⟨h1, h2, e0, e1, e2⟩ := hfin
            refine bodyPost_ret (v := .tuple #[.agg #[.int .i64 0, .int .i64 0, .slice none 0 0], .int .i64 2]) (by simp [results, Try.results28, go_sem, e0, e1, e2]) rfl ?_
            exact ⟨fun h => (by rw [HBAD.out] at h; cases h), fun _ => ⟨rfl, h1⟩⟩
      · obtain rfl : n = j := by omega
        have HOK := Lib.hid (show allIn r ks = true from by
          unfold allIn
          rw [List.all_eq_true]
          intro v hv
          obtain ⟨i, hi, e⟩ := List.mem_iff_getElem.1 hv
          have h := HIN.out i (by rw [← HN.out.2.1]; exact hi)
          rw [List.getD_eq_getElem?_getD, List.getElem?_eq_getElem hi, Option.getD_some, e] at h
          exact decide_eq_true h)
        obtain ⟨⟨c0, c1, c2'⟩, _⟩ := H4.out.cells (.head _)
        obtain ⟨⟨d0, d1, d2⟩, f0, f1, f2⟩ := H4.out.cells (.tail _ (.head _))
        have hfin := H4.out.end_ (.tail _ (.head _)) (.int .i64 (n : Int)) (.int .i64 (c : Int)) (.slice (some ⟨g, 0, none⟩) (n * c) (n * c))
        go_wp2_with fail
        obtain ⟨h1, h2, e0, e1, e2⟩ := hfin
        refine bodyPost_ret (v := .tuple #[.agg #[.int .i64 (n : Int), .int .i64 (c : Int), .slice (some ⟨g, 0, none⟩) (n * c) (n * c)], .int .i64 0]) (by simp [results, Try.results28, go_sem, e0, e1, e2]) rfl ?_
        refine ⟨fun _ => ⟨some ⟨g, 0, none⟩, n * c, rfl, Nat.le_refl _, ?_, h1⟩, fun h => ?_⟩
        · rw [flat_congr (m' := pickM m ks) fun a ha b hb => by unfold pickUp; rw [if_pos ha]] at h2
          exact h2
        · rw [HOK.out] at h; cases h
end Go.Proofs.Ythdapoipfnnaeaa.MxW
/- The examples of chapter 05 hold. -/
namespace Go.Proofs.Ythdapoipfnnaeaa.MxW
open Go.RowKit Go.Shelf Mem Gf FdW Mx Rng
open PlW (In)
set_option linter.unusedVariables false
set_option linter.unusedSectionVars false
attribute [local go_sem] Oper.semAt_some wide_fn
set_option maxRecDepth 100000 in
set_option maxHeartbeats 4000000 in
theorem works_any (w : World) : Calls Try.prog 11 #[] w fun e w' => e = .returned (.bool true) ∧ Below w.heap.size w w' := by
  have H0 := Lib.hid (MS.start w)
  go_enter Try.func11, Try.ntmps11
  go_wp2_with fail
  refine (newR H0.out).mono ?_
  rintro e w1 ⟨rfl, h⟩
  have H1 := Lib.hid h
  clear h
  have hb1 := Mx_build4 w1 1 2 0 1
  have L1 := Lib.hid (show MS _ _ (⟨some ⟨w1.heap.size, 0, none⟩, [1, 2, 0, 1], 4⟩ :: _) _ (w1.alloc (.cells #[.int .u8 1, .int .u8 2, .int .u8 0, .int .u8 1] 5)) from by have h := H1.out.lit #[.int .u8 1, .int .u8 2, .int .u8 0, .int .u8 1] [1, 2, 0, 1] (by simp [maxLen]) rfl 4 (by decide); (try simp only [World.size_alloc] at h); exact h)
  have hb2 := Mx_build2 (w1.alloc (.cells #[.int .u8 1, .int .u8 2, .int .u8 0, .int .u8 1] 5)) 3 4
  have L2 := Lib.hid (show MS _ _ (⟨some ⟨w1.heap.size + 1, 0, none⟩, [3, 4], 2⟩ :: _) _ ((w1.alloc (.cells #[.int .u8 1, .int .u8 2, .int .u8 0, .int .u8 1] 5)).alloc (.cells #[.int .u8 3, .int .u8 4] 5)) from by have h := L1.out.lit #[.int .u8 3, .int .u8 4] [3, 4] (by simp [maxLen]) rfl 2 (by decide); (try simp only [World.size_alloc] at h); exact h)
  go_wp2_with fail
  clear hb1 hb2
  have H2 := L2
  clear L1 L2
  generalize ((w1.alloc (.cells #[.int .u8 1, .int .u8 2, .int .u8 0, .int .u8 1] 5)).alloc (.cells #[.int .u8 3, .int .u8 4] 5)) = w2 at *
  refine (mulR H2.out (r := 2) (c := 2) (d := 1) (.tail _ (.head _)) (.head _) rfl rfl ⟨rfl, rfl, rfl, rfl⟩ (by decide) ((flat_ent rfl).symm) ((flat_ent rfl).symm) 2 1 2 ⟨rfl, rfl, rfl⟩ (l := [11, 4]) (by decide +kernel)).mono ?_
  rintro e w3 ⟨A3, c3, rfl, h⟩
  have H3 := Lib.hid h
  clear h
  have L3 := Lib.hid (show MS _ _ _ ((w3.heap.size, #[.int .i64 2, .int .i64 1, .slice A3 2 c3]) :: _) (w3.alloc (.cells #[.int .i64 2, .int .i64 1, .slice A3 2 c3] 27)) from by have h := H3.out.put #[.int .i64 2, .int .i64 1, .slice A3 2 c3]; (try simp only [World.size_alloc] at h); exact h)
  have hb4 := Mx_build4 (w3.alloc (.cells #[.int .i64 2, .int .i64 1, .slice A3 2 c3] 27)) 1 1 1 1
  have L4 := Lib.hid (show MS _ _ (⟨some ⟨w3.heap.size + 1, 0, none⟩, [1, 1, 1, 1], 4⟩ :: _) _ ((w3.alloc (.cells #[.int .i64 2, .int .i64 1, .slice A3 2 c3] 27)).alloc (.cells #[.int .u8 1, .int .u8 1, .int .u8 1, .int .u8 1] 5)) from by have h := L3.out.lit #[.int .u8 1, .int .u8 1, .int .u8 1, .int .u8 1] [1, 1, 1, 1] (by simp [maxLen]) rfl 4 (by decide); (try simp only [World.size_alloc] at h); exact h)
  go_wp2_with fail
  clear hb4
  have H4 := L4
  clear L3 L4
  generalize ((w3.alloc (.cells #[.int .i64 2, .int .i64 1, .slice A3 2 c3] 27)).alloc (.cells #[.int .u8 1, .int .u8 1, .int .u8 1, .int .u8 1] 5)) = w4 at *
  refine (rankR H4.out (r := 2) (c := 2) (.head _) rfl ⟨rfl, rfl⟩ (by decide) ((flat_ent rfl).symm) 1 (by decide +kernel)).mono ?_
  rintro e w5 ⟨rfl, h⟩
  have H5 := Lib.hid h
  clear h
  have hb5 := Mx_build4 w5 1 1 1 1
  have L5 := Lib.hid (show MS _ _ (⟨some ⟨w5.heap.size, 0, none⟩, [1, 1, 1, 1], 4⟩ :: _) _ (w5.alloc (.cells #[.int .u8 1, .int .u8 1, .int .u8 1, .int .u8 1] 5)) from by have h := H5.out.lit #[.int .u8 1, .int .u8 1, .int .u8 1, .int .u8 1] [1, 1, 1, 1] (by simp [maxLen]) rfl 4 (by decide); (try simp only [World.size_alloc] at h); exact h)
  go_wp2_with fail
  clear hb5
  have H6 := L5
  clear L5
  generalize (w5.alloc (.cells #[.int .u8 1, .int .u8 1, .int .u8 1, .int .u8 1] 5)) = w6 at *
  refine (inv1R H6.out (r := 2) (.head _) rfl ⟨rfl, rfl⟩ (by decide) ((flat_ent rfl).symm) (by decide +kernel)).mono ?_
  rintro e w7 ⟨rfl, h⟩
  have H7 := Lib.hid h
  clear h
  have L6 := Lib.hid (show MS _ _ _ ((w7.heap.size, #[.int .i64 0, .int .i64 0, .slice none 0 0]) :: _) (w7.alloc (.cells #[.int .i64 0, .int .i64 0, .slice none 0 0] 27)) from by have h := H7.out.put #[.int .i64 0, .int .i64 0, .slice none 0 0]; (try simp only [World.size_alloc] at h); exact h)
  have hb7 := Mx_build4 (w7.alloc (.cells #[.int .i64 0, .int .i64 0, .slice none 0 0] 27)) 1 1 0 1
  have L7 := Lib.hid (show MS _ _ (⟨some ⟨w7.heap.size + 1, 0, none⟩, [1, 1, 0, 1], 4⟩ :: _) _ ((w7.alloc (.cells #[.int .i64 0, .int .i64 0, .slice none 0 0] 27)).alloc (.cells #[.int .u8 1, .int .u8 1, .int .u8 0, .int .u8 1] 5)) from by have h := L6.out.lit #[.int .u8 1, .int .u8 1, .int .u8 0, .int .u8 1] [1, 1, 0, 1] (by simp [maxLen]) rfl 4 (by decide); (try simp only [World.size_alloc] at h); exact h)
  go_wp2_with fail
  clear hb7
  have H8 := L7
  clear L6 L7
  generalize ((w7.alloc (.cells #[.int .i64 0, .int .i64 0, .slice none 0 0] 27)).alloc (.cells #[.int .u8 1, .int .u8 1, .int .u8 0, .int .u8 1] 5)) = w8 at *
  refine (invR H8.out (r := 2) (.head _) rfl ⟨rfl, rfl⟩ (by decide) ((flat_ent rfl).symm) (by decide +kernel) 2 4 ⟨rfl, rfl⟩ (l := [1, 1, 0, 1]) (by decide +kernel)).mono ?_
  rintro e w9 ⟨A9, c9, rfl, h⟩
  have H9 := Lib.hid h
  clear h
  have L8 := Lib.hid (show MS _ _ _ ((w9.heap.size, #[.int .i64 2, .int .i64 2, .slice A9 4 c9]) :: _) (w9.alloc (.cells #[.int .i64 2, .int .i64 2, .slice A9 4 c9] 27)) from by have h := H9.out.put #[.int .i64 2, .int .i64 2, .slice A9 4 c9]; (try simp only [World.size_alloc] at h); exact h)
  have hb9 := Mx_build3 (w9.alloc (.cells #[.int .i64 2, .int .i64 2, .slice A9 4 c9] 27)) 1 2 3
  have L9 := Lib.hid (show MS _ _ (⟨some ⟨w9.heap.size + 1, 0, none⟩, [1, 2, 3], 3⟩ :: _) _ ((w9.alloc (.cells #[.int .i64 2, .int .i64 2, .slice A9 4 c9] 27)).alloc (.cells #[.int .u8 1, .int .u8 2, .int .u8 3] 5)) from by have h := L8.out.lit #[.int .u8 1, .int .u8 2, .int .u8 3] [1, 2, 3] (by simp [maxLen]) rfl 3 (by decide); (try simp only [World.size_alloc] at h); exact h)
  go_wp2_with fail
  clear hb9
  have H10 := L9
  clear L8 L9
  generalize ((w9.alloc (.cells #[.int .i64 2, .int .i64 2, .slice A9 4 c9] 27)).alloc (.cells #[.int .u8 1, .int .u8 2, .int .u8 3] 5)) = w10 at *
  refine (symR H10.out (r := 2) (.head _) (by simp [maxLen]) rfl rfl (by decide) rfl 4 rfl (l := [1, 2, 2, 3]) (by decide +kernel)).mono ?_
  rintro e w11 ⟨A11, c11, rfl, h⟩
  have H11 := Lib.hid h
  clear h
  have L10 := Lib.hid (show MS _ _ _ ((w11.heap.size, #[.int .i64 2, .int .i64 2, .slice A11 4 c11]) :: _) (w11.alloc (.cells #[.int .i64 2, .int .i64 2, .slice A11 4 c11] 27)) from by have h := H11.out.put #[.int .i64 2, .int .i64 2, .slice A11 4 c11]; (try simp only [World.size_alloc] at h); exact h)
  have hb11 := Mx_build2 (w11.alloc (.cells #[.int .i64 2, .int .i64 2, .slice A11 4 c11] 27)) 1 1
  have L11 := Lib.hid (show MS _ _ (⟨some ⟨w11.heap.size + 1, 0, none⟩, [1, 1], 2⟩ :: _) _ ((w11.alloc (.cells #[.int .i64 2, .int .i64 2, .slice A11 4 c11] 27)).alloc (.cells #[.int .u8 1, .int .u8 1] 5)) from by have h := L10.out.lit #[.int .u8 1, .int .u8 1] [1, 1] (by simp [maxLen]) rfl 2 (by decide); (try simp only [World.size_alloc] at h); exact h)
  have L12 := Lib.hid (show MS _ _ _ ((w11.heap.size + 1 + 1, #[.int .i64 2, .int .i64 1, .slice (some ⟨w11.heap.size + 1, 0, none⟩) 2 2]) :: _) (((w11.alloc (.cells #[.int .i64 2, .int .i64 2, .slice A11 4 c11] 27)).alloc (.cells #[.int .u8 1, .int .u8 1] 5)).alloc (.cells #[.int .i64 2, .int .i64 1, .slice (some ⟨w11.heap.size + 1, 0, none⟩) 2 2] 27)) from by have h := L11.out.put #[.int .i64 2, .int .i64 1, .slice (some ⟨w11.heap.size + 1, 0, none⟩) 2 2]; (try simp only [World.size_alloc] at h); exact h)
  obtain ⟨a13, b13, d13⟩ := L12.out.cells (.head _)
  have hb14 := Mx_build2 (((w11.alloc (.cells #[.int .i64 2, .int .i64 2, .slice A11 4 c11] 27)).alloc (.cells #[.int .u8 1, .int .u8 1] 5)).alloc (.cells #[.int .i64 2, .int .i64 1, .slice (some ⟨w11.heap.size + 1, 0, none⟩) 2 2] 27)) 5 5
  have L14 := Lib.hid (show MS _ _ (⟨some ⟨w11.heap.size + 1 + 1 + 1, 0, none⟩, [5, 5], 2⟩ :: _) _ ((((w11.alloc (.cells #[.int .i64 2, .int .i64 2, .slice A11 4 c11] 27)).alloc (.cells #[.int .u8 1, .int .u8 1] 5)).alloc (.cells #[.int .i64 2, .int .i64 1, .slice (some ⟨w11.heap.size + 1, 0, none⟩) 2 2] 27)).alloc (.cells #[.int .u8 5, .int .u8 5] 5)) from by have h := L12.out.lit #[.int .u8 5, .int .u8 5] [5, 5] (by simp [maxLen]) rfl 2 (by decide); (try simp only [World.size_alloc] at h); exact h)
  go_wp2_with fail
  clear hb11 a13 b13 d13 hb14
  have H12 := L14
  clear L10 L11 L12 L14
  generalize ((((w11.alloc (.cells #[.int .i64 2, .int .i64 2, .slice A11 4 c11] 27)).alloc (.cells #[.int .u8 1, .int .u8 1] 5)).alloc (.cells #[.int .i64 2, .int .i64 1, .slice (some ⟨w11.heap.size + 1, 0, none⟩) 2 2] 27)).alloc (.cells #[.int .u8 5, .int .u8 5] 5)) = w12 at *
  refine (solveR H12.out (r := 2) (c := 1) (d := 1) (.tail _ (.head _)) (.head _) rfl rfl ⟨rfl, rfl, rfl, rfl⟩ (by decide) ((flat_ent rfl).symm) ((flat_ent rfl).symm) (by decide +kernel) 1 1 1 ⟨rfl, rfl, rfl⟩ (l := [5]) (by decide +kernel)).mono ?_
  rintro e w13 ⟨A13, c13, rfl, h⟩
  have H13 := Lib.hid h
  clear h
  have L15 := Lib.hid (show MS _ _ _ ((w13.heap.size, #[.int .i64 1, .int .i64 1, .slice A13 1 c13]) :: _) (w13.alloc (.cells #[.int .i64 1, .int .i64 1, .slice A13 1 c13] 27)) from by have h := H13.out.put #[.int .i64 1, .int .i64 1, .slice A13 1 c13]; (try simp only [World.size_alloc] at h); exact h)
  obtain ⟨a16, b16, d16⟩ := L15.out.cells (.tail _ (.head _))
  have hb17 := Mx_build2 (w13.alloc (.cells #[.int .i64 1, .int .i64 1, .slice A13 1 c13] 27)) 5 6
  have L17 := Lib.hid (show MS _ _ (⟨some ⟨w13.heap.size + 1, 0, none⟩, [5, 6], 2⟩ :: _) _ ((w13.alloc (.cells #[.int .i64 1, .int .i64 1, .slice A13 1 c13] 27)).alloc (.cells #[.int .u8 5, .int .u8 6] 5)) from by have h := L15.out.lit #[.int .u8 5, .int .u8 6] [5, 6] (by simp [maxLen]) rfl 2 (by decide); (try simp only [World.size_alloc] at h); exact h)
  go_wp2_with fail
  clear a16 b16 d16 hb17
  have H14 := L17
  clear L15 L17
  generalize ((w13.alloc (.cells #[.int .i64 1, .int .i64 1, .slice A13 1 c13] 27)).alloc (.cells #[.int .u8 5, .int .u8 6] 5)) = w14 at *
  refine (solve1R H14.out (r := 2) (c := 1) (d := 1) (.tail _ (.tail _ (.tail _ (.head _)))) (.head _) rfl rfl ⟨rfl, rfl, rfl, rfl⟩ (by decide) ((flat_ent rfl).symm) ((flat_ent rfl).symm) (by decide +kernel)).mono ?_
  rintro e w15 ⟨rfl, h⟩
  have H15 := Lib.hid h
  clear h
  have L18 := Lib.hid (show MS _ _ _ ((w15.heap.size, #[.int .i64 0, .int .i64 0, .slice none 0 0]) :: _) (w15.alloc (.cells #[.int .i64 0, .int .i64 0, .slice none 0 0] 27)) from by have h := H15.out.put #[.int .i64 0, .int .i64 0, .slice none 0 0]; (try simp only [World.size_alloc] at h); exact h)
  obtain ⟨a19, b19, d19⟩ := L18.out.cells (.tail _ (.tail _ (.tail _ (.tail _ (.tail _ (.tail _ (.head _)))))))
  have hb20 := Mx_build2 (w15.alloc (.cells #[.int .i64 0, .int .i64 0, .slice none 0 0] 27)) 11 4
  have L20 := Lib.hid (show MS _ _ (⟨some ⟨w15.heap.size + 1, 0, none⟩, [11, 4], 2⟩ :: _) _ ((w15.alloc (.cells #[.int .i64 0, .int .i64 0, .slice none 0 0] 27)).alloc (.cells #[.int .u8 11, .int .u8 4] 5)) from by have h := L18.out.lit #[.int .u8 11, .int .u8 4] [11, 4] (by simp [maxLen]) rfl 2 (by decide); (try simp only [World.size_alloc] at h); exact h)
  go_wp2_with fail
  clear a19 b19 d19 hb20
  have H16 := L20
  clear L18 L20
  generalize ((w15.alloc (.cells #[.int .i64 0, .int .i64 0, .slice none 0 0] 27)).alloc (.cells #[.int .u8 11, .int .u8 4] 5)) = w16 at *
  refine (sameBytesR H16.out (.tail _ (.tail _ (.tail _ (.tail _ (.tail _ (.tail _ (.tail _ (.tail _ (.tail _ (.tail _ (.tail _ (.head _)))))))))))) rfl (.head _) rfl (v := true) (by decide)).mono ?_
  rintro e w' ⟨rfl, rfl⟩
  obtain ⟨a21, b21, d21⟩ := H16.out.cells (.tail _ (.tail _ (.tail _ (.tail _ (.head _)))))
  have hb22 := Mx_build4 w16 1 1 0 1
  have L22 := Lib.hid (show MS _ _ (⟨some ⟨w16.heap.size, 0, none⟩, [1, 1, 0, 1], 4⟩ :: _) _ (w16.alloc (.cells #[.int .u8 1, .int .u8 1, .int .u8 0, .int .u8 1] 5)) from by have h := H16.out.lit #[.int .u8 1, .int .u8 1, .int .u8 0, .int .u8 1] [1, 1, 0, 1] (by simp [maxLen]) rfl 4 (by decide); (try simp only [World.size_alloc] at h); exact h)
  go_wp2_with fail
  clear a21 b21 d21 hb22
  have H17 := L22
  clear L22
  generalize (w16.alloc (.cells #[.int .u8 1, .int .u8 1, .int .u8 0, .int .u8 1] 5)) = w17 at *
  refine (sameBytesR H17.out (.tail _ (.tail _ (.tail _ (.tail _ (.tail _ (.tail _ (.tail _ (.tail _ (.head _))))))))) rfl (.head _) rfl (v := true) (by decide)).mono ?_
  rintro e w' ⟨rfl, rfl⟩
  have hb23 := Mx_build2 w17 1 2
  have L23 := Lib.hid (show MS _ _ (⟨some ⟨w17.heap.size, 0, none⟩, [1, 2], 2⟩ :: _) _ (w17.alloc (.cells #[.int .u8 1, .int .u8 2] 5)) from by have h := H17.out.lit #[.int .u8 1, .int .u8 2] [1, 2] (by simp [maxLen]) rfl 2 (by decide); (try simp only [World.size_alloc] at h); exact h)
  go_wp2_with fail
  clear hb23
  have H18 := L23
  clear L23
  generalize (w17.alloc (.cells #[.int .u8 1, .int .u8 2] 5)) = w18 at *
  refine (powR H18.out (c := 3) (.head _) rfl rfl (by decide) 2 6 ⟨rfl, rfl⟩ (l := [1, 1, 1, 1, 2, 4]) (by decide +kernel)).mono ?_
  rintro e w19 ⟨A19, c19, rfl, h⟩
  have H19 := Lib.hid h
  clear h
  have hfd := fun W => Mx_field2 W 2 3 A19 6 c19
  have hb24 := Mx_build6 w19 1 1 1 1 2 4
  have L24 := Lib.hid (show MS _ _ (⟨some ⟨w19.heap.size, 0, none⟩, [1, 1, 1, 1, 2, 4], 6⟩ :: _) _ (w19.alloc (.cells #[.int .u8 1, .int .u8 1, .int .u8 1, .int .u8 1, .int .u8 2, .int .u8 4] 5)) from by have h := H19.out.lit #[.int .u8 1, .int .u8 1, .int .u8 1, .int .u8 1, .int .u8 2, .int .u8 4] [1, 1, 1, 1, 2, 4] (by simp [maxLen]) rfl 6 (by decide); (try simp only [World.size_alloc] at h); exact h)
  go_wp2_with fail
  clear hb24
  have H20 := L24
  clear L24
  generalize (w19.alloc (.cells #[.int .u8 1, .int .u8 1, .int .u8 1, .int .u8 1, .int .u8 2, .int .u8 4] 5)) = w20 at *
  refine (sameBytesR H20.out (.tail _ (.head _)) rfl (.head _) rfl (v := true) (by decide)).mono ?_
  rintro e w' ⟨rfl, rfl⟩
  clear hfd
  obtain ⟨a25, b25, d25⟩ := H20.out.cells (.tail _ (.tail _ (.tail _ (.head _))))
  have hb26 := Mx_build4 w20 1 2 2 3
  have L26 := Lib.hid (show MS _ _ (⟨some ⟨w20.heap.size, 0, none⟩, [1, 2, 2, 3], 4⟩ :: _) _ (w20.alloc (.cells #[.int .u8 1, .int .u8 2, .int .u8 2, .int .u8 3] 5)) from by have h := H20.out.lit #[.int .u8 1, .int .u8 2, .int .u8 2, .int .u8 3] [1, 2, 2, 3] (by simp [maxLen]) rfl 4 (by decide); (try simp only [World.size_alloc] at h); exact h)
  go_wp2_with fail
  clear a25 b25 d25 hb26
  have H21 := L26
  clear L26
  generalize (w20.alloc (.cells #[.int .u8 1, .int .u8 2, .int .u8 2, .int .u8 3] 5)) = w21 at *
  refine (sameBytesR H21.out (.tail _ (.tail _ (.tail _ (.tail _ (.tail _ (.tail _ (.tail _ (.tail _ (.tail _ (.tail _ (.head _))))))))))) rfl (.head _) rfl (v := true) (by decide)).mono ?_
  rintro e w' ⟨rfl, rfl⟩
  obtain ⟨a27, b27, d27⟩ := H21.out.cells (.tail _ (.head _))
  have hb28 := Mx_build1 w21 5
  have L28 := Lib.hid (show MS _ _ (⟨some ⟨w21.heap.size, 0, none⟩, [5], 1⟩ :: _) _ (w21.alloc (.cells #[.int .u8 5] 5)) from by have h := H21.out.lit #[.int .u8 5] [5] (by simp [maxLen]) rfl 1 (by decide); (try simp only [World.size_alloc] at h); exact h)
  go_wp2_with fail
  clear a27 b27 d27 hb28
  have H22 := L28
  clear L28
  generalize (w21.alloc (.cells #[.int .u8 5] 5)) = w22 at *
  refine (sameBytesR H22.out (.tail _ (.tail _ (.tail _ (.tail _ (.tail _ (.tail _ (.tail _ (.tail _ (.head _))))))))) rfl (.head _) rfl (v := true) (by decide)).mono ?_
  rintro e w' ⟨rfl, rfl⟩
  go_wp2_with fail
  go_ret
  exact ⟨rfl, H22.out.below⟩
end Go.Proofs.Ythdapoipfnnaeaa.MxW
/- What the document's functions and Pick leave of a law's state. -/
namespace Go.Proofs.Ythdapoipfnnaeaa.MxW
open Go.RowKit Go.Shelf Mem Gf FdW Mx Rng
open PlW (In)
set_option linter.unusedVariables false
set_option linter.unusedSectionVars false
attribute [local go_sem] Oper.semAt_some wide_fn

set_option maxRecDepth 100000 in
set_option maxHeartbeats 4000000 in
theorem pick_bad (w : World) (R C : Int) (A : Option Addr) (nn cap : Nat) (K : Option Addr) (n ck : Nat) (hrt : rightB R C nn = false) :
    Calls Try.prog 28 #[.agg #[.int .i64 R, .int .i64 C, .slice A nn cap], .slice K n ck] w (ErrM w 50) := by
  have HR := Lib.hid hrt
  have H0 := Lib.hid (((BS.start w).put #[.int .i64 R, .int .i64 C, .slice A nn cap] 27 (by decide)).put #[.int .i64 0, .int .i64 0, .slice none 0 0] 27 (by decide))
  go_enter Try.func28, Try.ntmps28
  obtain ⟨⟨a0, a1, a2⟩, _⟩ := H0.out.cells (.tail _ (.head _))
  go_wp2_with fail
  clear a0 a1 a2
  generalize (w.alloc (.cells #[.int .i64 R, .int .i64 C, .slice A nn cap] 27)).alloc (.cells #[.int .i64 0, .int .i64 0, .slice none 0 0] 27) = w1 at *
  rw [World.size_alloc] at H0
  refine (right_any w1 _ _ A nn cap).mono ?_
  rintro e w2 ⟨rfl, hb⟩
  rw [HR.out]
  have H1 := Lib.hid (H0.out.keep hb)
  clear hb H0
  obtain ⟨⟨d0, d1, d2⟩, f0, f1, f2⟩ := H1.out.cells (.head _)
  have hfin := H1.out.end_ (.head _) (.int .i64 0) (.int .i64 0) (.slice none 0 0)
  go_wp2_with fail
  obtain ⟨h1, h2, e0, e1, e2⟩ := hfin
  exact bodyPost_ret (v := .tuple #[.agg #[.int .i64 0, .int .i64 0, .slice none 0 0], .int .i64 50]) (by simp [results, Try.results28, go_sem, e0, e1, e2]) rfl ⟨rfl, h1⟩
set_option maxRecDepth 100000 in
set_option maxHeartbeats 4000000 in
theorem rpick_bad (w : World) (R C : Int) (A : Option Addr) (nn cap : Nat) (K : Option Addr) (n ck : Nat) (hrt : rightB R C nn = false) :
    Calls Try.prog 29 #[.agg #[.int .i64 R, .int .i64 C, .slice A nn cap], .slice K n ck] w (ErrM w 50) := by
  have HR := Lib.hid hrt
  have H0 := Lib.hid (((BS.start w).put #[.int .i64 R, .int .i64 C, .slice A nn cap] 38 (by decide)).put #[.int .i64 0, .int .i64 0, .slice none 0 0] 38 (by decide))
  go_enter Try.func29, Try.ntmps29
  obtain ⟨⟨a0, a1, a2⟩, _⟩ := H0.out.cells (.tail _ (.head _))
  go_wp2_with fail
  clear a0 a1 a2
  generalize (w.alloc (.cells #[.int .i64 R, .int .i64 C, .slice A nn cap] 38)).alloc (.cells #[.int .i64 0, .int .i64 0, .slice none 0 0] 38) = w1 at *
  rw [World.size_alloc] at H0
  refine (rright_any w1 _ _ A nn cap).mono ?_
  rintro e w2 ⟨rfl, hb⟩
  rw [HR.out]
  have H1 := Lib.hid (H0.out.keep hb)
  clear hb H0
  obtain ⟨⟨d0, d1, d2⟩, f0, f1, f2⟩ := H1.out.cells (.head _)
  have hfin := H1.out.end_ (.head _) (.int .i64 0) (.int .i64 0) (.slice none 0 0)
  go_wp2_with fail
  obtain ⟨h1, h2, e0, e1, e2⟩ := hfin
  exact bodyPost_ret (v := .tuple #[.agg #[.int .i64 0, .int .i64 0, .slice none 0 0], .int .i64 50]) (by simp [results, Try.results29, go_sem, e0, e1, e2]) rfl ⟨rfl, h1⟩
section
variable {w0 w w' : World} {p : Option Nat} {R : List Rw} {X : List (Nat × Array Value)}
variable (h : MS w0 p R X w)
include h
variable {A B K : Option Addr} {a b : List UInt8} {ks : List Int} {ca cb ck n m r c d : Nat} {ma mb : M} {R1 C1 R2 C2 : Int}
theorem plainR : Calls Try.prog 20 #[.agg #[.int .i64 R1, .int .i64 C1, .slice A n ca]] w (SayM w0 p R X (.agg #[.int .i64 R1, .int .i64 C1, .slice A n ca])) :=
  (plain_any w R1 C1 A n ca).mono fun e w' ⟨he, hb⟩ => ⟨he, h.keep hb⟩
theorem lsameR (ha : ⟨A, a, ca⟩ ∈ R) (hn : a.length = n) (hb : ⟨B, b, cb⟩ ∈ R) (hm : b.length = m) {v : Bool} (hv : sameB R1 C1 R2 C2 a b = v) :
    Calls Try.prog 23 #[.agg #[.int .i64 R1, .int .i64 C1, .slice A n ca], .agg #[.int .i64 R2, .int .i64 C2, .slice B m cb]] w (SayM w0 p R X (.bool v)) := by
  subst hv
  exact (lsame_any w R1 C1 R2 C2 A B a b n ca m cb hn hm (h.row _ ha).1 (h.row _ hb).1).mono fun e w' ⟨he, hb⟩ => ⟨he, h.keep hb⟩
theorem newT {e : Ending} {m : M} {Ro Co : Int} {no : Nat} {l : List UInt8} (ho : Ro = r ∧ Co = c ∧ no = r * c) (hl : flat r c m = l) (k : NewT w r c m e w') : MatR w0 p R X Ro Co no l e w' := by
  obtain ⟨rfl, rfl, rfl⟩ := ho
  subst hl
  obtain ⟨A', cap, he, hle, hnw, hb⟩ := k
  exact ⟨A', cap, he, (h.keep hb).new hnw h.lt (by rw [flat_len]; exact hle)⟩
theorem pickR (hKs : Cells w0 w0.heap.size K (ks.map i64v)) (ha : ⟨A, a, ca⟩ ∈ R) (hk : ks.length = n) (hn : m = r * c) (hR : R1 = r ∧ C1 = c) (hd : r ≤ 100 ∧ c ≤ 100 ∧ n ≤ 100) (hA : a = flat r c ma) (hin : allIn r ks = true) (Ro Co : Int) (no : Nat) (ho : Ro = n ∧ Co = c ∧ no = n * c) {l : List UInt8} (hl : flat n c (pickM ma ks) = l) :
    Calls Try.prog 28 #[.agg #[.int .i64 R1, .int .i64 C1, .slice A m ca], .slice K n ck] w (MatR w0 p R X Ro Co no l) := by
  obtain ⟨rfl, rfl⟩ := hR
  subst hA
  have k1 := (h.row _ ha).2.2
  dsimp only at k1
  rw [flat_len] at k1
  exact (pick_any w r c A m ca ma K ks n ck hk hn hd (by omega) (h.row _ ha).1 ((hKs.below h.below).up h.below.size)).mono fun e w' k => newT h ho hl (k.1 hin)
theorem pick1R (hKs : Cells w0 w0.heap.size K (ks.map i64v)) (ha : ⟨A, a, ca⟩ ∈ R) (hk : ks.length = n) (hn : m = r * c) (hR : R1 = r ∧ C1 = c) (hd : r ≤ 100 ∧ c ≤ 100 ∧ n ≤ 100) (hA : a = flat r c ma) (hin : allIn r ks = false) :
    Calls Try.prog 28 #[.agg #[.int .i64 R1, .int .i64 C1, .slice A m ca], .slice K n ck] w (SayM w0 p R X (.tuple #[.agg #[.int .i64 0, .int .i64 0, .slice none 0 0], .int .i64 2])) := by
  obtain ⟨rfl, rfl⟩ := hR
  subst hA
  have k1 := (h.row _ ha).2.2
  dsimp only at k1
  rw [flat_len] at k1
  exact (pick_any w r c A m ca ma K ks n ck hk hn hd (by omega) (h.row _ ha).1 ((hKs.below h.below).up h.below.size)).mono fun e w' k => ⟨(k.2 hin).1, h.keep (k.2 hin).2⟩
theorem pick0R (hv : rightB R1 C1 m = false) : Calls Try.prog 28 #[.agg #[.int .i64 R1, .int .i64 C1, .slice A m ca], .slice K n ck] w (SayM w0 p R X (.tuple #[.agg #[.int .i64 0, .int .i64 0, .slice none 0 0], .int .i64 50])) :=
  (pick_bad w R1 C1 A m ca K n ck hv).mono fun e w' ⟨he, hb⟩ => ⟨he, h.keep hb⟩
theorem rpickR (hKs : Cells w0 w0.heap.size K (ks.map i64v)) (h64 : ∀ v ∈ ks, -9223372036854775808 ≤ v ∧ v ≤ 9223372036854775807) (ha : ⟨A, a, ca⟩ ∈ R) (hk : ks.length = n) (hn : m = r * c) (hR : R1 = r ∧ C1 = c) (hd : r ≤ 100 ∧ c ≤ 100 ∧ n ≤ 100) (hA : a = flat r c ma) (hin : allIn r ks = true) (Ro Co : Int) (no : Nat) (ho : Ro = n ∧ Co = c ∧ no = n * c) {l : List UInt8} (hl : flat n c (pickM ma ks) = l) :
    Calls Try.prog 29 #[.agg #[.int .i64 R1, .int .i64 C1, .slice A m ca], .slice K n ck] w (MatR w0 p R X Ro Co no l) := by
  obtain ⟨rfl, rfl⟩ := hR
  subst hA
  have k1 := (h.row _ ha).2.2
  dsimp only at k1
  rw [flat_len] at k1
  exact (rpick_any w r c A m ca ma K ks n ck hk hn hd (by omega) (h.row _ ha).1 ((hKs.below h.below).up h.below.size) h64).mono fun e w' k => newT h ho hl (k.1 hin)
theorem rpick1R (hKs : Cells w0 w0.heap.size K (ks.map i64v)) (h64 : ∀ v ∈ ks, -9223372036854775808 ≤ v ∧ v ≤ 9223372036854775807) (ha : ⟨A, a, ca⟩ ∈ R) (hk : ks.length = n) (hn : m = r * c) (hR : R1 = r ∧ C1 = c) (hd : r ≤ 100 ∧ c ≤ 100 ∧ n ≤ 100) (hA : a = flat r c ma) (hin : allIn r ks = false) :
    Calls Try.prog 29 #[.agg #[.int .i64 R1, .int .i64 C1, .slice A m ca], .slice K n ck] w (SayM w0 p R X (.tuple #[.agg #[.int .i64 0, .int .i64 0, .slice none 0 0], .int .i64 2])) := by
  obtain ⟨rfl, rfl⟩ := hR
  subst hA
  have k1 := (h.row _ ha).2.2
  dsimp only at k1
  rw [flat_len] at k1
  exact (rpick_any w r c A m ca ma K ks n ck hk hn hd (by omega) (h.row _ ha).1 ((hKs.below h.below).up h.below.size) h64).mono fun e w' k => ⟨(k.2 hin).1, h.keep (k.2 hin).2⟩
theorem rpick0R (hv : rightB R1 C1 m = false) : Calls Try.prog 29 #[.agg #[.int .i64 R1, .int .i64 C1, .slice A m ca], .slice K n ck] w (SayM w0 p R X (.tuple #[.agg #[.int .i64 0, .int .i64 0, .slice none 0 0], .int .i64 50])) :=
  (rpick_bad w R1 C1 A m ca K n ck hv).mono fun e w' ⟨he, hb⟩ => ⟨he, h.keep hb⟩
theorem symXR (hn9 : -9223372036854775808 ≤ R1 ∧ R1 ≤ 9223372036854775807) (hx : R1 < 0 ∨ 65536 < R1 ∨ (0 ≤ R1 ∧ R1 ≤ 65536 ∧ (n : Int) ≠ R1 * (R1 + 1) / 2)) : Calls Try.prog 30 #[.int .i64 R1, .slice A n ca] w (SayM w0 p R X (.tuple #[.agg #[.int .i64 0, .int .i64 0, .slice none 0 0], .int .i64 50])) :=
  (sym_bad w R1 A n ca hn9 hx).mono fun e w' ⟨he, hb⟩ => ⟨he, h.keep hb⟩
theorem rsymXR (hn9 : -9223372036854775808 ≤ R1 ∧ R1 ≤ 9223372036854775807) (hx : R1 < 0 ∨ 65536 < R1 ∨ (0 ≤ R1 ∧ R1 ≤ 65536 ∧ (n : Int) ≠ R1 * (R1 + 1) / 2)) : Calls Try.prog 31 #[.int .i64 R1, .slice A n ca] w (SayM w0 p R X (.tuple #[.agg #[.int .i64 0, .int .i64 0, .slice none 0 0], .int .i64 50])) :=
  (rsym_bad w R1 A n ca hn9 hx).mono fun e w' ⟨he, hb⟩ => ⟨he, h.keep hb⟩
theorem rsymR (ha : ⟨A, b, ca⟩ ∈ R) (hn : b.length = n) (hR : R1 = r) (hd : r ≤ 100) (h2 : 2 * n = r * (r + 1)) (no : Nat) (ho : no = r * r) {l : List UInt8} (hl : flat r r (symM r b) = l) :
    Calls Try.prog 31 #[.int .i64 R1, .slice A n ca] w (MatR w0 p R X R1 R1 no l) := by
  subst hR
  exact (rsym_ok w r hd A b n ca hn h2 (h.row _ ha).1).mono fun e w' k => newT h ⟨rfl, rfl, ho⟩ hl k
theorem newO {e : Ending} {m : M} {Ro Co : Int} {no : Nat} {l : List UInt8} (ho : Ro = r ∧ Co = c ∧ no = r * c) (hl : flat r c m = l) (k : NewM w r c m e w') : MatO w0 p R X Ro Co no l e w' := by
  obtain ⟨rfl, rfl, rfl⟩ := ho
  subst hl
  obtain ⟨A', cap, he, hle, hnw, hb⟩ := k
  exact ⟨A', cap, he, (h.keep hb).new hnw h.lt (by rw [flat_len]; exact hle)⟩
theorem one0R (hR : R1 < 0 ∨ 4096 < R1) : Calls Try.prog 27 #[.int .i64 R1] w (MatO w0 p R X 0 0 0 []) :=
  (one_out w R1 hR).mono fun e w' k => newO h ⟨rfl, rfl, rfl⟩ rfl k
theorem roneR (hR : max 0 R1 = (r : Int)) (hd : R1 ≤ 100) (Ro : Int) (no : Nat) (ho : Ro = r ∧ no = r * r) {l : List UInt8} (hl : flat r r idm = l) : Calls Try.prog 32 #[.int .i64 R1] w (MatO w0 p R X Ro Ro no l) :=
  (rone_any w R1 r hR hd).mono fun e w' k => newO h ⟨ho.1, ho.1, ho.2⟩ hl k
theorem rpowR (ha : ⟨A, a, ca⟩ ∈ R) (hn : a.length = n) (hd : n ≤ 1000) (hc : C1 ≤ 1000) (hcc : max 0 C1 = (c : Int)) (Ro Co : Int) (no : Nat) (ho : Ro = n ∧ Co = c ∧ no = n * c) {l : List UInt8} (hl : flat n c (powM a) = l) :
    Calls Try.prog 33 #[.slice A n ca, .int .i64 C1] w (MatO w0 p R X Ro Co no l) :=
  (rpow_any w A a n ca hn C1 c (h.row _ ha).1 hd hc hcc).mono fun e w' k => newO h ho hl k
end
theorem Mx_field0 (W : World) (a b : Int) (A : Option Addr) (n c : Nat) : (Instr.field 27 (.agg #[.int .i64 a, .int .i64 b, .slice A n c]) 0).run Try.prog W = .ok (.int .i64 a) W := by kernel_rfl
theorem pow0R {w0 w : World} {q : Nat} {R : List Rw} {X : List (Nat × Array Value)} (h : MS w0 (some q) R X w) {A : Option Addr} {a : List UInt8} {ca n : Nat} {C1 : Int} (ha : ⟨A, a, ca⟩ ∈ R) (hn : a.length = n) (hd : n ≤ 1000) (hc : C1 < 0) :
    Calls Try.prog 13 #[fptr (some q), .slice A n ca, .int .i64 C1] w (MatO w0 (some q) R X n 0 (n * 0) (flat n 0 (powM a))) :=
  (pow_ok3 w q (h.fld q rfl).2 A a n ca hn C1 (h.in_ ha) hd hc).mono fun e w' ⟨A', cap, he, hle, hnw, hF, hf⟩ => ⟨A', cap, he, (h.fr hF hf).new hnw h.lt (by rw [flat_len]; exact hle)⟩
end Go.Proofs.Ythdapoipfnnaeaa.MxW
/- The document's Beside. -/
namespace Go.Proofs.Ythdapoipfnnaeaa.MxW
open Go.RowKit Go.Shelf Mem Gf FdW Mx Rng
open PlW (In)
set_option linter.unusedVariables false
set_option linter.unusedSectionVars false
attribute [local go_sem] Oper.semAt_some wide_fn

def besM (c : Nat) (a b : M) : M := fun i k => if k < c then a i k else b i (k - c)
theorem row_add (c d : Nat) (f : Nat → UInt8) : row (c + d) f = row c f ++ row d (fun k => f (c + k)) := by
  unfold row
  rw [List.range_add, List.map_append, List.map_map]; rfl
theorem bes_succ (j c d : Nat) (a b : M) : flat (j + 1) (c + d) (besM c a b) = flat j (c + d) (besM c a b) ++ row c (a j) ++ row d (b j) := by
  rw [flat_succ, row_add, ← List.append_assoc]
  congr 1
  · congr 1
    exact row_congr fun k hk => by unfold besM; rw [if_pos hk]
  · exact row_congr fun k _ => by unfold besM; rw [if_neg (by omega), Nat.add_sub_cancel_left]
set_option maxRecDepth 100000 in
set_option maxHeartbeats 4000000 in
theorem rbeside_any (w : World) (r c d : Nat) (A A' : Option Addr) (n cap n' cap' : Nat) (a b : M) (hd : r ≤ 100 ∧ c ≤ 100 ∧ d ≤ 100) (hcap : r * c ≤ cap ∧ r * d ≤ cap') (hA : Bytes w w.heap.size A (flat r c a)) (hB : Bytes w w.heap.size A' (flat r d b)) :
    Calls Try.prog 55 #[.agg #[.int .i64 (r : Int), .int .i64 (c : Int), .slice A n cap], .agg #[.int .i64 (r : Int), .int .i64 (d : Int), .slice A' n' cap']] w (NewM w r (c + d) (besM c a b)) := by
  obtain ⟨i0, hi0, hz0, hz1, hz2⟩ := info_parts u8info
  have HN := Lib.hid (And.intro hd.1 (And.intro hd.2.1 (And.intro hd.2.2 hcap)))
  have HA := Lib.hid hA
  have HB := Lib.hid hB
  obtain ⟨q, hq⟩ : ∃ q, c + d = q := ⟨_, rfl⟩
  have HQ := Lib.hid hq
  have hw0 : IntKind.i64.wrap ((c : Int) + (d : Int)) = (q : Int) := by rw [IntWalk.i64_in _ (by omega)]; omega
  clear hq
  have H0 := Lib.hid ((((BS.start w).put (mcells r c A n cap) 38 (by decide)).put (mcells r d A' n' cap') 38 (by decide)).put #[.int .i64 0, .int .i64 0, .slice none 0 0] 38 (by decide))
  clear hA hB hd hcap
  go_enter Try.func55, Try.ntmps55
  obtain ⟨⟨a0, a1, a2⟩, _⟩ := H0.out.cells (.tail _ (.tail _ (.head _)))
  obtain ⟨⟨b0, b1, b2⟩, _⟩ := H0.out.cells (.tail _ (.head _))
  have H2 := Lib.hid (AS.start H0.out (r : Int) (q : Int))
  simp only [World.size_alloc] at b0 b1 b2 H2
  go_wp2_with fail
  clear a0 a1 a2 b0 b1 b2 hw0
  obtain ⟨w3, hw3⟩ : ∃ x : World, (((w.alloc (.cells #[.int .i64 (r : Int), .int .i64 (c : Int), .slice A n cap] 38)).alloc (.cells #[.int .i64 (r : Int), .int .i64 (d : Int), .slice A' n' cap'] 38)).alloc (.cells #[.int .i64 0, .int .i64 0, .slice none 0 0] 38)).alloc (.cells #[.int .i64 (r : Int), .int .i64 (q : Int), .slice none 0 0] 38) = x := ⟨_, rfl⟩
  have hw3' : (((w.alloc (.cells (mcells r c A n cap) 38)).alloc (.cells (mcells r d A' n' cap') 38)).alloc (.cells #[.int .i64 0, .int .i64 0, .slice none 0 0] 38)).alloc (.cells #[.int .i64 (r : Int), .int .i64 (q : Int), .slice none 0 0] 38) = w3 := hw3
  rw [hw3'] at H2
  rw [hw3]
  clear hw3 hw3' H0
  obtain ⟨ga, hga⟩ : ∃ x, w.heap.size = x := ⟨_, rfl⟩
  obtain ⟨gb, hgb⟩ : ∃ x, ga + 1 = x := ⟨_, rfl⟩
  obtain ⟨g0, hg0⟩ : ∃ x, gb + 1 = x := ⟨_, rfl⟩
  obtain ⟨gm, hgm⟩ : ∃ x, g0 + 1 = x := ⟨_, rfl⟩
  rw [hga, hgb, hg0, hgm] at H2 ⊢
  clear hgb hg0 hgm
  go_loopw [6] (fun i wr => ∃ (j : Nat) (A2 : Option Addr) (c2 : Nat), i = .int .i64 (j : Int) ∧ j ≤ r ∧ AS w [(g0, 38, #[.int .i64 0, .int .i64 0, .slice none 0 0]), (gb, 38, mcells r d A' n' cap'), (ga, 38, mcells r c A n cap)] gm (r : Int) (q : Int) A2 c2 (flat j (c + d) (besM c a b)) wr) (fun i _ => r - (intOf i).toNat)
  case atStart => exact ⟨0, none, 0, rfl, Nat.zero_le _, by rw [flat_nil]; exact H2.out⟩
  case round =>
    obtain ⟨j, A2, c2, rfl, hj, h⟩ := hrel
    have H4 := Lib.hid h
    clear h H2
    obtain ⟨w4, rfl⟩ : ∃ w4 : World, w4 = wr := ⟨_, rfl⟩
    obtain ⟨⟨a0, a1, a2⟩, _⟩ := H4.out.bs.cells (.tail _ (.tail _ (.head _)))
    by_cases hjr : j < r
    · have hj1 : (j : Int) < (r : Int) := by omega
      have hj0 : (0 : Int) ≤ (j : Int) := by omega
      have HJ := Lib.hid hjr
      have hwj : IntKind.i64.wrap ((j : Int) + 1) = ((j + 1 : Nat) : Int) := by have := HN.out.1; rw [IntWalk.i64_in _ (by omega)]; omega
      have hl1 := idx_le (c := c) hjr
      have hl2 := idx_le (c := d) hjr
      have hsz1 : r * c ≤ 100 * 100 := Nat.mul_le_mul HN.out.1 HN.out.2.1
      have hsz2 : r * d ≤ 100 * 100 := Nat.mul_le_mul HN.out.1 HN.out.2.2.1
      have hsz3 : j * (c + d) ≤ 100 * 200 := Nat.mul_le_mul (by have := HN.out.1; omega) (by have := HN.out; omega)
      obtain ⟨p, hp⟩ : ∃ p, j * c = p := ⟨_, rfl⟩
      obtain ⟨s, hs⟩ : ∃ s, p + c = s := ⟨_, rfl⟩
      obtain ⟨p2, hp2⟩ : ∃ p, j * d = p := ⟨_, rfl⟩
      obtain ⟨s2, hs2⟩ : ∃ s, p2 + d = s := ⟨_, rfl⟩
      have HP0 := Lib.hid hp
      have HP1 := Lib.hid hp2
      have hwa : IntKind.i64.wrap ((j : Int) * (c : Int)) = (p : Int) := by rw [show (j : Int) * (c : Int) = (p : Int) by rw [← hp]; simp, IntWalk.i64_in _ (by omega)]
      have hwb : IntKind.i64.wrap ((p : Int) + (c : Int)) = (s : Int) := by rw [IntWalk.i64_in _ (by omega)]; omega
      have hwc : IntKind.i64.wrap ((j : Int) * (d : Int)) = (p2 : Int) := by rw [show (j : Int) * (d : Int) = (p2 : Int) by rw [← hp2]; simp, IntWalk.i64_in _ (by omega)]
      have hwd : IntKind.i64.wrap ((p2 : Int) + (d : Int)) = (s2 : Int) := by rw [IntWalk.i64_in _ (by omega)]; omega
      rw [hp] at hl1
      rw [hp2] at hl2
      have hcut := fun W => cut_run W A n cap p s (by omega) (by have := HN.out.2.2.2.1; omega) c (cap - p) (by omega) rfl
      have hcut2 := fun W => cut_run W A' n' cap' p2 s2 (by omega) (by have := HN.out.2.2.2.2; omega) d (cap' - p2) (by omega) rfl
      obtain ⟨l0, hl0⟩ : ∃ l, (flat j (c + d) (besM c a b)).length = l := ⟨_, rfl⟩
      obtain ⟨l1, hll1⟩ : ∃ l, l0 + c = l := ⟨_, rfl⟩
      have HL0 := Lib.hid (show (flat j (c + d) (besM c a b)).length = l0 ∧ l0 ≤ 20000 from ⟨hl0, by rw [← hl0, flat_len]; omega⟩)
      have HL1 := Lib.hid (show (flat j (c + d) (besM c a b) ++ row c (a j)).length = l1 ∧ l1 ≤ 20100 ∧ l0 + c = l1 from ⟨by rw [List.length_append, row_len, HL0.out.1, hll1], by have := HL0.out.2; have := HN.out.2.1; omega, hll1⟩)
      have HL2 := Lib.hid (show (flat (j + 1) (c + d) (besM c a b)).length = l1 + d ∧ True from ⟨by rw [bes_succ, List.length_append, row_len, HL1.out.1], trivial⟩)
      clear hp hs hp2 hs2 hl1 hl2 hsz1 hsz2 hsz3 hl0 hll1
      go_wp2_with fail
      clear a0 a1 a2
      have HD0 := Lib.hid (show AS w [(g0, 38, #[.int .i64 0, .int .i64 0, .slice none 0 0]), (gb, 38, mcells r d A' n' cap'), (ga, 38, mcells r c A n cap)] gm (r : Int) (q : Int) A2 c2 (flat j (c + d) (besM c a b)) w4.drew from H4.out.keep (nextN (Mem.start w4) 1))
      refine wp_region_noPanic ?_
      refine wp_heldG (fun w' => w'.cell? ⟨gm, 2, none⟩ = some (.slice A2 l0 c2) ∧ (w'.cell? ⟨ga, 0, none⟩ = some (.int .i64 (r : Int)) ∧ w'.cell? ⟨ga, 1, none⟩ = some (.int .i64 (c : Int)) ∧ w'.cell? ⟨ga, 2, none⟩ = some (.slice A n cap))) [18] (by kernel_rfl) ?hs0 ?rg0
      case hs0 =>
        have k2 := HD0.out.cells.1.2.2
        rw [HL0.out.1] at k2
        exact ⟨k2, (HD0.out.bs.cells (.tail _ (.tail _ (.head _)))).1⟩
      case rg0 =>
      intro hHeld
      refine puG 0 ⟨some 21, .fieldAddr 38 (.tmp 5) 2, 0, _, #[], none⟩ (v := ?_) ?_ (fun _ => by assumption) ?_
      rotate_left
      · intro w hSw
        try dsimp only at hSw
        go_simp
        try with_reducible rfl
      try simp only [Act.put, List.setIfInBounds_toArray, List.set_cons_zero, List.set_cons_succ]
      refine tkG 1 ⟨some 22, .load 22 (.tmp 21), 22, _, #[⟨0, .data⟩], none⟩ (v := ?_) ?_ (by assumption) ?_
      rotate_left
      · intro w hSw
        try dsimp only at hSw
        obtain ⟨k3, ⟨k0, k1, k2⟩⟩ := hSw
        go_simp
        try with_reducible rfl
      try simp only [Act.put, List.setIfInBounds_toArray, List.set_cons_zero, List.set_cons_succ]
      refine puG 2 ⟨some 23, .fieldAddr 38 (.tmp 2) 2, 0, _, #[], none⟩ (v := ?_) ?_ (fun _ => by assumption) ?_
      rotate_left
      · intro w hSw
        try dsimp only at hSw
        go_simp
        try with_reducible rfl
      try simp only [Act.put, List.setIfInBounds_toArray, List.set_cons_zero, List.set_cons_succ]
      refine tkG 3 ⟨some 24, .load 22 (.tmp 23), 22, _, #[⟨2, .data⟩], none⟩ (v := ?_) ?_ (by assumption) ?_
      rotate_left
      · intro w hSw
        try dsimp only at hSw
        obtain ⟨k3, ⟨k0, k1, k2⟩⟩ := hSw
        go_simp
        try with_reducible rfl
      try simp only [Act.put, List.setIfInBounds_toArray, List.set_cons_zero, List.set_cons_succ]
      refine puG 4 ⟨some 25, .move (.tmp 6), 3, _, #[], none⟩ (v := ?_) ?_ (fun _ => by assumption) ?_
      rotate_left
      · intro w hSw
        try dsimp only at hSw
        go_simp
        try with_reducible rfl
      try simp only [Act.put, List.setIfInBounds_toArray, List.set_cons_zero, List.set_cons_succ]
      refine puG 5 ⟨some 26, .fieldAddr 38 (.tmp 2) 1, 0, _, #[], none⟩ (v := ?_) ?_ (fun _ => by assumption) ?_
      rotate_left
      · intro w hSw
        try dsimp only at hSw
        go_simp
        try with_reducible rfl
      try simp only [Act.put, List.setIfInBounds_toArray, List.set_cons_zero, List.set_cons_succ]
      refine tkG 6 ⟨some 27, .load 3 (.tmp 26), 3, _, #[⟨5, .data⟩], none⟩ (v := ?_) ?_ (by assumption) ?_
      rotate_left
      · intro w hSw
        try dsimp only at hSw
        obtain ⟨k3, ⟨k0, k1, k2⟩⟩ := hSw
        go_simp
        try with_reducible rfl
      try simp only [Act.put, List.setIfInBounds_toArray, List.set_cons_zero, List.set_cons_succ]
      refine puG 7 ⟨some 28, .binOp BinOp.mul 3 (.tmp 25) (.tmp 27) 3, 3, _, #[⟨4, .data⟩, ⟨6, .data⟩], none⟩ (v := ?_) ?_ (fun _ => by assumption) ?_
      rotate_left
      · intro w hSw
        try dsimp only at hSw
        go_simp
        try with_reducible rfl
      try simp only [Act.put, List.setIfInBounds_toArray, List.set_cons_zero, List.set_cons_succ]
      refine puG 8 ⟨some 29, .move (.tmp 6), 3, _, #[], none⟩ (v := ?_) ?_ (fun _ => by assumption) ?_
      rotate_left
      · intro w hSw
        try dsimp only at hSw
        go_simp
        try with_reducible rfl
      try simp only [Act.put, List.setIfInBounds_toArray, List.set_cons_zero, List.set_cons_succ]
      refine puG 9 ⟨some 30, .fieldAddr 38 (.tmp 2) 1, 0, _, #[], none⟩ (v := ?_) ?_ (fun _ => by assumption) ?_
      rotate_left
      · intro w hSw
        try dsimp only at hSw
        go_simp
        try with_reducible rfl
      try simp only [Act.put, List.setIfInBounds_toArray, List.set_cons_zero, List.set_cons_succ]
      refine tkG 10 ⟨some 31, .load 3 (.tmp 30), 3, _, #[⟨9, .data⟩], none⟩ (v := ?_) ?_ (by assumption) ?_
      rotate_left
      · intro w hSw
        try dsimp only at hSw
        obtain ⟨k3, ⟨k0, k1, k2⟩⟩ := hSw
        go_simp
        try with_reducible rfl
      try simp only [Act.put, List.setIfInBounds_toArray, List.set_cons_zero, List.set_cons_succ]
      refine puG 11 ⟨some 32, .binOp BinOp.mul 3 (.tmp 29) (.tmp 31) 3, 3, _, #[⟨8, .data⟩, ⟨10, .data⟩], none⟩ (v := ?_) ?_ (fun _ => by assumption) ?_
      rotate_left
      · intro w hSw
        try dsimp only at hSw
        go_simp
        try with_reducible rfl
      try simp only [Act.put, List.setIfInBounds_toArray, List.set_cons_zero, List.set_cons_succ]
      refine puG 12 ⟨some 33, .fieldAddr 38 (.tmp 2) 1, 0, _, #[], none⟩ (v := ?_) ?_ (fun _ => by assumption) ?_
      rotate_left
      · intro w hSw
        try dsimp only at hSw
        go_simp
        try with_reducible rfl
      try simp only [Act.put, List.setIfInBounds_toArray, List.set_cons_zero, List.set_cons_succ]
      refine tkG 13 ⟨some 34, .load 3 (.tmp 33), 3, _, #[⟨12, .data⟩], none⟩ (v := ?_) ?_ (by assumption) ?_
      rotate_left
      · intro w hSw
        try dsimp only at hSw
        obtain ⟨k3, ⟨k0, k1, k2⟩⟩ := hSw
        go_simp
        try with_reducible rfl
      try simp only [Act.put, List.setIfInBounds_toArray, List.set_cons_zero, List.set_cons_succ]
      refine puG 14 ⟨some 35, .binOp BinOp.add 3 (.tmp 32) (.tmp 34) 3, 3, _, #[⟨11, .data⟩, ⟨13, .data⟩], none⟩ (v := ?_) ?_ (fun _ => by assumption) ?_
      rotate_left
      · intro w hSw
        try dsimp only at hSw
        go_simp
        try with_reducible rfl
      try simp only [Act.put, List.setIfInBounds_toArray, List.set_cons_zero, List.set_cons_succ]
      refine puG 15 ⟨some 36, .slice 22 (.tmp 24) (some (.tmp 28)) (some (.tmp 35)) none, 22, _, #[⟨3, .data⟩, ⟨7, .data⟩, ⟨14, .data⟩], none⟩ (v := ?_) ?_ (fun _ => by assumption) ?_
      rotate_left
      · intro w hSw
        try dsimp only at hSw
        go_simp
        try with_reducible rfl
      try simp only [Act.put, List.setIfInBounds_toArray, List.set_cons_zero, List.set_cons_succ]
      refine onG 16 ⟨some 37, .call { callee := Callee.builtin Builtin.append, args := #[.tmp 22, .tmp 36], argTypes := #[22, 22] }, 22, _, #[⟨1, .data⟩, ⟨15, .data⟩], none⟩ (fun K hK => ?_)
      refine step_app _ rfl _ _ _ rfl w.heap.size 5 i0 _ 1 Try.underlying22 hi0 hz0 hz1 hz2 rfl A2 c2 l0 ((flat j (c + d) (besM c a b)).map u8v) rfl (by rw [List.length_map, HL0.out.1]) HD0.out.row w.heap.size (cutA A cap p) (cap - p) c ((row c (a j)).map u8v) rfl (by rw [List.length_map, row_len]) (by have h := cut_row (HA.out.below HD0.out.bs.below) HJ.out HN.out.2.2.2.1; rw [HP0.out] at h; exact h) u8v_one (by rw [List.length_map, List.length_map, HL0.out.1, row_len]; have := HL0.out.2; have := HN.out; simp [maxLen]; omega) (by rw [List.length_map, List.length_map, HL0.out.1, row_len]; have := HL0.out.2; have := HN.out; omega) HD0.out.bs.below.size (l0 + c) rfl ?_
      intro A4 c4 wx0 ho hb hg _
      have HX0 := Lib.hid (HD0.out.app (l' := flat j (c + d) (besM c a b) ++ row c (a j)) (by rw [List.map_append]; exact ho) hb hg)
      clear ho hb hg
      rw [HL0.out.1] at HX0
      try dsimp only
      refine hK.out _ _ ?_ (fun hHeld => ?_)
      · intro _
        try dsimp only
        exact ⟨HX0.out.cells.1, (HX0.out.bs.cells (.tail _ (.tail _ (.head _)))).1⟩
      clear hK K
      try simp only [Act.put, List.setIfInBounds_toArray, List.set_cons_zero, List.set_cons_succ]
      have hHeld := hHeld (by kernel_rfl)
      refine puG 17 ⟨some 38, .fieldAddr 38 (.tmp 5) 2, 0, _, #[⟨0, .phase⟩, ⟨1, .phase⟩, ⟨2, .phase⟩, ⟨3, .phase⟩, ⟨4, .phase⟩, ⟨5, .phase⟩, ⟨6, .phase⟩, ⟨7, .phase⟩, ⟨8, .phase⟩, ⟨9, .phase⟩, ⟨10, .phase⟩, ⟨11, .phase⟩, ⟨12, .phase⟩, ⟨13, .phase⟩, ⟨14, .phase⟩, ⟨15, .phase⟩, ⟨16, .phase⟩], none⟩ (v := ?_) ?_ (fun _ => by assumption) ?_
      rotate_left
      · intro w hSw
        try dsimp only at hSw
        go_simp
        try with_reducible rfl
      try simp only [Act.put, List.setIfInBounds_toArray, List.set_cons_zero, List.set_cons_succ]
      refine onG 18 ⟨none, .store 22 (.tmp 38) (.tmp 37), 0, _, #[⟨17, .data⟩, ⟨16, .data⟩, ⟨16, .chain⟩, ⟨0, .phase⟩, ⟨1, .phase⟩, ⟨2, .phase⟩, ⟨3, .phase⟩, ⟨4, .phase⟩, ⟨5, .phase⟩, ⟨6, .phase⟩, ⟨7, .phase⟩, ⟨8, .phase⟩, ⟨9, .phase⟩, ⟨10, .phase⟩, ⟨11, .phase⟩, ⟨12, .phase⟩, ⟨13, .phase⟩, ⟨14, .phase⟩, ⟨15, .phase⟩, ⟨16, .phase⟩], none⟩ (fun K hK => ?_)
      obtain ⟨s3, s4⟩ := HX0.out.cells
      go_simp
      try dsimp only
      refine hK.out _ _ ?_ (fun hHeld => ?_)
      · exact fun h => (st_no (by kernel_rfl) h).elim
      clear hK K
      try simp only [Act.put, List.setIfInBounds_toArray, List.set_cons_zero, List.set_cons_succ]
      clear hHeld
      refine wpAnyG_done (by kernel_rfl) ?_ _
      refine NoPanic.normal ?_
      have h8 := HX0.out.set
      rw [HL1.out.1] at h8
      have H5 := Lib.hid h8
      clear h8 hHeld
      obtain ⟨w5, hw5⟩ : ∃ x : World, wx0.setCell ⟨gm, 2, none⟩ (.slice A4 l1 c4) = x := ⟨_, rfl⟩
      rw [hw5] at H5
      go_wp2_with fail
      rw [show (wx0.setCell ⟨gm, 2, none⟩ (.slice A4 (l0 + c) c4)) = w5 from by rw [HL1.out.2.2]; exact hw5]
      clear hw5
      have HD1 := Lib.hid (show AS w [(g0, 38, #[.int .i64 0, .int .i64 0, .slice none 0 0]), (gb, 38, mcells r d A' n' cap'), (ga, 38, mcells r c A n cap)] gm (r : Int) (q : Int) A4 c4 (flat j (c + d) (besM c a b) ++ row c (a j)) w5.drew from H5.out.keep (nextN (Mem.start w5) 1))
      refine wp_region_noPanic ?_
      refine wp_heldG (fun w' => w'.cell? ⟨gm, 2, none⟩ = some (.slice A4 l1 c4) ∧ (w'.cell? ⟨gb, 0, none⟩ = some (.int .i64 (r : Int)) ∧ w'.cell? ⟨gb, 1, none⟩ = some (.int .i64 (d : Int)) ∧ w'.cell? ⟨gb, 2, none⟩ = some (.slice A' n' cap'))) [18] (by kernel_rfl) ?hs0 ?rg0
      case hs0 =>
        have k2 := HD1.out.cells.1.2.2
        rw [HL1.out.1] at k2
        exact ⟨k2, (HD1.out.bs.cells (.tail _ (.head _))).1⟩
      case rg0 =>
      intro hHeld
      refine puG 0 ⟨some 39, .fieldAddr 38 (.tmp 5) 2, 0, _, #[], none⟩ (v := ?_) ?_ (fun _ => by assumption) ?_
      rotate_left
      · intro w hSw
        try dsimp only at hSw
        go_simp
        try with_reducible rfl
      try simp only [Act.put, List.setIfInBounds_toArray, List.set_cons_zero, List.set_cons_succ]
      refine tkG 1 ⟨some 40, .load 22 (.tmp 39), 22, _, #[⟨0, .data⟩], none⟩ (v := ?_) ?_ (by assumption) ?_
      rotate_left
      · intro w hSw
        try dsimp only at hSw
        obtain ⟨k3, ⟨k0, k1, k2⟩⟩ := hSw
        go_simp
        try with_reducible rfl
      try simp only [Act.put, List.setIfInBounds_toArray, List.set_cons_zero, List.set_cons_succ]
      refine puG 2 ⟨some 41, .fieldAddr 38 (.tmp 3) 2, 0, _, #[], none⟩ (v := ?_) ?_ (fun _ => by assumption) ?_
      rotate_left
      · intro w hSw
        try dsimp only at hSw
        go_simp
        try with_reducible rfl
      try simp only [Act.put, List.setIfInBounds_toArray, List.set_cons_zero, List.set_cons_succ]
      refine tkG 3 ⟨some 42, .load 22 (.tmp 41), 22, _, #[⟨2, .data⟩], none⟩ (v := ?_) ?_ (by assumption) ?_
      rotate_left
      · intro w hSw
        try dsimp only at hSw
        obtain ⟨k3, ⟨k0, k1, k2⟩⟩ := hSw
        go_simp
        try with_reducible rfl
      try simp only [Act.put, List.setIfInBounds_toArray, List.set_cons_zero, List.set_cons_succ]
      refine puG 4 ⟨some 43, .move (.tmp 6), 3, _, #[], none⟩ (v := ?_) ?_ (fun _ => by assumption) ?_
      rotate_left
      · intro w hSw
        try dsimp only at hSw
        go_simp
        try with_reducible rfl
      try simp only [Act.put, List.setIfInBounds_toArray, List.set_cons_zero, List.set_cons_succ]
      refine puG 5 ⟨some 44, .fieldAddr 38 (.tmp 3) 1, 0, _, #[], none⟩ (v := ?_) ?_ (fun _ => by assumption) ?_
      rotate_left
      · intro w hSw
        try dsimp only at hSw
        go_simp
        try with_reducible rfl
      try simp only [Act.put, List.setIfInBounds_toArray, List.set_cons_zero, List.set_cons_succ]
      refine tkG 6 ⟨some 45, .load 3 (.tmp 44), 3, _, #[⟨5, .data⟩], none⟩ (v := ?_) ?_ (by assumption) ?_
      rotate_left
      · intro w hSw
        try dsimp only at hSw
        obtain ⟨k3, ⟨k0, k1, k2⟩⟩ := hSw
        go_simp
        try with_reducible rfl
      try simp only [Act.put, List.setIfInBounds_toArray, List.set_cons_zero, List.set_cons_succ]
      refine puG 7 ⟨some 46, .binOp BinOp.mul 3 (.tmp 43) (.tmp 45) 3, 3, _, #[⟨4, .data⟩, ⟨6, .data⟩], none⟩ (v := ?_) ?_ (fun _ => by assumption) ?_
      rotate_left
      · intro w hSw
        try dsimp only at hSw
        go_simp
        try with_reducible rfl
      try simp only [Act.put, List.setIfInBounds_toArray, List.set_cons_zero, List.set_cons_succ]
      refine puG 8 ⟨some 47, .move (.tmp 6), 3, _, #[], none⟩ (v := ?_) ?_ (fun _ => by assumption) ?_
      rotate_left
      · intro w hSw
        try dsimp only at hSw
        go_simp
        try with_reducible rfl
      try simp only [Act.put, List.setIfInBounds_toArray, List.set_cons_zero, List.set_cons_succ]
      refine puG 9 ⟨some 48, .fieldAddr 38 (.tmp 3) 1, 0, _, #[], none⟩ (v := ?_) ?_ (fun _ => by assumption) ?_
      rotate_left
      · intro w hSw
        try dsimp only at hSw
        go_simp
        try with_reducible rfl
      try simp only [Act.put, List.setIfInBounds_toArray, List.set_cons_zero, List.set_cons_succ]
      refine tkG 10 ⟨some 49, .load 3 (.tmp 48), 3, _, #[⟨9, .data⟩], none⟩ (v := ?_) ?_ (by assumption) ?_
      rotate_left
      · intro w hSw
        try dsimp only at hSw
        obtain ⟨k3, ⟨k0, k1, k2⟩⟩ := hSw
        go_simp
        try with_reducible rfl
      try simp only [Act.put, List.setIfInBounds_toArray, List.set_cons_zero, List.set_cons_succ]
      refine puG 11 ⟨some 50, .binOp BinOp.mul 3 (.tmp 47) (.tmp 49) 3, 3, _, #[⟨8, .data⟩, ⟨10, .data⟩], none⟩ (v := ?_) ?_ (fun _ => by assumption) ?_
      rotate_left
      · intro w hSw
        try dsimp only at hSw
        go_simp
        try with_reducible rfl
      try simp only [Act.put, List.setIfInBounds_toArray, List.set_cons_zero, List.set_cons_succ]
      refine puG 12 ⟨some 51, .fieldAddr 38 (.tmp 3) 1, 0, _, #[], none⟩ (v := ?_) ?_ (fun _ => by assumption) ?_
      rotate_left
      · intro w hSw
        try dsimp only at hSw
        go_simp
        try with_reducible rfl
      try simp only [Act.put, List.setIfInBounds_toArray, List.set_cons_zero, List.set_cons_succ]
      refine tkG 13 ⟨some 52, .load 3 (.tmp 51), 3, _, #[⟨12, .data⟩], none⟩ (v := ?_) ?_ (by assumption) ?_
      rotate_left
      · intro w hSw
        try dsimp only at hSw
        obtain ⟨k3, ⟨k0, k1, k2⟩⟩ := hSw
        go_simp
        try with_reducible rfl
      try simp only [Act.put, List.setIfInBounds_toArray, List.set_cons_zero, List.set_cons_succ]
      refine puG 14 ⟨some 53, .binOp BinOp.add 3 (.tmp 50) (.tmp 52) 3, 3, _, #[⟨11, .data⟩, ⟨13, .data⟩], none⟩ (v := ?_) ?_ (fun _ => by assumption) ?_
      rotate_left
      · intro w hSw
        try dsimp only at hSw
        go_simp
        try with_reducible rfl
      try simp only [Act.put, List.setIfInBounds_toArray, List.set_cons_zero, List.set_cons_succ]
      refine puG 15 ⟨some 54, .slice 22 (.tmp 42) (some (.tmp 46)) (some (.tmp 53)) none, 22, _, #[⟨3, .data⟩, ⟨7, .data⟩, ⟨14, .data⟩], none⟩ (v := ?_) ?_ (fun _ => by assumption) ?_
      rotate_left
      · intro w hSw
        try dsimp only at hSw
        go_simp
        try with_reducible rfl
      try simp only [Act.put, List.setIfInBounds_toArray, List.set_cons_zero, List.set_cons_succ]
      refine onG 16 ⟨some 55, .call { callee := Callee.builtin Builtin.append, args := #[.tmp 40, .tmp 54], argTypes := #[22, 22] }, 22, _, #[⟨1, .data⟩, ⟨15, .data⟩], none⟩ (fun K hK => ?_)
      refine step_app _ rfl _ _ _ rfl w.heap.size 5 i0 _ 1 Try.underlying22 hi0 hz0 hz1 hz2 rfl A4 c4 l1 ((flat j (c + d) (besM c a b) ++ row c (a j)).map u8v) rfl (by rw [List.length_map, HL1.out.1]) HD1.out.row w.heap.size (cutA A' cap' p2) (cap' - p2) d ((row d (b j)).map u8v) rfl (by rw [List.length_map, row_len]) (by have h := cut_row (HB.out.below HD1.out.bs.below) HJ.out HN.out.2.2.2.2; rw [HP1.out] at h; exact h) u8v_one (by rw [List.length_map, List.length_map, HL1.out.1, row_len]; have := HL1.out.2; have := HN.out; simp [maxLen]; omega) (by rw [List.length_map, List.length_map, HL1.out.1, row_len]; have := HL1.out.2; have := HN.out; omega) HD1.out.bs.below.size (l1 + d) rfl ?_
      intro A6 c6 wx1 ho hb hg _
      have HX1 := Lib.hid (HD1.out.app (l' := flat (j + 1) (c + d) (besM c a b)) (by rw [bes_succ, List.map_append]; exact ho) hb hg)
      clear ho hb hg
      rw [HL1.out.1] at HX1
      try dsimp only
      refine hK.out _ _ ?_ (fun hHeld => ?_)
      · intro _
        try dsimp only
        exact ⟨HX1.out.cells.1, (HX1.out.bs.cells (.tail _ (.head _))).1⟩
      clear hK K
      try simp only [Act.put, List.setIfInBounds_toArray, List.set_cons_zero, List.set_cons_succ]
      have hHeld := hHeld (by kernel_rfl)
      refine puG 17 ⟨some 56, .fieldAddr 38 (.tmp 5) 2, 0, _, #[⟨0, .phase⟩, ⟨1, .phase⟩, ⟨2, .phase⟩, ⟨3, .phase⟩, ⟨4, .phase⟩, ⟨5, .phase⟩, ⟨6, .phase⟩, ⟨7, .phase⟩, ⟨8, .phase⟩, ⟨9, .phase⟩, ⟨10, .phase⟩, ⟨11, .phase⟩, ⟨12, .phase⟩, ⟨13, .phase⟩, ⟨14, .phase⟩, ⟨15, .phase⟩, ⟨16, .phase⟩], none⟩ (v := ?_) ?_ (fun _ => by assumption) ?_
      rotate_left
      · intro w hSw
        try dsimp only at hSw
        go_simp
        try with_reducible rfl
      try simp only [Act.put, List.setIfInBounds_toArray, List.set_cons_zero, List.set_cons_succ]
      refine onG 18 ⟨none, .store 22 (.tmp 56) (.tmp 55), 0, _, #[⟨17, .data⟩, ⟨16, .data⟩, ⟨16, .chain⟩, ⟨0, .phase⟩, ⟨1, .phase⟩, ⟨2, .phase⟩, ⟨3, .phase⟩, ⟨4, .phase⟩, ⟨5, .phase⟩, ⟨6, .phase⟩, ⟨7, .phase⟩, ⟨8, .phase⟩, ⟨9, .phase⟩, ⟨10, .phase⟩, ⟨11, .phase⟩, ⟨12, .phase⟩, ⟨13, .phase⟩, ⟨14, .phase⟩, ⟨15, .phase⟩, ⟨16, .phase⟩], none⟩ (fun K hK => ?_)
      obtain ⟨s3, s4⟩ := HX1.out.cells
      go_simp
      try dsimp only
      refine hK.out _ _ ?_ (fun hHeld => ?_)
      · exact fun h => (st_no (by kernel_rfl) h).elim
      clear hK K
      try simp only [Act.put, List.setIfInBounds_toArray, List.set_cons_zero, List.set_cons_succ]
      clear hHeld
      refine wpAnyG_done (by kernel_rfl) ?_ _
      refine NoPanic.normal ?_
      have h8 := HX1.out.set
      rw [HL2.out.1] at h8
      have H6 := Lib.hid h8
      clear h8 hHeld
      go_wp2_with fail
      go_roundw
      case rel => exact ⟨j + 1, A6, c6, by simp, HJ.out, H6.out⟩
      case measure => simp [intOf]; omega
    · obtain rfl : r = j := by omega
      obtain ⟨⟨c0, c1, c2'⟩, _⟩ := H4.out.cells
      obtain ⟨⟨d0, d1, d2⟩, f0, f1, f2⟩ := H4.out.bs.cells (.head _)
      obtain ⟨lq, hlq⟩ : ∃ lq, (flat r (c + d) (besM c a b)).length = lq := ⟨_, rfl⟩
      rw [hlq] at c2'
      have hfin := H4.out.end_ (.head _) (.int .i64 (r : Int)) (.int .i64 (q : Int)) (.slice A2 lq c2)
      have HLQ := Lib.hid (hlq.symm.trans (flat_len _ _ _))
      have HL := Lib.hid (H4.out.row)
      go_wp2_with fail
      obtain ⟨h1, h2, e0, e1, e2⟩ := hfin
      refine bodyPost_ret (v := .agg #[.int .i64 (r : Int), .int .i64 (q : Int), .slice A2 lq c2]) (by simp [results, Try.results55, go_sem, e0, e1, e2]) rfl ?_
      have e9 := HLQ.out
      subst e9
      have e8 := HQ.out
      subst e8
      refine ⟨A2, c2, rfl, ?_, h2, h1⟩
      have h3 := HL.out.le
      rw [List.length_map, flat_len] at h3
      exact h3
end Go.Proofs.Ythdapoipfnnaeaa.MxW
/- Two matrices side by side are reduced as the first one is, the other one along. -/
namespace Go.Proofs.Ythdapoipfnnaeaa.MxW
open Go.RowKit Go.Shelf Mem Gf FdW Mx Rng
set_option linter.unusedVariables false
set_option linter.unusedSectionVars false

theorem findP_congr {A A' : M} {r k : Nat} (h : ∀ i, A i k = A' i k) : ∀ n i, findP A r k n i = findP A' r k n i
  | 0, _ => rfl
  | n + 1, i => by
    unfold findP
    rw [h i, findP_congr h n (i + 1)]
theorem bes_at {c : Nat} (A B : M) (i : Nat) {k : Nat} (hk : k < c) : besM c A B i k = A i k := by unfold besM; rw [if_pos hk]
theorem bes_piv {c n : Nat} (hn : n < c) (A B : M) (a f : Nat) : pivB (besM c A B) (besM c A B) a f n = besM c (pivB A A a f n) (pivB A B a f n) := by
  funext i k
  unfold pivB scaleM swapM
  rw [bes_at A B f hn]
  unfold besM
  by_cases hk : k < c
  · simp only [if_pos hk]
  · simp only [if_neg hk]
theorem bes_step {c n : Nat} (hn : n < c) (A B : M) (a f : Nat) : stepX (besM c A B) (besM c A B) a f n = besM c (stepX A A a f n) (stepX A B a f n) := by
  have hp : ∀ i, pivA (besM c A B) a f n i n = pivA A a f n i n := fun i => by
    show pivB (besM c A B) (besM c A B) a f n i n = pivB A A a f n i n
    rw [bes_piv hn, bes_at _ _ _ hn]
  funext i k
  unfold stepX elim
  rw [bes_piv hn]
  simp only [hp]
  unfold besM
  by_cases hk : k < c
  · simp only [if_pos hk]
  · simp only [if_neg hk]
theorem bes_red {c : Nat} (r : Nat) (a b : M) : ∀ n, n ≤ c → (redTo r (besM c a b) (besM c a b) n).at_ = (redTo r a b n).at_ ∧ (redTo r (besM c a b) (besM c a b) n).A = besM c (redTo r a b n).A (redTo r a b n).B
  | 0 => fun _ => ⟨rfl, rfl⟩
  | n + 1 => by
    intro hn
    obtain ⟨h1, h2⟩ := bes_red (c := c) r a b n (by omega)
    have hf : find (besM c (redTo r a b n).A (redTo r a b n).B) r n (redTo r a b n).at_ = find (redTo r a b n).A r n (redTo r a b n).at_ := findP_congr (fun i => bes_at _ _ i (show n < c by omega)) _ _
    unfold redTo redStep
    rw [h1, h2, hf]
    split
    · exact ⟨rfl, bes_step (by omega) _ _ _ _⟩
    · exact ⟨h1, h2⟩
end Go.Proofs.Ythdapoipfnnaeaa.MxW
/- The document's swap. -/
namespace Go.Proofs.Ythdapoipfnnaeaa.MxW
open Go.RowKit Go.Shelf Mem Gf FdW Mx Rng
open PlW (In)
set_option linter.unusedVariables false
set_option linter.unusedSectionVars false
attribute [local go_sem] Oper.semAt_some wide_fn

/-- While rows change places. -/
structure SwI (w : World) (B gm g r c : Nat) (m : M) (W : World) : Prop where
  fr : Fr (fun k => k = g) w W
  var : Blk W gm 38 (mcells r c (some ⟨g, 0, none⟩) (r * c) (r * c))
  row : Wm W B g (r * c) r c m
theorem SwI.drew {w W : World} {B gm g r c : Nat} {m : M} (h : SwI w B gm g r c m W) : SwI w B gm g r c m W.drew := ⟨h.fr.trans (Fr.quiet (S := fun k => k = g) (nextN (Mem.start W) 1)) fun _ _ h => h, h.var.keep (nextN (Mem.start W) 1), h.row.keep (nextN (Mem.start W) 1)⟩
theorem SwI.set {w W : World} {B gm g r c : Nat} {m : M} (h : SwI w B gm g r c m W) {i k : Nat} (hi : i < r) (hk : k < c) (x : UInt8) : SwI w B gm g r c (upd m i k x) (W.setCell ⟨g, i * c + k, none⟩ (.int .u8 (x.toNat : Int))) := by
  have hf := setF (p := g) W ⟨g, i * c + k, none⟩ rfl (.int .u8 (x.toNat : Int))
  exact ⟨h.fr.trans hf fun _ _ h => h, h.var.fr hf fun e => h.var.ne_own h.row (by decide) g rfl e.symm, h.row.set hi hk x⟩
def SwapOk (w : World) (B g r c : Nat) (m : M) (e : Ending) (w' : World) : Prop := e = .returned (.tuple #[]) ∧ Wm w' B g (r * c) r c m ∧ Fr (fun k => k = g) w w'
theorem Wm.at2 {w : World} {B g cap r c s : Nat} {m : M} (h : Wm w B g cap r c m) {i k : Nat} (hi : i < r) (hk : k < c) (hs : i * c + k = s) {x : UInt8} (hx : m i k = x) : w.cell? ⟨g, s, none⟩ = some (.int .u8 (x.toNat : Int)) ∧ w.frozen? ⟨g, s, none⟩ = false := by
  have := h.at_ hi hk
  rw [hs, hx] at this; exact this
set_option maxRecDepth 100000 in
set_option maxHeartbeats 4000000 in
theorem swap_any (w : World) (B g r c : Nat) (m : M) (a b : Nat) (ha : a < r) (hb : b < r) (hd : r ≤ 100 ∧ c ≤ 300) (hW : Wm w B g (r * c) r c m) :
    Calls Try.prog 65 #[.agg #[.int .i64 (r : Int), .int .i64 (c : Int), .slice (some ⟨g, 0, none⟩) (r * c) (r * c)], .int .i64 (a : Int), .int .i64 (b : Int)] w (SwapOk w B g r c (swapM m a b)) := by
  obtain ⟨w1, gm, h1, hw1, hgm⟩ := boxedT w (mcells r c (some ⟨g, 0, none⟩) (r * c) (r * c)) 38
  have HW1 := Lib.hid (show w.alloc (.cells #[.int .i64 (r : Int), .int .i64 (c : Int), .slice (some ⟨g, 0, none⟩) (r * c) (r * c)] 38) = w1 from hw1)
  have HGM := Lib.hid hgm
  have HD := Lib.hid (And.intro hd (And.intro ha hb))
  have H1 := Lib.hid (show SwI w B gm g r c (swapUp m a b 0) w1 from ⟨Fr.quiet h1.1, h1.2.1, (hW.keep h1.1).congr fun i _ k _ => by unfold swapUp; rw [if_neg (Nat.not_lt_zero _)]⟩)
  clear h1 hw1 hgm hW hd ha hb
  go_enter Try.func65, Try.ntmps65
  go_wp2_with fail
  rw [HW1.out, HGM.out]
  go_loopw [6] (fun k wr => ∃ j : Nat, k = .int .i64 (j : Int) ∧ j ≤ c ∧ SwI w B gm g r c (swapUp m a b j) wr) (fun k _ => c - (intOf k).toNat)
  case atStart => exact ⟨0, rfl, Nat.zero_le _, H1.out⟩
  case round =>
    obtain ⟨j, rfl, hj, h⟩ := hrel
    have H4 := Lib.hid h
    clear h H1
    obtain ⟨w4, rfl⟩ : ∃ w4 : World, w4 = wr := ⟨_, rfl⟩
    obtain ⟨⟨a0, a1, a2⟩, _⟩ := cells3 H4.out.var
    by_cases hjc : j < c
    · have hj1 : (j : Int) < (c : Int) := by omega
      have hwj : IntKind.i64.wrap ((j : Int) + 1) = ((j + 1 : Nat) : Int) := by have := HD.out.1; rw [IntWalk.i64_in _ (by omega)]; omega
      have HJ := Lib.hid hjc
      obtain ⟨p, hp⟩ : ∃ p, a * c + j = p := ⟨_, rfl⟩
      obtain ⟨q, hq⟩ : ∃ q, b * c + j = q := ⟨_, rfl⟩
      obtain ⟨x, hx⟩ : ∃ x, m a j = x := ⟨_, rfl⟩
      obtain ⟨y, hy⟩ : ∃ y, m b j = y := ⟨_, rfl⟩
      have hu : ∀ i, swapUp m a b j i j = m i j := fun i => by unfold swapUp; rw [if_neg (Nat.lt_irrefl _)]
      have H5 := Lib.hid H4.out.drew
      have HX := Lib.hid (H5.out.row.at2 HD.out.2.1 hjc hp ((hu a).trans hx))
      have HY := Lib.hid (H5.out.row.at2 HD.out.2.2 hjc hq ((hu b).trans hy))
      have h6 := H4.out.set HD.out.2.1 hjc y
      rw [hp] at h6
      have HN6 := Lib.hid h6
      have H6 := Lib.hid h6.drew
      have HY2 := Lib.hid (show (w4.setCell ⟨g, p, none⟩ (.int .u8 (y.toNat : Int))).drew.cell? ⟨g, q, none⟩ = some (.int .u8 ((upd (swapUp m a b j) a j y b j).toNat : Int)) ∧ (w4.setCell ⟨g, p, none⟩ (.int .u8 (y.toNat : Int))).drew.frozen? ⟨g, q, none⟩ = false from H6.out.row.at2 HD.out.2.2 hjc hq rfl)
      have HE := Lib.hid (And.intro hp (And.intro hq (And.intro hx hy)))
      have hsz : r * c ≤ 100 * 300 := Nat.mul_le_mul HD.out.1.1 HD.out.1.2
      have hpl := idx_lt HD.out.2.1 hjc
      have hql := idx_lt HD.out.2.2 hjc
      have hw1 : IntKind.i64.wrap ((a : Int) * (c : Int)) = ((a * c : Nat) : Int) := by rw [show (a : Int) * (c : Int) = ((a * c : Nat) : Int) by simp, IntWalk.i64_in _ (by omega)]
      have hw3 : IntKind.i64.wrap ((b : Int) * (c : Int)) = ((b * c : Nat) : Int) := by rw [show (b : Int) * (c : Int) = ((b * c : Nat) : Int) by simp, IntWalk.i64_in _ (by omega)]
      obtain ⟨p1, hp1⟩ : ∃ p1, a * c = p1 := ⟨_, rfl⟩
      obtain ⟨q1, hq1⟩ : ∃ q1, b * c = q1 := ⟨_, rfl⟩
      rw [hp1] at hw1 hp hpl
      rw [hq1] at hw3 hq hql
      have hw2 : IntKind.i64.wrap ((p1 : Int) + (j : Int)) = (p : Int) := by rw [IntWalk.i64_in _ (by omega)]; omega
      have hw4 : IntKind.i64.wrap ((q1 : Int) + (j : Int)) = (q : Int) := by rw [IntWalk.i64_in _ (by omega)]; omega
      have hp0 : (0 : Int) ≤ (p : Int) := by omega
      have hp2 : (p : Int) < (r : Int) * (c : Int) := by rw [show (r : Int) * (c : Int) = ((r * c : Nat) : Int) by simp]; omega
      have hq0 : (0 : Int) ≤ (q : Int) := by omega
      have hq2 : (q : Int) < (r : Int) * (c : Int) := by rw [show (r : Int) * (c : Int) = ((r * c : Nat) : Int) by simp]; omega
      clear hx hy hp hq hp1 hq1 hpl hql hsz h6 hu
      go_wp2_with fail
      clear a0 a1 a2
      have h7 := HN6.out.set HD.out.2.2 HJ.out x
      rw [HE.out.2.1] at h7
      have H7 := Lib.hid h7.drew
      clear h7
      refine wp_region_noPanic ?_
      refine wp_heldG (fun w' => w'.cell? ⟨gm, 0, none⟩ = some (.int .i64 (r : Int)) ∧ w'.cell? ⟨gm, 1, none⟩ = some (.int .i64 (c : Int)) ∧ w'.cell? ⟨gm, 2, none⟩ = some (.slice (some ⟨g, 0, none⟩) (r * c) (r * c))) [] (by kernel_rfl) ?hs0 ?rg0
      case hs0 => exact (cells3 H5.out.var).1
      case rg0 =>
      intro hHeld
      refine puG 0 ⟨some 13, .fieldAddr 38 (.tmp 3) 2, 0, _, #[], none⟩ (v := ?_) ?_ (fun _ => by assumption) ?_
      rotate_left
      · intro w hSw
        try dsimp only at hSw
        go_simp
        try with_reducible rfl
      try simp only [Act.put, List.setIfInBounds_toArray, List.set_cons_zero, List.set_cons_succ]
      refine tkG 1 ⟨some 14, .load 22 (.tmp 13), 22, _, #[⟨0, .data⟩], none⟩ (v := ?_) ?_ (by assumption) ?_
      rotate_left
      · intro w hSw
        try dsimp only at hSw
        obtain ⟨k0, k1, k2⟩ := hSw
        go_simp
        try with_reducible rfl
      try simp only [Act.put, List.setIfInBounds_toArray, List.set_cons_zero, List.set_cons_succ]
      refine puG 2 ⟨some 15, .move (.tmp 1), 3, _, #[], none⟩ (v := ?_) ?_ (fun _ => by assumption) ?_
      rotate_left
      · intro w hSw
        try dsimp only at hSw
        go_simp
        try with_reducible rfl
      try simp only [Act.put, List.setIfInBounds_toArray, List.set_cons_zero, List.set_cons_succ]
      refine puG 3 ⟨some 16, .fieldAddr 38 (.tmp 3) 1, 0, _, #[], none⟩ (v := ?_) ?_ (fun _ => by assumption) ?_
      rotate_left
      · intro w hSw
        try dsimp only at hSw
        go_simp
        try with_reducible rfl
      try simp only [Act.put, List.setIfInBounds_toArray, List.set_cons_zero, List.set_cons_succ]
      refine tkG 4 ⟨some 17, .load 3 (.tmp 16), 3, _, #[⟨3, .data⟩], none⟩ (v := ?_) ?_ (by assumption) ?_
      rotate_left
      · intro w hSw
        try dsimp only at hSw
        obtain ⟨k0, k1, k2⟩ := hSw
        go_simp
        try with_reducible rfl
      try simp only [Act.put, List.setIfInBounds_toArray, List.set_cons_zero, List.set_cons_succ]
      refine puG 5 ⟨some 18, .binOp BinOp.mul 3 (.tmp 15) (.tmp 17) 3, 3, _, #[⟨2, .data⟩, ⟨4, .data⟩], none⟩ (v := ?_) ?_ (fun _ => by assumption) ?_
      rotate_left
      · intro w hSw
        try dsimp only at hSw
        go_simp
        try with_reducible rfl
      try simp only [Act.put, List.setIfInBounds_toArray, List.set_cons_zero, List.set_cons_succ]
      refine puG 6 ⟨some 19, .move (.tmp 6), 3, _, #[], none⟩ (v := ?_) ?_ (fun _ => by assumption) ?_
      rotate_left
      · intro w hSw
        try dsimp only at hSw
        go_simp
        try with_reducible rfl
      try simp only [Act.put, List.setIfInBounds_toArray, List.set_cons_zero, List.set_cons_succ]
      refine puG 7 ⟨some 20, .binOp BinOp.add 3 (.tmp 18) (.tmp 19) 3, 3, _, #[⟨5, .data⟩, ⟨6, .data⟩], none⟩ (v := ?_) ?_ (fun _ => by assumption) ?_
      rotate_left
      · intro w hSw
        try dsimp only at hSw
        go_simp
        try with_reducible rfl
      try simp only [Act.put, List.setIfInBounds_toArray, List.set_cons_zero, List.set_cons_succ]
      refine puG 8 ⟨some 21, .fieldAddr 38 (.tmp 3) 2, 0, _, #[{ on := 37, ground := Ground.gcOnly Departure.lateStores }], none⟩ (v := ?_) ?_ (fun _ => by assumption) ?_
      rotate_left
      · intro w hSw
        try dsimp only at hSw
        go_simp
        try with_reducible rfl
      try simp only [Act.put, List.setIfInBounds_toArray, List.set_cons_zero, List.set_cons_succ]
      refine tkG 9 ⟨some 22, .load 22 (.tmp 21), 22, _, #[⟨8, .data⟩, { on := 37, ground := Ground.gcOnly Departure.lateStores }], none⟩ (v := ?_) ?_ (by assumption) ?_
      rotate_left
      · intro w hSw
        try dsimp only at hSw
        obtain ⟨k0, k1, k2⟩ := hSw
        go_simp
        try with_reducible rfl
      try simp only [Act.put, List.setIfInBounds_toArray, List.set_cons_zero, List.set_cons_succ]
      refine puG 10 ⟨some 23, .move (.tmp 2), 3, _, #[{ on := 37, ground := Ground.gcOnly Departure.lateStores }], none⟩ (v := ?_) ?_ (fun _ => by assumption) ?_
      rotate_left
      · intro w hSw
        try dsimp only at hSw
        go_simp
        try with_reducible rfl
      try simp only [Act.put, List.setIfInBounds_toArray, List.set_cons_zero, List.set_cons_succ]
      refine puG 11 ⟨some 24, .fieldAddr 38 (.tmp 3) 1, 0, _, #[{ on := 37, ground := Ground.gcOnly Departure.lateStores }], none⟩ (v := ?_) ?_ (fun _ => by assumption) ?_
      rotate_left
      · intro w hSw
        try dsimp only at hSw
        go_simp
        try with_reducible rfl
      try simp only [Act.put, List.setIfInBounds_toArray, List.set_cons_zero, List.set_cons_succ]
      refine tkG 12 ⟨some 25, .load 3 (.tmp 24), 3, _, #[⟨11, .data⟩, { on := 37, ground := Ground.gcOnly Departure.lateStores }], none⟩ (v := ?_) ?_ (by assumption) ?_
      rotate_left
      · intro w hSw
        try dsimp only at hSw
        obtain ⟨k0, k1, k2⟩ := hSw
        go_simp
        try with_reducible rfl
      try simp only [Act.put, List.setIfInBounds_toArray, List.set_cons_zero, List.set_cons_succ]
      refine puG 13 ⟨some 26, .binOp BinOp.mul 3 (.tmp 23) (.tmp 25) 3, 3, _, #[⟨10, .data⟩, ⟨12, .data⟩, { on := 37, ground := Ground.gcOnly Departure.lateStores }], none⟩ (v := ?_) ?_ (fun _ => by assumption) ?_
      rotate_left
      · intro w hSw
        try dsimp only at hSw
        go_simp
        try with_reducible rfl
      try simp only [Act.put, List.setIfInBounds_toArray, List.set_cons_zero, List.set_cons_succ]
      refine puG 14 ⟨some 27, .move (.tmp 6), 3, _, #[{ on := 37, ground := Ground.gcOnly Departure.lateStores }], none⟩ (v := ?_) ?_ (fun _ => by assumption) ?_
      rotate_left
      · intro w hSw
        try dsimp only at hSw
        go_simp
        try with_reducible rfl
      try simp only [Act.put, List.setIfInBounds_toArray, List.set_cons_zero, List.set_cons_succ]
      refine puG 15 ⟨some 28, .binOp BinOp.add 3 (.tmp 26) (.tmp 27) 3, 3, _, #[⟨13, .data⟩, ⟨14, .data⟩, { on := 37, ground := Ground.gcOnly Departure.lateStores }], none⟩ (v := ?_) ?_ (fun _ => by assumption) ?_
      rotate_left
      · intro w hSw
        try dsimp only at hSw
        go_simp
        try with_reducible rfl
      try simp only [Act.put, List.setIfInBounds_toArray, List.set_cons_zero, List.set_cons_succ]
      refine puG 16 ⟨some 29, .fieldAddr 38 (.tmp 3) 2, 0, _, #[], none⟩ (v := ?_) ?_ (fun _ => by assumption) ?_
      rotate_left
      · intro w hSw
        try dsimp only at hSw
        go_simp
        try with_reducible rfl
      try simp only [Act.put, List.setIfInBounds_toArray, List.set_cons_zero, List.set_cons_succ]
      refine tkG 17 ⟨some 30, .load 22 (.tmp 29), 22, _, #[⟨16, .data⟩], none⟩ (v := ?_) ?_ (by assumption) ?_
      rotate_left
      · intro w hSw
        try dsimp only at hSw
        obtain ⟨k0, k1, k2⟩ := hSw
        go_simp
        try with_reducible rfl
      try simp only [Act.put, List.setIfInBounds_toArray, List.set_cons_zero, List.set_cons_succ]
      refine puG 18 ⟨some 31, .move (.tmp 2), 3, _, #[], none⟩ (v := ?_) ?_ (fun _ => by assumption) ?_
      rotate_left
      · intro w hSw
        try dsimp only at hSw
        go_simp
        try with_reducible rfl
      try simp only [Act.put, List.setIfInBounds_toArray, List.set_cons_zero, List.set_cons_succ]
      refine puG 19 ⟨some 32, .fieldAddr 38 (.tmp 3) 1, 0, _, #[], none⟩ (v := ?_) ?_ (fun _ => by assumption) ?_
      rotate_left
      · intro w hSw
        try dsimp only at hSw
        go_simp
        try with_reducible rfl
      try simp only [Act.put, List.setIfInBounds_toArray, List.set_cons_zero, List.set_cons_succ]
      refine tkG 20 ⟨some 33, .load 3 (.tmp 32), 3, _, #[⟨19, .data⟩], none⟩ (v := ?_) ?_ (by assumption) ?_
      rotate_left
      · intro w hSw
        try dsimp only at hSw
        obtain ⟨k0, k1, k2⟩ := hSw
        go_simp
        try with_reducible rfl
      try simp only [Act.put, List.setIfInBounds_toArray, List.set_cons_zero, List.set_cons_succ]
      refine puG 21 ⟨some 34, .binOp BinOp.mul 3 (.tmp 31) (.tmp 33) 3, 3, _, #[⟨18, .data⟩, ⟨20, .data⟩], none⟩ (v := ?_) ?_ (fun _ => by assumption) ?_
      rotate_left
      · intro w hSw
        try dsimp only at hSw
        go_simp
        try with_reducible rfl
      try simp only [Act.put, List.setIfInBounds_toArray, List.set_cons_zero, List.set_cons_succ]
      refine puG 22 ⟨some 35, .move (.tmp 6), 3, _, #[], none⟩ (v := ?_) ?_ (fun _ => by assumption) ?_
      rotate_left
      · intro w hSw
        try dsimp only at hSw
        go_simp
        try with_reducible rfl
      try simp only [Act.put, List.setIfInBounds_toArray, List.set_cons_zero, List.set_cons_succ]
      refine puG 23 ⟨some 36, .binOp BinOp.add 3 (.tmp 34) (.tmp 35) 3, 3, _, #[⟨21, .data⟩, ⟨22, .data⟩], none⟩ (v := ?_) ?_ (fun _ => by assumption) ?_
      rotate_left
      · intro w hSw
        try dsimp only at hSw
        go_simp
        try with_reducible rfl
      try simp only [Act.put, List.setIfInBounds_toArray, List.set_cons_zero, List.set_cons_succ]
      refine puG 24 ⟨some 37, .indexAddr 22 (.tmp 30) (.tmp 36), 0, _, #[⟨17, .data⟩, ⟨23, .data⟩], none⟩ (v := ?_) ?_ (fun _ => by assumption) ?_
      rotate_left
      · intro w hSw
        try dsimp only at hSw
        go_simp
        try with_reducible rfl
      try simp only [Act.put, List.setIfInBounds_toArray, List.set_cons_zero, List.set_cons_succ]
      refine puG 26 ⟨some 39, .fieldAddr 38 (.tmp 3) 2, 0, _, #[], none⟩ (v := ?_) ?_ (fun _ => by assumption) ?_
      rotate_left
      · intro w hSw
        try dsimp only at hSw
        go_simp
        try with_reducible rfl
      try simp only [Act.put, List.setIfInBounds_toArray, List.set_cons_zero, List.set_cons_succ]
      refine tkG 27 ⟨some 40, .load 22 (.tmp 39), 22, _, #[⟨26, .data⟩], none⟩ (v := ?_) ?_ (by assumption) ?_
      rotate_left
      · intro w hSw
        try dsimp only at hSw
        obtain ⟨k0, k1, k2⟩ := hSw
        go_simp
        try with_reducible rfl
      try simp only [Act.put, List.setIfInBounds_toArray, List.set_cons_zero, List.set_cons_succ]
      refine puG 28 ⟨some 41, .move (.tmp 1), 3, _, #[], none⟩ (v := ?_) ?_ (fun _ => by assumption) ?_
      rotate_left
      · intro w hSw
        try dsimp only at hSw
        go_simp
        try with_reducible rfl
      try simp only [Act.put, List.setIfInBounds_toArray, List.set_cons_zero, List.set_cons_succ]
      refine puG 29 ⟨some 42, .fieldAddr 38 (.tmp 3) 1, 0, _, #[], none⟩ (v := ?_) ?_ (fun _ => by assumption) ?_
      rotate_left
      · intro w hSw
        try dsimp only at hSw
        go_simp
        try with_reducible rfl
      try simp only [Act.put, List.setIfInBounds_toArray, List.set_cons_zero, List.set_cons_succ]
      refine tkG 30 ⟨some 43, .load 3 (.tmp 42), 3, _, #[⟨29, .data⟩], none⟩ (v := ?_) ?_ (by assumption) ?_
      rotate_left
      · intro w hSw
        try dsimp only at hSw
        obtain ⟨k0, k1, k2⟩ := hSw
        go_simp
        try with_reducible rfl
      try simp only [Act.put, List.setIfInBounds_toArray, List.set_cons_zero, List.set_cons_succ]
      refine puG 31 ⟨some 44, .binOp BinOp.mul 3 (.tmp 41) (.tmp 43) 3, 3, _, #[⟨28, .data⟩, ⟨30, .data⟩], none⟩ (v := ?_) ?_ (fun _ => by assumption) ?_
      rotate_left
      · intro w hSw
        try dsimp only at hSw
        go_simp
        try with_reducible rfl
      try simp only [Act.put, List.setIfInBounds_toArray, List.set_cons_zero, List.set_cons_succ]
      refine puG 32 ⟨some 45, .move (.tmp 6), 3, _, #[], none⟩ (v := ?_) ?_ (fun _ => by assumption) ?_
      rotate_left
      · intro w hSw
        try dsimp only at hSw
        go_simp
        try with_reducible rfl
      try simp only [Act.put, List.setIfInBounds_toArray, List.set_cons_zero, List.set_cons_succ]
      refine puG 33 ⟨some 46, .binOp BinOp.add 3 (.tmp 44) (.tmp 45) 3, 3, _, #[⟨31, .data⟩, ⟨32, .data⟩], none⟩ (v := ?_) ?_ (fun _ => by assumption) ?_
      rotate_left
      · intro w hSw
        try dsimp only at hSw
        go_simp
        try with_reducible rfl
      try simp only [Act.put, List.setIfInBounds_toArray, List.set_cons_zero, List.set_cons_succ]
      refine puG 34 ⟨some 47, .indexAddr 22 (.tmp 40) (.tmp 46), 0, _, #[⟨27, .data⟩, ⟨33, .data⟩], none⟩ (v := ?_) ?_ (fun _ => by assumption) ?_
      rotate_left
      · intro w hSw
        try dsimp only at hSw
        go_simp
        try with_reducible rfl
      try simp only [Act.put, List.setIfInBounds_toArray, List.set_cons_zero, List.set_cons_succ]
      refine wpAnyG_two (i := 25) (j := 35) (o := ⟨some 38, .load 5 (.tmp 37), 5, _, #[⟨24, .data⟩], none⟩) (u := ⟨some 48, .load 5 (.tmp 47), 5, _, #[⟨34, .data⟩], none⟩) (by kernel_rfl) rfl rfl (fun K hK => ?_) (fun K hK => ?_)
      · skip
        obtain ⟨s3, s4⟩ := HY.out
        go_simp
        try dsimp only
        clear s3 s4
        try dsimp only
        refine hK.out _ _ ?_ (fun hHeld => ?_)
        · intro _
          try dsimp only
          exact (cells3 H5.out.var).1
        clear hK K
        try simp only [Act.put, List.setIfInBounds_toArray, List.set_cons_zero, List.set_cons_succ]
        have hHeld := hHeld (by kernel_rfl)
        refine onG 35 ⟨some 48, .load 5 (.tmp 47), 5, _, #[⟨34, .data⟩], none⟩ (fun K hK => ?_)
        obtain ⟨s3, s4⟩ := HX.out
        go_simp
        try dsimp only
        clear s3 s4
        try dsimp only
        refine hK.out _ _ ?_ (fun hHeld => ?_)
        · intro _
          try dsimp only
          exact (cells3 H5.out.var).1
        clear hK K
        try simp only [Act.put, List.setIfInBounds_toArray, List.set_cons_zero, List.set_cons_succ]
        have hHeld := hHeld (by kernel_rfl)
        refine puG 36 ⟨some 49, .indexAddr 22 (.tmp 14) (.tmp 20), 0, _, #[⟨1, .data⟩, ⟨7, .data⟩, ⟨0, .phase⟩, ⟨1, .phase⟩, ⟨2, .phase⟩, ⟨3, .phase⟩, ⟨4, .phase⟩, ⟨5, .phase⟩, ⟨6, .phase⟩, ⟨7, .phase⟩, { on := 8, ground := Ground.textOnly Departure.lateStores }, { on := 9, ground := Ground.textOnly Departure.lateStores }, { on := 10, ground := Ground.textOnly Departure.lateStores }, { on := 11, ground := Ground.textOnly Departure.lateStores }, { on := 12, ground := Ground.textOnly Departure.lateStores }, { on := 13, ground := Ground.textOnly Departure.lateStores }, { on := 14, ground := Ground.textOnly Departure.lateStores }, { on := 15, ground := Ground.textOnly Departure.lateStores }, ⟨16, .phase⟩, ⟨17, .phase⟩, ⟨18, .phase⟩, ⟨19, .phase⟩, ⟨20, .phase⟩, ⟨21, .phase⟩, ⟨22, .phase⟩, ⟨23, .phase⟩, ⟨24, .phase⟩, ⟨25, .phase⟩, { on := 26, ground := Ground.textOnly Departure.lateStores }, { on := 27, ground := Ground.textOnly Departure.lateStores }, { on := 28, ground := Ground.textOnly Departure.lateStores }, { on := 29, ground := Ground.textOnly Departure.lateStores }, { on := 30, ground := Ground.textOnly Departure.lateStores }, { on := 31, ground := Ground.textOnly Departure.lateStores }, { on := 32, ground := Ground.textOnly Departure.lateStores }, { on := 33, ground := Ground.textOnly Departure.lateStores }, { on := 34, ground := Ground.textOnly Departure.lateStoresUnsure }, ⟨35, .phase⟩], none⟩ (v := ?_) ?_ (fun _ => by assumption) ?_
        rotate_left
        · intro w hSw
          try dsimp only at hSw
          go_simp
          try with_reducible rfl
        try simp only [Act.put, List.setIfInBounds_toArray, List.set_cons_zero, List.set_cons_succ]
        refine onG 37 ⟨none, .store 5 (.tmp 49) (.tmp 38), 0, _, #[⟨36, .data⟩, ⟨25, .data⟩, ⟨0, .phase⟩, ⟨1, .phase⟩, ⟨2, .phase⟩, ⟨3, .phase⟩, ⟨4, .phase⟩, ⟨5, .phase⟩, ⟨6, .phase⟩, ⟨7, .phase⟩, { on := 8, ground := Ground.textOnly Departure.lateStores }, { on := 9, ground := Ground.textOnly Departure.lateStores }, { on := 10, ground := Ground.textOnly Departure.lateStores }, { on := 11, ground := Ground.textOnly Departure.lateStores }, { on := 12, ground := Ground.textOnly Departure.lateStores }, { on := 13, ground := Ground.textOnly Departure.lateStores }, { on := 14, ground := Ground.textOnly Departure.lateStores }, { on := 15, ground := Ground.textOnly Departure.lateStores }, ⟨16, .phase⟩, ⟨17, .phase⟩, ⟨18, .phase⟩, ⟨19, .phase⟩, ⟨20, .phase⟩, ⟨21, .phase⟩, ⟨22, .phase⟩, ⟨23, .phase⟩, ⟨24, .phase⟩, ⟨25, .phase⟩, { on := 26, ground := Ground.textOnly Departure.lateStores }, { on := 27, ground := Ground.textOnly Departure.lateStores }, { on := 28, ground := Ground.textOnly Departure.lateStores }, { on := 29, ground := Ground.textOnly Departure.lateStores }, { on := 30, ground := Ground.textOnly Departure.lateStores }, { on := 31, ground := Ground.textOnly Departure.lateStores }, { on := 32, ground := Ground.textOnly Departure.lateStores }, { on := 33, ground := Ground.textOnly Departure.lateStores }, { on := 34, ground := Ground.textOnly Departure.lateStoresUnsure }, ⟨35, .phase⟩], none⟩ (fun K hK => ?_)
        obtain ⟨s3, s4⟩ := HX.out
        go_simp
        try dsimp only
        clear s3 s4
        try dsimp only
        refine hK.out _ _ ?_ (fun hHeld => ?_)
        · intro _
          try dsimp only
          exact (cells3 H6.out.var).1
        clear hK K
        try simp only [Act.put, List.setIfInBounds_toArray, List.set_cons_zero, List.set_cons_succ]
        have hHeld := hHeld (by kernel_rfl)
        refine puG 38 ⟨some 50, .indexAddr 22 (.tmp 22) (.tmp 28), 0, _, #[⟨9, .data⟩, ⟨15, .data⟩, ⟨0, .phase⟩, ⟨1, .phase⟩, ⟨2, .phase⟩, ⟨3, .phase⟩, ⟨4, .phase⟩, ⟨5, .phase⟩, ⟨6, .phase⟩, ⟨7, .phase⟩, ⟨8, .phase⟩, ⟨9, .phase⟩, ⟨10, .phase⟩, ⟨11, .phase⟩, ⟨12, .phase⟩, ⟨13, .phase⟩, ⟨14, .phase⟩, ⟨15, .phase⟩, ⟨16, .phase⟩, ⟨17, .phase⟩, ⟨18, .phase⟩, ⟨19, .phase⟩, ⟨20, .phase⟩, ⟨21, .phase⟩, ⟨22, .phase⟩, ⟨23, .phase⟩, ⟨24, .phase⟩, ⟨25, .phase⟩, ⟨26, .phase⟩, ⟨27, .phase⟩, ⟨28, .phase⟩, ⟨29, .phase⟩, ⟨30, .phase⟩, ⟨31, .phase⟩, ⟨32, .phase⟩, ⟨33, .phase⟩, ⟨34, .phase⟩, ⟨35, .phase⟩, ⟨36, .phase⟩, ⟨37, .phase⟩], none⟩ (v := ?_) ?_ (fun _ => by assumption) ?_
        rotate_left
        · intro w hSw
          try dsimp only at hSw
          go_simp
          try with_reducible rfl
        try simp only [Act.put, List.setIfInBounds_toArray, List.set_cons_zero, List.set_cons_succ]
        refine onG 39 ⟨none, .store 5 (.tmp 50) (.tmp 48), 0, _, #[⟨38, .data⟩, ⟨35, .data⟩, ⟨37, .chain⟩, ⟨0, .phase⟩, ⟨1, .phase⟩, ⟨2, .phase⟩, ⟨3, .phase⟩, ⟨4, .phase⟩, ⟨5, .phase⟩, ⟨6, .phase⟩, ⟨7, .phase⟩, ⟨8, .phase⟩, ⟨9, .phase⟩, ⟨10, .phase⟩, ⟨11, .phase⟩, ⟨12, .phase⟩, ⟨13, .phase⟩, ⟨14, .phase⟩, ⟨15, .phase⟩, ⟨16, .phase⟩, ⟨17, .phase⟩, ⟨18, .phase⟩, ⟨19, .phase⟩, ⟨20, .phase⟩, ⟨21, .phase⟩, ⟨22, .phase⟩, ⟨23, .phase⟩, ⟨24, .phase⟩, ⟨25, .phase⟩, ⟨26, .phase⟩, ⟨27, .phase⟩, ⟨28, .phase⟩, ⟨29, .phase⟩, ⟨30, .phase⟩, ⟨31, .phase⟩, ⟨32, .phase⟩, ⟨33, .phase⟩, ⟨34, .phase⟩, ⟨35, .phase⟩, ⟨36, .phase⟩, ⟨37, .phase⟩], none⟩ (fun K hK => ?_)
        obtain ⟨s5, s6⟩ := HY2.out
        go_simp
        try dsimp only
        clear s5 s6
        try dsimp only
        refine hK.out _ _ ?_ (fun hHeld => ?_)
        · intro _
          try dsimp only
          exact (cells3 H7.out.var).1
        clear hK K
        try simp only [Act.put, List.setIfInBounds_toArray, List.set_cons_zero, List.set_cons_succ]
        have hHeld := hHeld (by kernel_rfl)
        refine wpAnyG_done (by kernel_rfl) ?_ _
        refine NoPanic.normal ?_
        clear hHeld
        go_wp2_with fail
        go_roundw
        case rel =>
          refine ⟨j + 1, by simp, HJ.out, ?_⟩
          have h := H7.out
          have hm : upd (upd (swapUp m a b j) a j y) b j x = swapUp m a b (j + 1) := by
            funext i k
            have h := swapUp_step m a b j i k
            rw [HE.out.2.2.1, HE.out.2.2.2] at h
            exact h
          rw [hm] at h
          exact h
        case measure => simp [intOf]; omega
      · skip
        obtain ⟨s3, s4⟩ := HX.out
        go_simp
        try dsimp only
        clear s3 s4
        try dsimp only
        refine hK.out _ _ ?_ (fun hHeld => ?_)
        · intro _
          try dsimp only
          exact (cells3 H5.out.var).1
        clear hK K
        try simp only [Act.put, List.setIfInBounds_toArray, List.set_cons_zero, List.set_cons_succ]
        have hHeld := hHeld (by kernel_rfl)
        refine onG 25 ⟨some 38, .load 5 (.tmp 37), 5, _, #[⟨24, .data⟩], none⟩ (fun K hK => ?_)
        obtain ⟨s3, s4⟩ := HY.out
        go_simp
        try dsimp only
        clear s3 s4
        try dsimp only
        refine hK.out _ _ ?_ (fun hHeld => ?_)
        · intro _
          try dsimp only
          exact (cells3 H5.out.var).1
        clear hK K
        try simp only [Act.put, List.setIfInBounds_toArray, List.set_cons_zero, List.set_cons_succ]
        have hHeld := hHeld (by kernel_rfl)
        refine puG 36 ⟨some 49, .indexAddr 22 (.tmp 14) (.tmp 20), 0, _, #[⟨1, .data⟩, ⟨7, .data⟩, ⟨0, .phase⟩, ⟨1, .phase⟩, ⟨2, .phase⟩, ⟨3, .phase⟩, ⟨4, .phase⟩, ⟨5, .phase⟩, ⟨6, .phase⟩, ⟨7, .phase⟩, { on := 8, ground := Ground.textOnly Departure.lateStores }, { on := 9, ground := Ground.textOnly Departure.lateStores }, { on := 10, ground := Ground.textOnly Departure.lateStores }, { on := 11, ground := Ground.textOnly Departure.lateStores }, { on := 12, ground := Ground.textOnly Departure.lateStores }, { on := 13, ground := Ground.textOnly Departure.lateStores }, { on := 14, ground := Ground.textOnly Departure.lateStores }, { on := 15, ground := Ground.textOnly Departure.lateStores }, ⟨16, .phase⟩, ⟨17, .phase⟩, ⟨18, .phase⟩, ⟨19, .phase⟩, ⟨20, .phase⟩, ⟨21, .phase⟩, ⟨22, .phase⟩, ⟨23, .phase⟩, ⟨24, .phase⟩, ⟨25, .phase⟩, { on := 26, ground := Ground.textOnly Departure.lateStores }, { on := 27, ground := Ground.textOnly Departure.lateStores }, { on := 28, ground := Ground.textOnly Departure.lateStores }, { on := 29, ground := Ground.textOnly Departure.lateStores }, { on := 30, ground := Ground.textOnly Departure.lateStores }, { on := 31, ground := Ground.textOnly Departure.lateStores }, { on := 32, ground := Ground.textOnly Departure.lateStores }, { on := 33, ground := Ground.textOnly Departure.lateStores }, { on := 34, ground := Ground.textOnly Departure.lateStoresUnsure }, ⟨35, .phase⟩], none⟩ (v := ?_) ?_ (fun _ => by assumption) ?_
        rotate_left
        · intro w hSw
          try dsimp only at hSw
          go_simp
          try with_reducible rfl
        try simp only [Act.put, List.setIfInBounds_toArray, List.set_cons_zero, List.set_cons_succ]
        refine onG 37 ⟨none, .store 5 (.tmp 49) (.tmp 38), 0, _, #[⟨36, .data⟩, ⟨25, .data⟩, ⟨0, .phase⟩, ⟨1, .phase⟩, ⟨2, .phase⟩, ⟨3, .phase⟩, ⟨4, .phase⟩, ⟨5, .phase⟩, ⟨6, .phase⟩, ⟨7, .phase⟩, { on := 8, ground := Ground.textOnly Departure.lateStores }, { on := 9, ground := Ground.textOnly Departure.lateStores }, { on := 10, ground := Ground.textOnly Departure.lateStores }, { on := 11, ground := Ground.textOnly Departure.lateStores }, { on := 12, ground := Ground.textOnly Departure.lateStores }, { on := 13, ground := Ground.textOnly Departure.lateStores }, { on := 14, ground := Ground.textOnly Departure.lateStores }, { on := 15, ground := Ground.textOnly Departure.lateStores }, ⟨16, .phase⟩, ⟨17, .phase⟩, ⟨18, .phase⟩, ⟨19, .phase⟩, ⟨20, .phase⟩, ⟨21, .phase⟩, ⟨22, .phase⟩, ⟨23, .phase⟩, ⟨24, .phase⟩, ⟨25, .phase⟩, { on := 26, ground := Ground.textOnly Departure.lateStores }, { on := 27, ground := Ground.textOnly Departure.lateStores }, { on := 28, ground := Ground.textOnly Departure.lateStores }, { on := 29, ground := Ground.textOnly Departure.lateStores }, { on := 30, ground := Ground.textOnly Departure.lateStores }, { on := 31, ground := Ground.textOnly Departure.lateStores }, { on := 32, ground := Ground.textOnly Departure.lateStores }, { on := 33, ground := Ground.textOnly Departure.lateStores }, { on := 34, ground := Ground.textOnly Departure.lateStoresUnsure }, ⟨35, .phase⟩], none⟩ (fun K hK => ?_)
        obtain ⟨s3, s4⟩ := HX.out
        go_simp
        try dsimp only
        clear s3 s4
        try dsimp only
        refine hK.out _ _ ?_ (fun hHeld => ?_)
        · intro _
          try dsimp only
          exact (cells3 H6.out.var).1
        clear hK K
        try simp only [Act.put, List.setIfInBounds_toArray, List.set_cons_zero, List.set_cons_succ]
        have hHeld := hHeld (by kernel_rfl)
        refine puG 38 ⟨some 50, .indexAddr 22 (.tmp 22) (.tmp 28), 0, _, #[⟨9, .data⟩, ⟨15, .data⟩, ⟨0, .phase⟩, ⟨1, .phase⟩, ⟨2, .phase⟩, ⟨3, .phase⟩, ⟨4, .phase⟩, ⟨5, .phase⟩, ⟨6, .phase⟩, ⟨7, .phase⟩, ⟨8, .phase⟩, ⟨9, .phase⟩, ⟨10, .phase⟩, ⟨11, .phase⟩, ⟨12, .phase⟩, ⟨13, .phase⟩, ⟨14, .phase⟩, ⟨15, .phase⟩, ⟨16, .phase⟩, ⟨17, .phase⟩, ⟨18, .phase⟩, ⟨19, .phase⟩, ⟨20, .phase⟩, ⟨21, .phase⟩, ⟨22, .phase⟩, ⟨23, .phase⟩, ⟨24, .phase⟩, ⟨25, .phase⟩, ⟨26, .phase⟩, ⟨27, .phase⟩, ⟨28, .phase⟩, ⟨29, .phase⟩, ⟨30, .phase⟩, ⟨31, .phase⟩, ⟨32, .phase⟩, ⟨33, .phase⟩, ⟨34, .phase⟩, ⟨35, .phase⟩, ⟨36, .phase⟩, ⟨37, .phase⟩], none⟩ (v := ?_) ?_ (fun _ => by assumption) ?_
        rotate_left
        · intro w hSw
          try dsimp only at hSw
          go_simp
          try with_reducible rfl
        try simp only [Act.put, List.setIfInBounds_toArray, List.set_cons_zero, List.set_cons_succ]
        refine onG 39 ⟨none, .store 5 (.tmp 50) (.tmp 48), 0, _, #[⟨38, .data⟩, ⟨35, .data⟩, ⟨37, .chain⟩, ⟨0, .phase⟩, ⟨1, .phase⟩, ⟨2, .phase⟩, ⟨3, .phase⟩, ⟨4, .phase⟩, ⟨5, .phase⟩, ⟨6, .phase⟩, ⟨7, .phase⟩, ⟨8, .phase⟩, ⟨9, .phase⟩, ⟨10, .phase⟩, ⟨11, .phase⟩, ⟨12, .phase⟩, ⟨13, .phase⟩, ⟨14, .phase⟩, ⟨15, .phase⟩, ⟨16, .phase⟩, ⟨17, .phase⟩, ⟨18, .phase⟩, ⟨19, .phase⟩, ⟨20, .phase⟩, ⟨21, .phase⟩, ⟨22, .phase⟩, ⟨23, .phase⟩, ⟨24, .phase⟩, ⟨25, .phase⟩, ⟨26, .phase⟩, ⟨27, .phase⟩, ⟨28, .phase⟩, ⟨29, .phase⟩, ⟨30, .phase⟩, ⟨31, .phase⟩, ⟨32, .phase⟩, ⟨33, .phase⟩, ⟨34, .phase⟩, ⟨35, .phase⟩, ⟨36, .phase⟩, ⟨37, .phase⟩], none⟩ (fun K hK => ?_)
        obtain ⟨s5, s6⟩ := HY2.out
        go_simp
        try dsimp only
        clear s5 s6
        try dsimp only
        refine hK.out _ _ ?_ (fun hHeld => ?_)
        · intro _
          try dsimp only
          exact (cells3 H7.out.var).1
        clear hK K
        try simp only [Act.put, List.setIfInBounds_toArray, List.set_cons_zero, List.set_cons_succ]
        have hHeld := hHeld (by kernel_rfl)
        refine wpAnyG_done (by kernel_rfl) ?_ _
        refine NoPanic.normal ?_
        clear hHeld
        go_wp2_with fail
        go_roundw
        case rel =>
          refine ⟨j + 1, by simp, HJ.out, ?_⟩
          have h := H7.out
          have hm : upd (upd (swapUp m a b j) a j y) b j x = swapUp m a b (j + 1) := by
            funext i k
            have h := swapUp_step m a b j i k
            rw [HE.out.2.2.1, HE.out.2.2.2] at h
            exact h
          rw [hm] at h
          exact h
        case measure => simp [intOf]; omega
    · obtain rfl : j = c := by omega
      go_wp2_with fail
      refine bodyPost_ret (results_none rfl _ _ _) rfl ?_
      exact ⟨rfl, H4.out.row.congr fun i _ k hk => by unfold swapUp; rw [if_pos hk], H4.out.fr⟩
end Go.Proofs.Ythdapoipfnnaeaa.MxW
/- The document's Mul. -/
namespace Go.Proofs.Ythdapoipfnnaeaa.MxW
open Go.RowKit Go.Shelf Mem Gf FdW Mx Rng
open PlW (In)
set_option linter.unusedVariables false
set_option linter.unusedSectionVars false
attribute [local go_sem] Oper.semAt_some wide_fn
theorem Mx_xor8 (x y : UInt8) : bits .xor .u8 (x.toNat : Int) (y.toNat : Int) = ((x ^^^ y).toNat : Int) := by rw [u8_xor_nat _ _ x.toNat_lt y.toNat_lt, UInt8.toNat_xor]
set_option maxRecDepth 100000 in
set_option maxHeartbeats 4000000 in
theorem rmul_bad1 (w : World) (R C R' C' : Int) (A A' : Option Addr) (n cap n' cap' : Nat) (hrt : rightB R C n = false) :
    Calls Try.prog 19 #[.agg #[.int .i64 R, .int .i64 C, .slice A n cap], .agg #[.int .i64 R', .int .i64 C', .slice A' n' cap']] w (ErrM w 50) := by
  have HRT := Lib.hid hrt
  have H0 := Lib.hid ((((BS.start w).put #[.int .i64 R, .int .i64 C, .slice A n cap] 38 (by decide)).put #[.int .i64 R', .int .i64 C', .slice A' n' cap'] 38 (by decide)).put #[.int .i64 0, .int .i64 0, .slice none 0 0] 38 (by decide))
  go_enter Try.func19, Try.ntmps19
  go_wp2_with fail
  generalize ((w.alloc (.cells #[.int .i64 R, .int .i64 C, .slice A n cap] 38)).alloc (.cells #[.int .i64 R', .int .i64 C', .slice A' n' cap'] 38)).alloc (.cells #[.int .i64 0, .int .i64 0, .slice none 0 0] 38) = w1 at *
  simp only [World.size_alloc] at H0
  obtain ⟨ga, hga⟩ : ∃ x, w.heap.size = x := ⟨_, rfl⟩
  obtain ⟨gb, hgb⟩ : ∃ x, ga + 1 = x := ⟨_, rfl⟩
  obtain ⟨g0, hg0⟩ : ∃ x, gb + 1 = x := ⟨_, rfl⟩
  rw [hga, hgb, hg0] at H0 ⊢
  have H1 := H0
  clear H0
  refine wp_region_noPanic ?_
  refine wp_heldG (fun w' => (w'.cell? ⟨ga, 0, none⟩ = some (.int .i64 R) ∧ w'.cell? ⟨ga, 1, none⟩ = some (.int .i64 C) ∧ w'.cell? ⟨ga, 2, none⟩ = some (.slice A n cap)) ∧ (w'.cell? ⟨gb, 0, none⟩ = some (.int .i64 R') ∧ w'.cell? ⟨gb, 1, none⟩ = some (.int .i64 C') ∧ w'.cell? ⟨gb, 2, none⟩ = some (.slice A' n' cap'))) [] (by kernel_rfl) ?hs0 ?rg0
  case hs0 =>
    have h := H1.out.keep (nextN (Mem.start w1) 1)
    exact ⟨(h.cells (.tail _ (.tail _ (.head _)))).1, (h.cells (.tail _ (.head _))).1⟩
  case rg0 =>
  intro hHeld
  refine tkG 0 ⟨some 10, .load 38 (.tmp 2), 38, _, #[], none⟩ (v := ?_) ?_ (by assumption) ?_
  rotate_left
  · intro w hSw
    try dsimp only at hSw
    obtain ⟨⟨k0, k1, k2⟩, ⟨l0, l1, l2⟩⟩ := hSw
    go_simp
    try with_reducible rfl
  try simp only [Act.put, List.setIfInBounds_toArray, List.set_cons_zero, List.set_cons_succ]
  refine onG 1 ⟨some 11, .call { callee := Callee.value (Operand.func 37), args := #[.tmp 10], argTypes := #[38] }, 4, _, #[⟨0, .data⟩], none⟩ (fun K hK => ?_)
  have H2 := Lib.hid (show BS w _ w1.drew from H1.out.keep (nextN (Mem.start w1) 1))
  go_simp
  refine (rright_any _ _ _ A n cap).mono ?_
  rintro e w3 ⟨rfl, hb⟩
  rw [HRT.out]
  have H3 := Lib.hid (H2.out.keep hb)
  clear hb
  try dsimp only
  refine hK.out _ _ ?_ (fun hHeld => ?_)
  · intro _
    try dsimp only
    exact ⟨(H3.out.cells (.tail _ (.tail _ (.head _)))).1, (H3.out.cells (.tail _ (.head _))).1⟩
  clear hK K
  try simp only [Act.put, List.setIfInBounds_toArray, List.set_cons_zero, List.set_cons_succ]
  have hHeld := hHeld (by kernel_rfl)
  refine puG 2 ⟨some 12, .unOp UnOp.not 4 (.tmp 11), 4, _, #[⟨1, .data⟩], none⟩ (v := ?_) ?_ (fun _ => by assumption) ?_
  rotate_left
  · intro w hSw
    try dsimp only at hSw
    go_simp
    try with_reducible rfl
  try simp only [Act.put, List.setIfInBounds_toArray, List.set_cons_zero, List.set_cons_succ]
  refine puG 3 ⟨some 13, .move (.tmp 12), 4, _, #[⟨2, .data⟩, ⟨1, .chain⟩], none⟩ (v := ?_) ?_ (fun _ => by assumption) ?_
  rotate_left
  · intro w hSw
    try dsimp only at hSw
    go_simp
    try with_reducible rfl
  try simp only [Act.put, List.setIfInBounds_toArray, List.set_cons_zero, List.set_cons_succ]
  refine ofG 4 ⟨some 14, .load 38 (.tmp 3), 38, _, #[⟨3, .guard⟩], some (3, false)⟩ (fun _ => by assumption) ?_
  try simp only [Act.put, List.setIfInBounds_toArray, List.set_cons_zero, List.set_cons_succ]
  refine ofG 5 ⟨some 15, .call { callee := Callee.value (Operand.func 37), args := #[.tmp 14], argTypes := #[38] }, 4, _, #[⟨4, .data⟩, ⟨3, .chain⟩, ⟨3, .guard⟩], some (3, false)⟩ (fun _ => by assumption) ?_
  try simp only [Act.put, List.setIfInBounds_toArray, List.set_cons_zero, List.set_cons_succ]
  refine ofG 6 ⟨some 16, .unOp UnOp.not 4 (.tmp 15), 4, _, #[⟨5, .data⟩, ⟨3, .guard⟩], some (3, false)⟩ (fun _ => by assumption) ?_
  try simp only [Act.put, List.setIfInBounds_toArray, List.set_cons_zero, List.set_cons_succ]
  refine puG 7 ⟨some 17, .pick (.tmp 13) (Operand.const (Value.bool true)) (.tmp 16), 4, _, #[⟨3, .data⟩, ⟨6, .data⟩], none⟩ (v := ?_) ?_ (fun _ => by assumption) ?_
  rotate_left
  · intro w hSw
    try dsimp only at hSw
    go_simp
    try with_reducible rfl
  try simp only [Act.put, List.setIfInBounds_toArray, List.set_cons_zero, List.set_cons_succ]
  refine puG 8 ⟨some 18, .move (.tmp 17), 4, _, #[⟨7, .data⟩, ⟨5, .chain⟩], none⟩ (v := ?_) ?_ (fun _ => by assumption) ?_
  rotate_left
  · intro w hSw
    try dsimp only at hSw
    go_simp
    try with_reducible rfl
  try simp only [Act.put, List.setIfInBounds_toArray, List.set_cons_zero, List.set_cons_succ]
  refine ofG 9 ⟨some 19, .fieldAddr 38 (.tmp 2) 1, 0, _, #[⟨8, .guard⟩], some (8, false)⟩ (fun _ => by assumption) ?_
  try simp only [Act.put, List.setIfInBounds_toArray, List.set_cons_zero, List.set_cons_succ]
  refine ofG 10 ⟨some 20, .load 3 (.tmp 19), 3, _, #[⟨9, .data⟩, ⟨8, .guard⟩], some (8, false)⟩ (fun _ => by assumption) ?_
  try simp only [Act.put, List.setIfInBounds_toArray, List.set_cons_zero, List.set_cons_succ]
  refine ofG 11 ⟨some 21, .fieldAddr 38 (.tmp 3) 0, 0, _, #[⟨8, .guard⟩], some (8, false)⟩ (fun _ => by assumption) ?_
  try simp only [Act.put, List.setIfInBounds_toArray, List.set_cons_zero, List.set_cons_succ]
  refine ofG 12 ⟨some 22, .load 3 (.tmp 21), 3, _, #[⟨11, .data⟩, ⟨8, .guard⟩], some (8, false)⟩ (fun _ => by assumption) ?_
  try simp only [Act.put, List.setIfInBounds_toArray, List.set_cons_zero, List.set_cons_succ]
  refine ofG 13 ⟨some 23, .binOp BinOp.neq 3 (.tmp 20) (.tmp 22) 3, 4, _, #[⟨10, .data⟩, ⟨12, .data⟩, ⟨8, .guard⟩], some (8, false)⟩ (fun _ => by assumption) ?_
  try simp only [Act.put, List.setIfInBounds_toArray, List.set_cons_zero, List.set_cons_succ]
  refine puG 14 ⟨some 24, .pick (.tmp 18) (Operand.const (Value.bool true)) (.tmp 23), 4, _, #[⟨8, .data⟩, ⟨13, .data⟩], none⟩ (v := ?_) ?_ (fun _ => by assumption) ?_
  rotate_left
  · intro w hSw
    try dsimp only at hSw
    go_simp
    try with_reducible rfl
  try simp only [Act.put, List.setIfInBounds_toArray, List.set_cons_zero, List.set_cons_succ]
  refine puG 15 ⟨some 25, .move (.tmp 24), 4, _, #[⟨14, .data⟩, ⟨8, .chain⟩], none⟩ (v := ?_) ?_ (fun _ => by assumption) ?_
  rotate_left
  · intro w hSw
    try dsimp only at hSw
    go_simp
    try with_reducible rfl
  try simp only [Act.put, List.setIfInBounds_toArray, List.set_cons_zero, List.set_cons_succ]
  refine ofG 16 ⟨some 26, .fieldAddr 38 (.tmp 2) 0, 0, _, #[⟨15, .guard⟩], some (15, false)⟩ (fun _ => by assumption) ?_
  try simp only [Act.put, List.setIfInBounds_toArray, List.set_cons_zero, List.set_cons_succ]
  refine ofG 17 ⟨some 27, .load 3 (.tmp 26), 3, _, #[⟨16, .data⟩, ⟨15, .guard⟩], some (15, false)⟩ (fun _ => by assumption) ?_
  try simp only [Act.put, List.setIfInBounds_toArray, List.set_cons_zero, List.set_cons_succ]
  refine ofG 18 ⟨some 28, .binOp BinOp.gtr 3 (.tmp 27) (Operand.const (Value.int IntKind.i64 0)) 3, 4, _, #[⟨17, .data⟩, ⟨15, .guard⟩], some (15, false)⟩ (fun _ => by assumption) ?_
  try simp only [Act.put, List.setIfInBounds_toArray, List.set_cons_zero, List.set_cons_succ]
  refine ofG 19 ⟨some 29, .move (.tmp 28), 4, _, #[⟨18, .data⟩, ⟨15, .chain⟩, ⟨15, .guard⟩], some (15, false)⟩ (fun _ => by assumption) ?_
  try simp only [Act.put, List.setIfInBounds_toArray, List.set_cons_zero, List.set_cons_succ]
  refine ofG 20 ⟨some 30, .fieldAddr 38 (.tmp 3) 1, 0, _, #[⟨19, .guard⟩], some (19, true)⟩ (fun _ => by assumption) ?_
  try simp only [Act.put, List.setIfInBounds_toArray, List.set_cons_zero, List.set_cons_succ]
  refine ofG 21 ⟨some 31, .load 3 (.tmp 30), 3, _, #[⟨20, .data⟩, ⟨19, .guard⟩], some (19, true)⟩ (fun _ => by assumption) ?_
  try simp only [Act.put, List.setIfInBounds_toArray, List.set_cons_zero, List.set_cons_succ]
  refine ofG 22 ⟨some 32, .fieldAddr 38 (.tmp 2) 0, 0, _, #[⟨19, .guard⟩], some (19, true)⟩ (fun _ => by assumption) ?_
  try simp only [Act.put, List.setIfInBounds_toArray, List.set_cons_zero, List.set_cons_succ]
  refine ofG 23 ⟨some 33, .load 3 (.tmp 32), 3, _, #[⟨22, .data⟩, ⟨19, .guard⟩], some (19, true)⟩ (fun _ => by assumption) ?_
  try simp only [Act.put, List.setIfInBounds_toArray, List.set_cons_zero, List.set_cons_succ]
  refine ofG 24 ⟨some 34, .binOp BinOp.quo 3 (Operand.const (Value.int IntKind.i64 16777216)) (.tmp 33) 3, 3, _, #[⟨23, .data⟩, ⟨19, .guard⟩], some (19, true)⟩ (fun _ => by assumption) ?_
  try simp only [Act.put, List.setIfInBounds_toArray, List.set_cons_zero, List.set_cons_succ]
  refine ofG 25 ⟨some 35, .binOp BinOp.gtr 3 (.tmp 31) (.tmp 34) 3, 4, _, #[⟨21, .data⟩, ⟨24, .data⟩, ⟨19, .guard⟩], some (19, true)⟩ (fun _ => by assumption) ?_
  try simp only [Act.put, List.setIfInBounds_toArray, List.set_cons_zero, List.set_cons_succ]
  refine ofG 26 ⟨some 36, .pick (.tmp 29) (.tmp 35) (Operand.const (Value.bool false)), 4, _, #[⟨19, .data⟩, ⟨25, .data⟩, ⟨15, .guard⟩], some (15, false)⟩ (fun _ => by assumption) ?_
  try simp only [Act.put, List.setIfInBounds_toArray, List.set_cons_zero, List.set_cons_succ]
  refine puG 27 ⟨some 37, .pick (.tmp 25) (Operand.const (Value.bool true)) (.tmp 36), 4, _, #[⟨15, .data⟩, ⟨26, .data⟩], none⟩ (v := ?_) ?_ (fun _ => by assumption) ?_
  rotate_left
  · intro w hSw
    try dsimp only at hSw
    go_simp
    try with_reducible rfl
  try simp only [Act.put, List.setIfInBounds_toArray, List.set_cons_zero, List.set_cons_succ]
  refine wpAnyG_done (by kernel_rfl) ?_ _
  refine NoPanic.normal ?_
  clear hHeld
  obtain ⟨⟨d0, d1, d2⟩, f0, f1, f2⟩ := H3.out.cells (.head _)
  have hfin := H3.out.end_ (.head _) (.int .i64 0) (.int .i64 0) (.slice none 0 0)
  go_wp2_with fail
  obtain ⟨h1, h2, e0, e1, e2⟩ := hfin
  exact bodyPost_ret (v := .tuple #[.agg #[.int .i64 0, .int .i64 0, .slice none 0 0], .int .i64 50]) (by simp [results, Try.results19, go_sem, e0, e1, e2]) rfl ⟨rfl, h1⟩
set_option maxRecDepth 100000 in
set_option maxHeartbeats 4000000 in
theorem rmul_bad2 (w : World) (R C R' C' : Int) (A A' : Option Addr) (n cap n' cap' : Nat) (hrt : rightB R C n = true) (hrt2 : rightB R' C' n' = false) :
    Calls Try.prog 19 #[.agg #[.int .i64 R, .int .i64 C, .slice A n cap], .agg #[.int .i64 R', .int .i64 C', .slice A' n' cap']] w (ErrM w 50) := by
  have HRT := Lib.hid hrt
  have HRT2 := Lib.hid hrt2
  have H0 := Lib.hid ((((BS.start w).put #[.int .i64 R, .int .i64 C, .slice A n cap] 38 (by decide)).put #[.int .i64 R', .int .i64 C', .slice A' n' cap'] 38 (by decide)).put #[.int .i64 0, .int .i64 0, .slice none 0 0] 38 (by decide))
  go_enter Try.func19, Try.ntmps19
  go_wp2_with fail
  generalize ((w.alloc (.cells #[.int .i64 R, .int .i64 C, .slice A n cap] 38)).alloc (.cells #[.int .i64 R', .int .i64 C', .slice A' n' cap'] 38)).alloc (.cells #[.int .i64 0, .int .i64 0, .slice none 0 0] 38) = w1 at *
  simp only [World.size_alloc] at H0
  obtain ⟨ga, hga⟩ : ∃ x, w.heap.size = x := ⟨_, rfl⟩
  obtain ⟨gb, hgb⟩ : ∃ x, ga + 1 = x := ⟨_, rfl⟩
  obtain ⟨g0, hg0⟩ : ∃ x, gb + 1 = x := ⟨_, rfl⟩
  rw [hga, hgb, hg0] at H0 ⊢
  have H1 := H0
  clear H0
  refine wp_region_noPanic ?_
  refine wp_heldG (fun w' => (w'.cell? ⟨ga, 0, none⟩ = some (.int .i64 R) ∧ w'.cell? ⟨ga, 1, none⟩ = some (.int .i64 C) ∧ w'.cell? ⟨ga, 2, none⟩ = some (.slice A n cap)) ∧ (w'.cell? ⟨gb, 0, none⟩ = some (.int .i64 R') ∧ w'.cell? ⟨gb, 1, none⟩ = some (.int .i64 C') ∧ w'.cell? ⟨gb, 2, none⟩ = some (.slice A' n' cap'))) [] (by kernel_rfl) ?hs0 ?rg0
  case hs0 =>
    have h := H1.out.keep (nextN (Mem.start w1) 1)
    exact ⟨(h.cells (.tail _ (.tail _ (.head _)))).1, (h.cells (.tail _ (.head _))).1⟩
  case rg0 =>
  intro hHeld
  refine tkG 0 ⟨some 10, .load 38 (.tmp 2), 38, _, #[], none⟩ (v := ?_) ?_ (by assumption) ?_
  rotate_left
  · intro w hSw
    try dsimp only at hSw
    obtain ⟨⟨k0, k1, k2⟩, ⟨l0, l1, l2⟩⟩ := hSw
    go_simp
    try with_reducible rfl
  try simp only [Act.put, List.setIfInBounds_toArray, List.set_cons_zero, List.set_cons_succ]
  refine onG 1 ⟨some 11, .call { callee := Callee.value (Operand.func 37), args := #[.tmp 10], argTypes := #[38] }, 4, _, #[⟨0, .data⟩], none⟩ (fun K hK => ?_)
  have H2 := Lib.hid (show BS w _ w1.drew from H1.out.keep (nextN (Mem.start w1) 1))
  go_simp
  refine (rright_any _ _ _ A n cap).mono ?_
  rintro e w3 ⟨rfl, hb⟩
  rw [HRT.out]
  have H3 := Lib.hid (H2.out.keep hb)
  clear hb
  try dsimp only
  refine hK.out _ _ ?_ (fun hHeld => ?_)
  · intro _
    try dsimp only
    exact ⟨(H3.out.cells (.tail _ (.tail _ (.head _)))).1, (H3.out.cells (.tail _ (.head _))).1⟩
  clear hK K
  try simp only [Act.put, List.setIfInBounds_toArray, List.set_cons_zero, List.set_cons_succ]
  have hHeld := hHeld (by kernel_rfl)
  refine puG 2 ⟨some 12, .unOp UnOp.not 4 (.tmp 11), 4, _, #[⟨1, .data⟩], none⟩ (v := ?_) ?_ (fun _ => by assumption) ?_
  rotate_left
  · intro w hSw
    try dsimp only at hSw
    go_simp
    try with_reducible rfl
  try simp only [Act.put, List.setIfInBounds_toArray, List.set_cons_zero, List.set_cons_succ]
  refine puG 3 ⟨some 13, .move (.tmp 12), 4, _, #[⟨2, .data⟩, ⟨1, .chain⟩], none⟩ (v := ?_) ?_ (fun _ => by assumption) ?_
  rotate_left
  · intro w hSw
    try dsimp only at hSw
    go_simp
    try with_reducible rfl
  try simp only [Act.put, List.setIfInBounds_toArray, List.set_cons_zero, List.set_cons_succ]
  refine tkG 4 ⟨some 14, .load 38 (.tmp 3), 38, _, #[⟨3, .guard⟩], some (3, false)⟩ (v := ?_) ?_ (by assumption) ?_
  rotate_left
  · intro w hSw
    try dsimp only at hSw
    obtain ⟨⟨k0, k1, k2⟩, ⟨l0, l1, l2⟩⟩ := hSw
    go_simp
    try with_reducible rfl
  try simp only [Act.put, List.setIfInBounds_toArray, List.set_cons_zero, List.set_cons_succ]
  refine onG 5 ⟨some 15, .call { callee := Callee.value (Operand.func 37), args := #[.tmp 14], argTypes := #[38] }, 4, _, #[⟨4, .data⟩, ⟨3, .chain⟩, ⟨3, .guard⟩], some (3, false)⟩ (fun K hK => ?_)
  go_simp
  refine (rright_any _ _ _ A' n' cap').mono ?_
  rintro e w4 ⟨rfl, hb⟩
  rw [HRT2.out]
  have H4 := Lib.hid (H3.out.keep hb)
  clear hb
  try dsimp only
  refine hK.out _ _ ?_ (fun hHeld => ?_)
  · intro _
    try dsimp only
    exact ⟨(H4.out.cells (.tail _ (.tail _ (.head _)))).1, (H4.out.cells (.tail _ (.head _))).1⟩
  clear hK K
  try simp only [Act.put, List.setIfInBounds_toArray, List.set_cons_zero, List.set_cons_succ]
  have hHeld := hHeld (by kernel_rfl)
  refine puG 6 ⟨some 16, .unOp UnOp.not 4 (.tmp 15), 4, _, #[⟨5, .data⟩, ⟨3, .guard⟩], some (3, false)⟩ (v := ?_) ?_ (fun _ => by assumption) ?_
  rotate_left
  · intro w hSw
    try dsimp only at hSw
    go_simp
    try with_reducible rfl
  try simp only [Act.put, List.setIfInBounds_toArray, List.set_cons_zero, List.set_cons_succ]
  refine puG 7 ⟨some 17, .pick (.tmp 13) (Operand.const (Value.bool true)) (.tmp 16), 4, _, #[⟨3, .data⟩, ⟨6, .data⟩], none⟩ (v := ?_) ?_ (fun _ => by assumption) ?_
  rotate_left
  · intro w hSw
    try dsimp only at hSw
    go_simp
    try with_reducible rfl
  try simp only [Act.put, List.setIfInBounds_toArray, List.set_cons_zero, List.set_cons_succ]
  refine puG 8 ⟨some 18, .move (.tmp 17), 4, _, #[⟨7, .data⟩, ⟨5, .chain⟩], none⟩ (v := ?_) ?_ (fun _ => by assumption) ?_
  rotate_left
  · intro w hSw
    try dsimp only at hSw
    go_simp
    try with_reducible rfl
  try simp only [Act.put, List.setIfInBounds_toArray, List.set_cons_zero, List.set_cons_succ]
  refine ofG 9 ⟨some 19, .fieldAddr 38 (.tmp 2) 1, 0, _, #[⟨8, .guard⟩], some (8, false)⟩ (fun _ => by assumption) ?_
  try simp only [Act.put, List.setIfInBounds_toArray, List.set_cons_zero, List.set_cons_succ]
  refine ofG 10 ⟨some 20, .load 3 (.tmp 19), 3, _, #[⟨9, .data⟩, ⟨8, .guard⟩], some (8, false)⟩ (fun _ => by assumption) ?_
  try simp only [Act.put, List.setIfInBounds_toArray, List.set_cons_zero, List.set_cons_succ]
  refine ofG 11 ⟨some 21, .fieldAddr 38 (.tmp 3) 0, 0, _, #[⟨8, .guard⟩], some (8, false)⟩ (fun _ => by assumption) ?_
  try simp only [Act.put, List.setIfInBounds_toArray, List.set_cons_zero, List.set_cons_succ]
  refine ofG 12 ⟨some 22, .load 3 (.tmp 21), 3, _, #[⟨11, .data⟩, ⟨8, .guard⟩], some (8, false)⟩ (fun _ => by assumption) ?_
  try simp only [Act.put, List.setIfInBounds_toArray, List.set_cons_zero, List.set_cons_succ]
  refine ofG 13 ⟨some 23, .binOp BinOp.neq 3 (.tmp 20) (.tmp 22) 3, 4, _, #[⟨10, .data⟩, ⟨12, .data⟩, ⟨8, .guard⟩], some (8, false)⟩ (fun _ => by assumption) ?_
  try simp only [Act.put, List.setIfInBounds_toArray, List.set_cons_zero, List.set_cons_succ]
  refine puG 14 ⟨some 24, .pick (.tmp 18) (Operand.const (Value.bool true)) (.tmp 23), 4, _, #[⟨8, .data⟩, ⟨13, .data⟩], none⟩ (v := ?_) ?_ (fun _ => by assumption) ?_
  rotate_left
  · intro w hSw
    try dsimp only at hSw
    go_simp
    try with_reducible rfl
  try simp only [Act.put, List.setIfInBounds_toArray, List.set_cons_zero, List.set_cons_succ]
  refine puG 15 ⟨some 25, .move (.tmp 24), 4, _, #[⟨14, .data⟩, ⟨8, .chain⟩], none⟩ (v := ?_) ?_ (fun _ => by assumption) ?_
  rotate_left
  · intro w hSw
    try dsimp only at hSw
    go_simp
    try with_reducible rfl
  try simp only [Act.put, List.setIfInBounds_toArray, List.set_cons_zero, List.set_cons_succ]
  refine ofG 16 ⟨some 26, .fieldAddr 38 (.tmp 2) 0, 0, _, #[⟨15, .guard⟩], some (15, false)⟩ (fun _ => by assumption) ?_
  try simp only [Act.put, List.setIfInBounds_toArray, List.set_cons_zero, List.set_cons_succ]
  refine ofG 17 ⟨some 27, .load 3 (.tmp 26), 3, _, #[⟨16, .data⟩, ⟨15, .guard⟩], some (15, false)⟩ (fun _ => by assumption) ?_
  try simp only [Act.put, List.setIfInBounds_toArray, List.set_cons_zero, List.set_cons_succ]
  refine ofG 18 ⟨some 28, .binOp BinOp.gtr 3 (.tmp 27) (Operand.const (Value.int IntKind.i64 0)) 3, 4, _, #[⟨17, .data⟩, ⟨15, .guard⟩], some (15, false)⟩ (fun _ => by assumption) ?_
  try simp only [Act.put, List.setIfInBounds_toArray, List.set_cons_zero, List.set_cons_succ]
  refine ofG 19 ⟨some 29, .move (.tmp 28), 4, _, #[⟨18, .data⟩, ⟨15, .chain⟩, ⟨15, .guard⟩], some (15, false)⟩ (fun _ => by assumption) ?_
  try simp only [Act.put, List.setIfInBounds_toArray, List.set_cons_zero, List.set_cons_succ]
  refine ofG 20 ⟨some 30, .fieldAddr 38 (.tmp 3) 1, 0, _, #[⟨19, .guard⟩], some (19, true)⟩ (fun _ => by assumption) ?_
  try simp only [Act.put, List.setIfInBounds_toArray, List.set_cons_zero, List.set_cons_succ]
  refine ofG 21 ⟨some 31, .load 3 (.tmp 30), 3, _, #[⟨20, .data⟩, ⟨19, .guard⟩], some (19, true)⟩ (fun _ => by assumption) ?_
  try simp only [Act.put, List.setIfInBounds_toArray, List.set_cons_zero, List.set_cons_succ]
  refine ofG 22 ⟨some 32, .fieldAddr 38 (.tmp 2) 0, 0, _, #[⟨19, .guard⟩], some (19, true)⟩ (fun _ => by assumption) ?_
  try simp only [Act.put, List.setIfInBounds_toArray, List.set_cons_zero, List.set_cons_succ]
  refine ofG 23 ⟨some 33, .load 3 (.tmp 32), 3, _, #[⟨22, .data⟩, ⟨19, .guard⟩], some (19, true)⟩ (fun _ => by assumption) ?_
  try simp only [Act.put, List.setIfInBounds_toArray, List.set_cons_zero, List.set_cons_succ]
  refine ofG 24 ⟨some 34, .binOp BinOp.quo 3 (Operand.const (Value.int IntKind.i64 16777216)) (.tmp 33) 3, 3, _, #[⟨23, .data⟩, ⟨19, .guard⟩], some (19, true)⟩ (fun _ => by assumption) ?_
  try simp only [Act.put, List.setIfInBounds_toArray, List.set_cons_zero, List.set_cons_succ]
  refine ofG 25 ⟨some 35, .binOp BinOp.gtr 3 (.tmp 31) (.tmp 34) 3, 4, _, #[⟨21, .data⟩, ⟨24, .data⟩, ⟨19, .guard⟩], some (19, true)⟩ (fun _ => by assumption) ?_
  try simp only [Act.put, List.setIfInBounds_toArray, List.set_cons_zero, List.set_cons_succ]
  refine ofG 26 ⟨some 36, .pick (.tmp 29) (.tmp 35) (Operand.const (Value.bool false)), 4, _, #[⟨19, .data⟩, ⟨25, .data⟩, ⟨15, .guard⟩], some (15, false)⟩ (fun _ => by assumption) ?_
  try simp only [Act.put, List.setIfInBounds_toArray, List.set_cons_zero, List.set_cons_succ]
  refine puG 27 ⟨some 37, .pick (.tmp 25) (Operand.const (Value.bool true)) (.tmp 36), 4, _, #[⟨15, .data⟩, ⟨26, .data⟩], none⟩ (v := ?_) ?_ (fun _ => by assumption) ?_
  rotate_left
  · intro w hSw
    try dsimp only at hSw
    go_simp
    try with_reducible rfl
  try simp only [Act.put, List.setIfInBounds_toArray, List.set_cons_zero, List.set_cons_succ]
  refine wpAnyG_done (by kernel_rfl) ?_ _
  refine NoPanic.normal ?_
  clear hHeld
  obtain ⟨⟨d0, d1, d2⟩, f0, f1, f2⟩ := H4.out.cells (.head _)
  have hfin := H4.out.end_ (.head _) (.int .i64 0) (.int .i64 0) (.slice none 0 0)
  go_wp2_with fail
  obtain ⟨h1, h2, e0, e1, e2⟩ := hfin
  exact bodyPost_ret (v := .tuple #[.agg #[.int .i64 0, .int .i64 0, .slice none 0 0], .int .i64 50]) (by simp [results, Try.results19, go_sem, e0, e1, e2]) rfl ⟨rfl, h1⟩
set_option maxRecDepth 100000 in
set_option maxHeartbeats 4000000 in
theorem rmul_bad3 (w : World) (R C R' C' : Int) (A A' : Option Addr) (n cap n' cap' : Nat) (hrt : rightB R C n = true) (hrt2 : rightB R' C' n' = true) (hne : (C != R') = true) :
    Calls Try.prog 19 #[.agg #[.int .i64 R, .int .i64 C, .slice A n cap], .agg #[.int .i64 R', .int .i64 C', .slice A' n' cap']] w (ErrM w 50) := by
  have HRT := Lib.hid hrt
  have HRT2 := Lib.hid hrt2
  have H0 := Lib.hid ((((BS.start w).put #[.int .i64 R, .int .i64 C, .slice A n cap] 38 (by decide)).put #[.int .i64 R', .int .i64 C', .slice A' n' cap'] 38 (by decide)).put #[.int .i64 0, .int .i64 0, .slice none 0 0] 38 (by decide))
  go_enter Try.func19, Try.ntmps19
  go_wp2_with fail
  generalize ((w.alloc (.cells #[.int .i64 R, .int .i64 C, .slice A n cap] 38)).alloc (.cells #[.int .i64 R', .int .i64 C', .slice A' n' cap'] 38)).alloc (.cells #[.int .i64 0, .int .i64 0, .slice none 0 0] 38) = w1 at *
  simp only [World.size_alloc] at H0
  obtain ⟨ga, hga⟩ : ∃ x, w.heap.size = x := ⟨_, rfl⟩
  obtain ⟨gb, hgb⟩ : ∃ x, ga + 1 = x := ⟨_, rfl⟩
  obtain ⟨g0, hg0⟩ : ∃ x, gb + 1 = x := ⟨_, rfl⟩
  rw [hga, hgb, hg0] at H0 ⊢
  have H1 := H0
  clear H0
  refine wp_region_noPanic ?_
  refine wp_heldG (fun w' => (w'.cell? ⟨ga, 0, none⟩ = some (.int .i64 R) ∧ w'.cell? ⟨ga, 1, none⟩ = some (.int .i64 C) ∧ w'.cell? ⟨ga, 2, none⟩ = some (.slice A n cap)) ∧ (w'.cell? ⟨gb, 0, none⟩ = some (.int .i64 R') ∧ w'.cell? ⟨gb, 1, none⟩ = some (.int .i64 C') ∧ w'.cell? ⟨gb, 2, none⟩ = some (.slice A' n' cap'))) [] (by kernel_rfl) ?hs0 ?rg0
  case hs0 =>
    have h := H1.out.keep (nextN (Mem.start w1) 1)
    exact ⟨(h.cells (.tail _ (.tail _ (.head _)))).1, (h.cells (.tail _ (.head _))).1⟩
  case rg0 =>
  intro hHeld
  refine tkG 0 ⟨some 10, .load 38 (.tmp 2), 38, _, #[], none⟩ (v := ?_) ?_ (by assumption) ?_
  rotate_left
  · intro w hSw
    try dsimp only at hSw
    obtain ⟨⟨k0, k1, k2⟩, ⟨l0, l1, l2⟩⟩ := hSw
    go_simp
    try with_reducible rfl
  try simp only [Act.put, List.setIfInBounds_toArray, List.set_cons_zero, List.set_cons_succ]
  refine onG 1 ⟨some 11, .call { callee := Callee.value (Operand.func 37), args := #[.tmp 10], argTypes := #[38] }, 4, _, #[⟨0, .data⟩], none⟩ (fun K hK => ?_)
  have H2 := Lib.hid (show BS w _ w1.drew from H1.out.keep (nextN (Mem.start w1) 1))
  go_simp
  refine (rright_any _ _ _ A n cap).mono ?_
  rintro e w3 ⟨rfl, hb⟩
  rw [HRT.out]
  have H3 := Lib.hid (H2.out.keep hb)
  clear hb
  try dsimp only
  refine hK.out _ _ ?_ (fun hHeld => ?_)
  · intro _
    try dsimp only
    exact ⟨(H3.out.cells (.tail _ (.tail _ (.head _)))).1, (H3.out.cells (.tail _ (.head _))).1⟩
  clear hK K
  try simp only [Act.put, List.setIfInBounds_toArray, List.set_cons_zero, List.set_cons_succ]
  have hHeld := hHeld (by kernel_rfl)
  refine puG 2 ⟨some 12, .unOp UnOp.not 4 (.tmp 11), 4, _, #[⟨1, .data⟩], none⟩ (v := ?_) ?_ (fun _ => by assumption) ?_
  rotate_left
  · intro w hSw
    try dsimp only at hSw
    go_simp
    try with_reducible rfl
  try simp only [Act.put, List.setIfInBounds_toArray, List.set_cons_zero, List.set_cons_succ]
  refine puG 3 ⟨some 13, .move (.tmp 12), 4, _, #[⟨2, .data⟩, ⟨1, .chain⟩], none⟩ (v := ?_) ?_ (fun _ => by assumption) ?_
  rotate_left
  · intro w hSw
    try dsimp only at hSw
    go_simp
    try with_reducible rfl
  try simp only [Act.put, List.setIfInBounds_toArray, List.set_cons_zero, List.set_cons_succ]
  refine tkG 4 ⟨some 14, .load 38 (.tmp 3), 38, _, #[⟨3, .guard⟩], some (3, false)⟩ (v := ?_) ?_ (by assumption) ?_
  rotate_left
  · intro w hSw
    try dsimp only at hSw
    obtain ⟨⟨k0, k1, k2⟩, ⟨l0, l1, l2⟩⟩ := hSw
    go_simp
    try with_reducible rfl
  try simp only [Act.put, List.setIfInBounds_toArray, List.set_cons_zero, List.set_cons_succ]
  refine onG 5 ⟨some 15, .call { callee := Callee.value (Operand.func 37), args := #[.tmp 14], argTypes := #[38] }, 4, _, #[⟨4, .data⟩, ⟨3, .chain⟩, ⟨3, .guard⟩], some (3, false)⟩ (fun K hK => ?_)
  go_simp
  refine (rright_any _ _ _ A' n' cap').mono ?_
  rintro e w4 ⟨rfl, hb⟩
  rw [HRT2.out]
  have H4 := Lib.hid (H3.out.keep hb)
  clear hb
  try dsimp only
  refine hK.out _ _ ?_ (fun hHeld => ?_)
  · intro _
    try dsimp only
    exact ⟨(H4.out.cells (.tail _ (.tail _ (.head _)))).1, (H4.out.cells (.tail _ (.head _))).1⟩
  clear hK K
  try simp only [Act.put, List.setIfInBounds_toArray, List.set_cons_zero, List.set_cons_succ]
  have hHeld := hHeld (by kernel_rfl)
  refine puG 6 ⟨some 16, .unOp UnOp.not 4 (.tmp 15), 4, _, #[⟨5, .data⟩, ⟨3, .guard⟩], some (3, false)⟩ (v := ?_) ?_ (fun _ => by assumption) ?_
  rotate_left
  · intro w hSw
    try dsimp only at hSw
    go_simp
    try with_reducible rfl
  try simp only [Act.put, List.setIfInBounds_toArray, List.set_cons_zero, List.set_cons_succ]
  refine puG 7 ⟨some 17, .pick (.tmp 13) (Operand.const (Value.bool true)) (.tmp 16), 4, _, #[⟨3, .data⟩, ⟨6, .data⟩], none⟩ (v := ?_) ?_ (fun _ => by assumption) ?_
  rotate_left
  · intro w hSw
    try dsimp only at hSw
    go_simp
    try with_reducible rfl
  try simp only [Act.put, List.setIfInBounds_toArray, List.set_cons_zero, List.set_cons_succ]
  refine puG 8 ⟨some 18, .move (.tmp 17), 4, _, #[⟨7, .data⟩, ⟨5, .chain⟩], none⟩ (v := ?_) ?_ (fun _ => by assumption) ?_
  rotate_left
  · intro w hSw
    try dsimp only at hSw
    go_simp
    try with_reducible rfl
  try simp only [Act.put, List.setIfInBounds_toArray, List.set_cons_zero, List.set_cons_succ]
  refine puG 9 ⟨some 19, .fieldAddr 38 (.tmp 2) 1, 0, _, #[⟨8, .guard⟩], some (8, false)⟩ (v := ?_) ?_ (fun _ => by assumption) ?_
  rotate_left
  · intro w hSw
    try dsimp only at hSw
    go_simp
    try with_reducible rfl
  try simp only [Act.put, List.setIfInBounds_toArray, List.set_cons_zero, List.set_cons_succ]
  refine tkG 10 ⟨some 20, .load 3 (.tmp 19), 3, _, #[⟨9, .data⟩, ⟨8, .guard⟩], some (8, false)⟩ (v := ?_) ?_ (by assumption) ?_
  rotate_left
  · intro w hSw
    try dsimp only at hSw
    obtain ⟨⟨k0, k1, k2⟩, ⟨l0, l1, l2⟩⟩ := hSw
    go_simp
    try with_reducible rfl
  try simp only [Act.put, List.setIfInBounds_toArray, List.set_cons_zero, List.set_cons_succ]
  refine puG 11 ⟨some 21, .fieldAddr 38 (.tmp 3) 0, 0, _, #[⟨8, .guard⟩], some (8, false)⟩ (v := ?_) ?_ (fun _ => by assumption) ?_
  rotate_left
  · intro w hSw
    try dsimp only at hSw
    go_simp
    try with_reducible rfl
  try simp only [Act.put, List.setIfInBounds_toArray, List.set_cons_zero, List.set_cons_succ]
  refine tkG 12 ⟨some 22, .load 3 (.tmp 21), 3, _, #[⟨11, .data⟩, ⟨8, .guard⟩], some (8, false)⟩ (v := ?_) ?_ (by assumption) ?_
  rotate_left
  · intro w hSw
    try dsimp only at hSw
    obtain ⟨⟨k0, k1, k2⟩, ⟨l0, l1, l2⟩⟩ := hSw
    go_simp
    try with_reducible rfl
  try simp only [Act.put, List.setIfInBounds_toArray, List.set_cons_zero, List.set_cons_succ]
  refine puG 13 ⟨some 23, .binOp BinOp.neq 3 (.tmp 20) (.tmp 22) 3, 4, _, #[⟨10, .data⟩, ⟨12, .data⟩, ⟨8, .guard⟩], some (8, false)⟩ (v := ?_) ?_ (fun _ => by assumption) ?_
  rotate_left
  · intro w hSw
    try dsimp only at hSw
    go_simp
    try with_reducible rfl
  try simp only [Act.put, List.setIfInBounds_toArray, List.set_cons_zero, List.set_cons_succ]
  refine puG 14 ⟨some 24, .pick (.tmp 18) (Operand.const (Value.bool true)) (.tmp 23), 4, _, #[⟨8, .data⟩, ⟨13, .data⟩], none⟩ (v := ?_) ?_ (fun _ => by assumption) ?_
  rotate_left
  · intro w hSw
    try dsimp only at hSw
    go_simp
    try with_reducible rfl
  try simp only [Act.put, List.setIfInBounds_toArray, List.set_cons_zero, List.set_cons_succ]
  refine puG 15 ⟨some 25, .move (.tmp 24), 4, _, #[⟨14, .data⟩, ⟨8, .chain⟩], none⟩ (v := ?_) ?_ (fun _ => by assumption) ?_
  rotate_left
  · intro w hSw
    try dsimp only at hSw
    go_simp
    try with_reducible rfl
  try simp only [Act.put, List.setIfInBounds_toArray, List.set_cons_zero, List.set_cons_succ]
  refine ofG 16 ⟨some 26, .fieldAddr 38 (.tmp 2) 0, 0, _, #[⟨15, .guard⟩], some (15, false)⟩ (fun _ => by assumption) ?_
  try simp only [Act.put, List.setIfInBounds_toArray, List.set_cons_zero, List.set_cons_succ]
  refine ofG 17 ⟨some 27, .load 3 (.tmp 26), 3, _, #[⟨16, .data⟩, ⟨15, .guard⟩], some (15, false)⟩ (fun _ => by assumption) ?_
  try simp only [Act.put, List.setIfInBounds_toArray, List.set_cons_zero, List.set_cons_succ]
  refine ofG 18 ⟨some 28, .binOp BinOp.gtr 3 (.tmp 27) (Operand.const (Value.int IntKind.i64 0)) 3, 4, _, #[⟨17, .data⟩, ⟨15, .guard⟩], some (15, false)⟩ (fun _ => by assumption) ?_
  try simp only [Act.put, List.setIfInBounds_toArray, List.set_cons_zero, List.set_cons_succ]
  refine ofG 19 ⟨some 29, .move (.tmp 28), 4, _, #[⟨18, .data⟩, ⟨15, .chain⟩, ⟨15, .guard⟩], some (15, false)⟩ (fun _ => by assumption) ?_
  try simp only [Act.put, List.setIfInBounds_toArray, List.set_cons_zero, List.set_cons_succ]
  refine ofG 20 ⟨some 30, .fieldAddr 38 (.tmp 3) 1, 0, _, #[⟨19, .guard⟩], some (19, true)⟩ (fun _ => by assumption) ?_
  try simp only [Act.put, List.setIfInBounds_toArray, List.set_cons_zero, List.set_cons_succ]
  refine ofG 21 ⟨some 31, .load 3 (.tmp 30), 3, _, #[⟨20, .data⟩, ⟨19, .guard⟩], some (19, true)⟩ (fun _ => by assumption) ?_
  try simp only [Act.put, List.setIfInBounds_toArray, List.set_cons_zero, List.set_cons_succ]
  refine ofG 22 ⟨some 32, .fieldAddr 38 (.tmp 2) 0, 0, _, #[⟨19, .guard⟩], some (19, true)⟩ (fun _ => by assumption) ?_
  try simp only [Act.put, List.setIfInBounds_toArray, List.set_cons_zero, List.set_cons_succ]
  refine ofG 23 ⟨some 33, .load 3 (.tmp 32), 3, _, #[⟨22, .data⟩, ⟨19, .guard⟩], some (19, true)⟩ (fun _ => by assumption) ?_
  try simp only [Act.put, List.setIfInBounds_toArray, List.set_cons_zero, List.set_cons_succ]
  refine ofG 24 ⟨some 34, .binOp BinOp.quo 3 (Operand.const (Value.int IntKind.i64 16777216)) (.tmp 33) 3, 3, _, #[⟨23, .data⟩, ⟨19, .guard⟩], some (19, true)⟩ (fun _ => by assumption) ?_
  try simp only [Act.put, List.setIfInBounds_toArray, List.set_cons_zero, List.set_cons_succ]
  refine ofG 25 ⟨some 35, .binOp BinOp.gtr 3 (.tmp 31) (.tmp 34) 3, 4, _, #[⟨21, .data⟩, ⟨24, .data⟩, ⟨19, .guard⟩], some (19, true)⟩ (fun _ => by assumption) ?_
  try simp only [Act.put, List.setIfInBounds_toArray, List.set_cons_zero, List.set_cons_succ]
  refine ofG 26 ⟨some 36, .pick (.tmp 29) (.tmp 35) (Operand.const (Value.bool false)), 4, _, #[⟨19, .data⟩, ⟨25, .data⟩, ⟨15, .guard⟩], some (15, false)⟩ (fun _ => by assumption) ?_
  try simp only [Act.put, List.setIfInBounds_toArray, List.set_cons_zero, List.set_cons_succ]
  refine puG 27 ⟨some 37, .pick (.tmp 25) (Operand.const (Value.bool true)) (.tmp 36), 4, _, #[⟨15, .data⟩, ⟨26, .data⟩], none⟩ (v := ?_) ?_ (fun _ => by assumption) ?_
  rotate_left
  · intro w hSw
    try dsimp only at hSw
    go_simp
    try with_reducible rfl
  try simp only [Act.put, List.setIfInBounds_toArray, List.set_cons_zero, List.set_cons_succ]
  refine wpAnyG_done (by kernel_rfl) ?_ _
  refine NoPanic.normal ?_
  clear hHeld
  obtain ⟨⟨d0, d1, d2⟩, f0, f1, f2⟩ := H4.out.cells (.head _)
  have hfin := H4.out.end_ (.head _) (.int .i64 0) (.int .i64 0) (.slice none 0 0)
  go_wp2_with fail
  obtain ⟨h1, h2, e0, e1, e2⟩ := hfin
  exact bodyPost_ret (v := .tuple #[.agg #[.int .i64 0, .int .i64 0, .slice none 0 0], .int .i64 50]) (by simp [results, Try.results19, go_sem, e0, e1, e2]) rfl ⟨rfl, h1⟩
theorem rmul_bad (w : World) (R C R' C' : Int) (A A' : Option Addr) (n cap n' cap' : Nat) (h : mulB R C n R' C' n' = false) :
    Calls Try.prog 19 #[.agg #[.int .i64 R, .int .i64 C, .slice A n cap], .agg #[.int .i64 R', .int .i64 C', .slice A' n' cap']] w (ErrM w 50) := by
  cases h1 : rightB R C n with
  | false => exact rmul_bad1 w R C R' C' A A' n cap n' cap' h1
  | true =>
    cases h2 : rightB R' C' n' with
    | false => exact rmul_bad2 w R C R' C' A A' n cap n' cap' h1 h2
    | true =>
      refine rmul_bad3 w R C R' C' A A' n cap n' cap' h1 h2 ?_
      unfold mulB at h
      rw [h1, h2] at h
      simpa [bne] using h
/-- Entries ahead of (i, k) whole, that one with j of its summands. -/
def rmulUp (c : Nat) (a b : M) (i k j : Nat) : M := fun x y => if x < i ∨ (x = i ∧ y < k) then mulM c a b x y else if x = i ∧ y = k then xsum j (fun j => mul (a x j) (b j y)) else 0
theorem rmulUp_step (c : Nat) (a b : M) (i k j x y : Nat) : upd (rmulUp c a b i k j) i k (rmulUp c a b i k j i k ^^^ mul (a i j) (b j k)) x y = rmulUp c a b i k (j + 1) x y := by
  unfold upd rmulUp
  by_cases h : x = i ∧ y = k
  · obtain ⟨rfl, rfl⟩ := h
    have e1 : ¬ (x < x ∨ x = x ∧ y < y) := by omega
    have e2 : x = x ∧ y = y := ⟨rfl, rfl⟩
    rw [if_pos e2, if_neg e1, if_neg e1, if_pos e2, if_pos e2]; rfl
  · rw [if_neg h]
    by_cases h2 : x < i ∨ x = i ∧ y < k
    · rw [if_pos h2, if_pos h2]
    · rw [if_neg h2, if_neg h2, if_neg h, if_neg h]
theorem rmulUp_next (c : Nat) (a b : M) (i k x y : Nat) : rmulUp c a b i k c x y = rmulUp c a b i (k + 1) 0 x y := by
  unfold rmulUp
  by_cases h : x < i ∨ x = i ∧ y < k
  · rw [if_pos h, if_pos (by omega)]
  · rw [if_neg h]
    by_cases h2 : x = i ∧ y = k
    · rw [if_pos h2, if_pos (by omega)]; rfl
    · rw [if_neg h2, if_neg (by omega)]
      split <;> rfl
theorem rmulUp_row {d : Nat} (c : Nat) (a b : M) (i x y : Nat) (hy : y < d) : rmulUp c a b i d 0 x y = rmulUp c a b (i + 1) 0 0 x y := by
  unfold rmulUp
  by_cases h : x < i ∨ x = i ∧ y < d
  · rw [if_pos h, if_pos (by omega)]
  · rw [if_neg h, if_neg (by omega), if_neg (by omega)]
    split <;> rfl
set_option maxRecDepth 100000 in
set_option maxHeartbeats 4000000 in
theorem rmul_ok1 (w : World) (r c d : Nat) (A A' : Option Addr) (n cap n' cap' : Nat) (a b : M) (hn : n = r * c) (hn' : n' = c * d) (hd : r ≤ 100 ∧ c ≤ 100 ∧ d ≤ 100) (hA : Bytes w w.heap.size A (flat r c a)) (hB : Bytes w w.heap.size A' (flat c d b)) (hz : 0 < r) :
    Calls Try.prog 19 #[.agg #[.int .i64 (r : Int), .int .i64 (c : Int), .slice A n cap], .agg #[.int .i64 (c : Int), .int .i64 (d : Int), .slice A' n' cap']] w (NewT w r d (mulM c a b)) := by
  have HN := Lib.hid (show r ≤ 100 ∧ c ≤ 100 ∧ d ≤ 100 ∧ n = r * c ∧ n' = c * d from ⟨hd.1, hd.2.1, hd.2.2, hn, hn'⟩)
  have HRT := Lib.hid (show rightB (r : Int) (c : Int) n = true from right_dim ⟨hd.1, hd.2.1⟩ hn)
  have HRT2 := Lib.hid (show rightB (c : Int) (d : Int) n' = true from right_dim ⟨hd.2.1, hd.2.2⟩ hn')
  have HA := Lib.hid hA
  have HB := Lib.hid hB
  have hr1 : (0 : Int) < (r : Int) := by omega
  have hrz : ((r : Int) == 0) = false := by simp; omega
  have hrn : ¬ r = 0 := by omega
  obtain ⟨qd, hqd⟩ : ∃ q, IntKind.i64.wrap ((16777216 : Int).tdiv (r : Int)) = q := ⟨_, rfl⟩
  have hdv : decide (qd < (d : Int)) = false := by
    refine decide_eq_false ?_
    have k1 : (16777216 : Int) / (r : Int) ≥ 100 := Int.le_ediv_of_mul_le hr1 (by omega)
    have k2 : (16777216 : Int) / (r : Int) ≤ 16777216 := Int.ediv_le_self _ (by decide)
    rw [Int.tdiv_eq_ediv_of_nonneg (by decide), IntWalk.i64_in _ (by omega)] at hqd
    omega
  clear hn hn' hd hA hB
  have H0 := Lib.hid ((((BS.start w).put #[.int .i64 (r : Int), .int .i64 (c : Int), .slice A n cap] 38 (by decide)).put #[.int .i64 (c : Int), .int .i64 (d : Int), .slice A' n' cap'] 38 (by decide)).put #[.int .i64 0, .int .i64 0, .slice none 0 0] 38 (by decide))
  go_enter Try.func19, Try.ntmps19
  go_wp2_with fail
  generalize ((w.alloc (.cells #[.int .i64 (r : Int), .int .i64 (c : Int), .slice A n cap] 38)).alloc (.cells #[.int .i64 (c : Int), .int .i64 (d : Int), .slice A' n' cap'] 38)).alloc (.cells #[.int .i64 0, .int .i64 0, .slice none 0 0] 38) = w1 at *
  simp only [World.size_alloc] at H0
  obtain ⟨ga, hga⟩ : ∃ x, w.heap.size = x := ⟨_, rfl⟩
  obtain ⟨gb, hgb⟩ : ∃ x, ga + 1 = x := ⟨_, rfl⟩
  obtain ⟨g0, hg0⟩ : ∃ x, gb + 1 = x := ⟨_, rfl⟩
  rw [hga, hgb, hg0] at H0 ⊢
  have H1 := H0
  clear H0
  refine wp_region_noPanic ?_
  refine wp_heldG (fun w' => (w'.cell? ⟨ga, 0, none⟩ = some (.int .i64 (r : Int)) ∧ w'.cell? ⟨ga, 1, none⟩ = some (.int .i64 (c : Int)) ∧ w'.cell? ⟨ga, 2, none⟩ = some (.slice A n cap)) ∧ (w'.cell? ⟨gb, 0, none⟩ = some (.int .i64 (c : Int)) ∧ w'.cell? ⟨gb, 1, none⟩ = some (.int .i64 (d : Int)) ∧ w'.cell? ⟨gb, 2, none⟩ = some (.slice A' n' cap'))) [] (by kernel_rfl) ?hs0 ?rg0
  case hs0 =>
    have h := H1.out.keep (nextN (Mem.start w1) 1)
    exact ⟨(h.cells (.tail _ (.tail _ (.head _)))).1, (h.cells (.tail _ (.head _))).1⟩
  case rg0 =>
  intro hHeld
  refine tkG 0 ⟨some 10, .load 38 (.tmp 2), 38, _, #[], none⟩ (v := ?_) ?_ (by assumption) ?_
  rotate_left
  · intro w hSw
    try dsimp only at hSw
    obtain ⟨⟨k0, k1, k2⟩, ⟨l0, l1, l2⟩⟩ := hSw
    go_simp
    try with_reducible rfl
  try simp only [Act.put, List.setIfInBounds_toArray, List.set_cons_zero, List.set_cons_succ]
  refine onG 1 ⟨some 11, .call { callee := Callee.value (Operand.func 37), args := #[.tmp 10], argTypes := #[38] }, 4, _, #[⟨0, .data⟩], none⟩ (fun K hK => ?_)
  have H2 := Lib.hid (show BS w _ w1.drew from H1.out.keep (nextN (Mem.start w1) 1))
  go_simp
  refine (rright_any _ _ _ A n cap).mono ?_
  rintro e w3 ⟨rfl, hb⟩
  rw [HRT.out]
  have H3 := Lib.hid (H2.out.keep hb)
  clear hb
  try dsimp only
  refine hK.out _ _ ?_ (fun hHeld => ?_)
  · intro _
    try dsimp only
    exact ⟨(H3.out.cells (.tail _ (.tail _ (.head _)))).1, (H3.out.cells (.tail _ (.head _))).1⟩
  clear hK K
  try simp only [Act.put, List.setIfInBounds_toArray, List.set_cons_zero, List.set_cons_succ]
  have hHeld := hHeld (by kernel_rfl)
  refine puG 2 ⟨some 12, .unOp UnOp.not 4 (.tmp 11), 4, _, #[⟨1, .data⟩], none⟩ (v := ?_) ?_ (fun _ => by assumption) ?_
  rotate_left
  · intro w hSw
    try dsimp only at hSw
    go_simp
    try with_reducible rfl
  try simp only [Act.put, List.setIfInBounds_toArray, List.set_cons_zero, List.set_cons_succ]
  refine puG 3 ⟨some 13, .move (.tmp 12), 4, _, #[⟨2, .data⟩, ⟨1, .chain⟩], none⟩ (v := ?_) ?_ (fun _ => by assumption) ?_
  rotate_left
  · intro w hSw
    try dsimp only at hSw
    go_simp
    try with_reducible rfl
  try simp only [Act.put, List.setIfInBounds_toArray, List.set_cons_zero, List.set_cons_succ]
  refine tkG 4 ⟨some 14, .load 38 (.tmp 3), 38, _, #[⟨3, .guard⟩], some (3, false)⟩ (v := ?_) ?_ (by assumption) ?_
  rotate_left
  · intro w hSw
    try dsimp only at hSw
    obtain ⟨⟨k0, k1, k2⟩, ⟨l0, l1, l2⟩⟩ := hSw
    go_simp
    try with_reducible rfl
  try simp only [Act.put, List.setIfInBounds_toArray, List.set_cons_zero, List.set_cons_succ]
  refine onG 5 ⟨some 15, .call { callee := Callee.value (Operand.func 37), args := #[.tmp 14], argTypes := #[38] }, 4, _, #[⟨4, .data⟩, ⟨3, .chain⟩, ⟨3, .guard⟩], some (3, false)⟩ (fun K hK => ?_)
  go_simp
  refine (rright_any _ _ _ A' n' cap').mono ?_
  rintro e w4 ⟨rfl, hb⟩
  rw [HRT2.out]
  have H4 := Lib.hid (H3.out.keep hb)
  clear hb
  try dsimp only
  refine hK.out _ _ ?_ (fun hHeld => ?_)
  · intro _
    try dsimp only
    exact ⟨(H4.out.cells (.tail _ (.tail _ (.head _)))).1, (H4.out.cells (.tail _ (.head _))).1⟩
  clear hK K
  try simp only [Act.put, List.setIfInBounds_toArray, List.set_cons_zero, List.set_cons_succ]
  have hHeld := hHeld (by kernel_rfl)
  refine puG 6 ⟨some 16, .unOp UnOp.not 4 (.tmp 15), 4, _, #[⟨5, .data⟩, ⟨3, .guard⟩], some (3, false)⟩ (v := ?_) ?_ (fun _ => by assumption) ?_
  rotate_left
  · intro w hSw
    try dsimp only at hSw
    go_simp
    try with_reducible rfl
  try simp only [Act.put, List.setIfInBounds_toArray, List.set_cons_zero, List.set_cons_succ]
  refine puG 7 ⟨some 17, .pick (.tmp 13) (Operand.const (Value.bool true)) (.tmp 16), 4, _, #[⟨3, .data⟩, ⟨6, .data⟩], none⟩ (v := ?_) ?_ (fun _ => by assumption) ?_
  rotate_left
  · intro w hSw
    try dsimp only at hSw
    go_simp
    try with_reducible rfl
  try simp only [Act.put, List.setIfInBounds_toArray, List.set_cons_zero, List.set_cons_succ]
  refine puG 8 ⟨some 18, .move (.tmp 17), 4, _, #[⟨7, .data⟩, ⟨5, .chain⟩], none⟩ (v := ?_) ?_ (fun _ => by assumption) ?_
  rotate_left
  · intro w hSw
    try dsimp only at hSw
    go_simp
    try with_reducible rfl
  try simp only [Act.put, List.setIfInBounds_toArray, List.set_cons_zero, List.set_cons_succ]
  refine puG 9 ⟨some 19, .fieldAddr 38 (.tmp 2) 1, 0, _, #[⟨8, .guard⟩], some (8, false)⟩ (v := ?_) ?_ (fun _ => by assumption) ?_
  rotate_left
  · intro w hSw
    try dsimp only at hSw
    go_simp
    try with_reducible rfl
  try simp only [Act.put, List.setIfInBounds_toArray, List.set_cons_zero, List.set_cons_succ]
  refine tkG 10 ⟨some 20, .load 3 (.tmp 19), 3, _, #[⟨9, .data⟩, ⟨8, .guard⟩], some (8, false)⟩ (v := ?_) ?_ (by assumption) ?_
  rotate_left
  · intro w hSw
    try dsimp only at hSw
    obtain ⟨⟨k0, k1, k2⟩, ⟨l0, l1, l2⟩⟩ := hSw
    go_simp
    try with_reducible rfl
  try simp only [Act.put, List.setIfInBounds_toArray, List.set_cons_zero, List.set_cons_succ]
  refine puG 11 ⟨some 21, .fieldAddr 38 (.tmp 3) 0, 0, _, #[⟨8, .guard⟩], some (8, false)⟩ (v := ?_) ?_ (fun _ => by assumption) ?_
  rotate_left
  · intro w hSw
    try dsimp only at hSw
    go_simp
    try with_reducible rfl
  try simp only [Act.put, List.setIfInBounds_toArray, List.set_cons_zero, List.set_cons_succ]
  refine tkG 12 ⟨some 22, .load 3 (.tmp 21), 3, _, #[⟨11, .data⟩, ⟨8, .guard⟩], some (8, false)⟩ (v := ?_) ?_ (by assumption) ?_
  rotate_left
  · intro w hSw
    try dsimp only at hSw
    obtain ⟨⟨k0, k1, k2⟩, ⟨l0, l1, l2⟩⟩ := hSw
    go_simp
    try with_reducible rfl
  try simp only [Act.put, List.setIfInBounds_toArray, List.set_cons_zero, List.set_cons_succ]
  refine puG 13 ⟨some 23, .binOp BinOp.neq 3 (.tmp 20) (.tmp 22) 3, 4, _, #[⟨10, .data⟩, ⟨12, .data⟩, ⟨8, .guard⟩], some (8, false)⟩ (v := ?_) ?_ (fun _ => by assumption) ?_
  rotate_left
  · intro w hSw
    try dsimp only at hSw
    go_simp
    try with_reducible rfl
  try simp only [Act.put, List.setIfInBounds_toArray, List.set_cons_zero, List.set_cons_succ]
  refine puG 14 ⟨some 24, .pick (.tmp 18) (Operand.const (Value.bool true)) (.tmp 23), 4, _, #[⟨8, .data⟩, ⟨13, .data⟩], none⟩ (v := ?_) ?_ (fun _ => by assumption) ?_
  rotate_left
  · intro w hSw
    try dsimp only at hSw
    go_simp
    try with_reducible rfl
  try simp only [Act.put, List.setIfInBounds_toArray, List.set_cons_zero, List.set_cons_succ]
  refine puG 15 ⟨some 25, .move (.tmp 24), 4, _, #[⟨14, .data⟩, ⟨8, .chain⟩], none⟩ (v := ?_) ?_ (fun _ => by assumption) ?_
  rotate_left
  · intro w hSw
    try dsimp only at hSw
    go_simp
    try with_reducible rfl
  try simp only [Act.put, List.setIfInBounds_toArray, List.set_cons_zero, List.set_cons_succ]
  refine puG 16 ⟨some 26, .fieldAddr 38 (.tmp 2) 0, 0, _, #[⟨15, .guard⟩], some (15, false)⟩ (v := ?_) ?_ (fun _ => by assumption) ?_
  rotate_left
  · intro w hSw
    try dsimp only at hSw
    go_simp
    try with_reducible rfl
  try simp only [Act.put, List.setIfInBounds_toArray, List.set_cons_zero, List.set_cons_succ]
  refine tkG 17 ⟨some 27, .load 3 (.tmp 26), 3, _, #[⟨16, .data⟩, ⟨15, .guard⟩], some (15, false)⟩ (v := ?_) ?_ (by assumption) ?_
  rotate_left
  · intro w hSw
    try dsimp only at hSw
    obtain ⟨⟨k0, k1, k2⟩, ⟨l0, l1, l2⟩⟩ := hSw
    go_simp
    try with_reducible rfl
  try simp only [Act.put, List.setIfInBounds_toArray, List.set_cons_zero, List.set_cons_succ]
  refine puG 18 ⟨some 28, .binOp BinOp.gtr 3 (.tmp 27) (Operand.const (Value.int IntKind.i64 0)) 3, 4, _, #[⟨17, .data⟩, ⟨15, .guard⟩], some (15, false)⟩ (v := ?_) ?_ (fun _ => by assumption) ?_
  rotate_left
  · intro w hSw
    try dsimp only at hSw
    go_simp
    try with_reducible rfl
  try simp only [Act.put, List.setIfInBounds_toArray, List.set_cons_zero, List.set_cons_succ]
  refine puG 19 ⟨some 29, .move (.tmp 28), 4, _, #[⟨18, .data⟩, ⟨15, .chain⟩, ⟨15, .guard⟩], some (15, false)⟩ (v := ?_) ?_ (fun _ => by assumption) ?_
  rotate_left
  · intro w hSw
    try dsimp only at hSw
    go_simp
    try with_reducible rfl
  try simp only [Act.put, List.setIfInBounds_toArray, List.set_cons_zero, List.set_cons_succ]
  refine puG 20 ⟨some 30, .fieldAddr 38 (.tmp 3) 1, 0, _, #[⟨19, .guard⟩], some (19, true)⟩ (v := ?_) ?_ (fun _ => by assumption) ?_
  rotate_left
  · intro w hSw
    try dsimp only at hSw
    go_simp
    try with_reducible rfl
  try simp only [Act.put, List.setIfInBounds_toArray, List.set_cons_zero, List.set_cons_succ]
  refine tkG 21 ⟨some 31, .load 3 (.tmp 30), 3, _, #[⟨20, .data⟩, ⟨19, .guard⟩], some (19, true)⟩ (v := ?_) ?_ (by assumption) ?_
  rotate_left
  · intro w hSw
    try dsimp only at hSw
    obtain ⟨⟨k0, k1, k2⟩, ⟨l0, l1, l2⟩⟩ := hSw
    go_simp
    try with_reducible rfl
  try simp only [Act.put, List.setIfInBounds_toArray, List.set_cons_zero, List.set_cons_succ]
  refine puG 22 ⟨some 32, .fieldAddr 38 (.tmp 2) 0, 0, _, #[⟨19, .guard⟩], some (19, true)⟩ (v := ?_) ?_ (fun _ => by assumption) ?_
  rotate_left
  · intro w hSw
    try dsimp only at hSw
    go_simp
    try with_reducible rfl
  try simp only [Act.put, List.setIfInBounds_toArray, List.set_cons_zero, List.set_cons_succ]
  refine tkG 23 ⟨some 33, .load 3 (.tmp 32), 3, _, #[⟨22, .data⟩, ⟨19, .guard⟩], some (19, true)⟩ (v := ?_) ?_ (by assumption) ?_
  rotate_left
  · intro w hSw
    try dsimp only at hSw
    obtain ⟨⟨k0, k1, k2⟩, ⟨l0, l1, l2⟩⟩ := hSw
    go_simp
    try with_reducible rfl
  try simp only [Act.put, List.setIfInBounds_toArray, List.set_cons_zero, List.set_cons_succ]
  refine puG 24 ⟨some 34, .binOp BinOp.quo 3 (Operand.const (Value.int IntKind.i64 16777216)) (.tmp 33) 3, 3, _, #[⟨23, .data⟩, ⟨19, .guard⟩], some (19, true)⟩ (v := ?_) ?_ (fun _ => by assumption) ?_
  rotate_left
  · intro w hSw
    try dsimp only at hSw
    go_simp
    try with_reducible rfl
  try simp only [Act.put, List.setIfInBounds_toArray, List.set_cons_zero, List.set_cons_succ]
  refine puG 25 ⟨some 35, .binOp BinOp.gtr 3 (.tmp 31) (.tmp 34) 3, 4, _, #[⟨21, .data⟩, ⟨24, .data⟩, ⟨19, .guard⟩], some (19, true)⟩ (v := ?_) ?_ (fun _ => by assumption) ?_
  rotate_left
  · intro w hSw
    try dsimp only at hSw
    go_simp
    try with_reducible rfl
  try simp only [Act.put, List.setIfInBounds_toArray, List.set_cons_zero, List.set_cons_succ]
  refine puG 26 ⟨some 36, .pick (.tmp 29) (.tmp 35) (Operand.const (Value.bool false)), 4, _, #[⟨19, .data⟩, ⟨25, .data⟩, ⟨15, .guard⟩], some (15, false)⟩ (v := ?_) ?_ (fun _ => by assumption) ?_
  rotate_left
  · intro w hSw
    try dsimp only at hSw
    go_simp
    try with_reducible rfl
  try simp only [Act.put, List.setIfInBounds_toArray, List.set_cons_zero, List.set_cons_succ]
  refine puG 27 ⟨some 37, .pick (.tmp 25) (Operand.const (Value.bool true)) (.tmp 36), 4, _, #[⟨15, .data⟩, ⟨26, .data⟩], none⟩ (v := ?_) ?_ (fun _ => by assumption) ?_
  rotate_left
  · intro w hSw
    try dsimp only at hSw
    go_simp
    try with_reducible rfl
  try simp only [Act.put, List.setIfInBounds_toArray, List.set_cons_zero, List.set_cons_succ]
  refine wpAnyG_done (by kernel_rfl) ?_ _
  refine NoPanic.normal ?_
  clear hHeld
  obtain ⟨⟨a0, a1, a2⟩, _⟩ := H4.out.cells (.tail _ (.tail _ (.head _)))
  obtain ⟨⟨b0, b1, b2⟩, _⟩ := H4.out.cells (.tail _ (.head _))
  go_wp2_with fail
  clear a0 a1 a2 b0 b1 b2
  have H1 := H4
  generalize w4 = w1 at *
  refine (rnone_any w1 (r) (d) (by have h1 : r * d ≤ 100 * 100 := Nat.mul_le_mul HN.out.1 HN.out.2.2.1; omega)).mono ?_
  rintro e w2 ⟨g, rfl, ho, hb⟩
  have H2 := Lib.hid (H1.out.none_ (g := g) (cap := r * d) (r := r) (c := d) (m := fun _ _ => 0) (show Wm w2 w.heap.size g (r * d) (r) (d) _ from ho.down H1.out.below.size) hb)
  clear ho hb 
  have H3 := Lib.hid (H2.out.put (mcells (r) (d) (some ⟨g, 0, none⟩) (r * d) (r * d)) 38 (by decide))
  go_wp2_with fail
  obtain ⟨gm, hgm⟩ : ∃ x, w2.heap.size = x := ⟨_, rfl⟩
  obtain ⟨w3, hw3⟩ : ∃ x : World, w2.alloc (.cells #[.int .i64 (r : Int), .int .i64 (d : Int), .slice (some ⟨g, 0, none⟩) (r * d) (r * d)] 38) = x := ⟨_, rfl⟩
  have hw3' : w2.alloc (.cells (mcells (r) (d) (some ⟨g, 0, none⟩) (r * d) (r * d)) 38) = w3 := hw3
  rw [hw3', hgm] at H3
  rw [hw3, hgm]
  clear hw3 hw3' hgm
  go_loopw [7] (fun i wr => ∃ i' : Nat, i = .int .i64 (i' : Int) ∧ i' ≤ r ∧ WS w [(gm, 38, mcells r d (some ⟨g, 0, none⟩) (r * d) (r * d)), (g0, 38, #[.int .i64 0, .int .i64 0, .slice none 0 0]), (gb, 38, mcells c d A' n' cap'), (ga, 38, mcells r c A n cap)] g (r * d) r d (rmulUp c a b i' 0 0) wr) (fun i _ => r - (intOf i).toNat)
  case atStart => exact ⟨0, rfl, Nat.zero_le _, H3.out.congr fun x _ y _ => by unfold rmulUp; rw [if_neg (by omega)]; split <;> rfl⟩
  case round =>
    obtain ⟨i, rfl, hi, h⟩ := hrel
    have H4 := Lib.hid h
    clear h H3
    obtain ⟨w4, rfl⟩ : ∃ w4 : World, w4 = wr := ⟨_, rfl⟩
    obtain ⟨⟨a0, a1, a2⟩, _⟩ := H4.out.cells (.tail _ (.tail _ (.tail _ (.head _))))
    by_cases hir : i < r
    · have hi1 : (i : Int) < (r : Int) := by omega
      have hwi : IntKind.i64.wrap ((i : Int) + 1) = ((i + 1 : Nat) : Int) := by have := HN.out.1; rw [IntWalk.i64_in _ (by omega)]; omega
      have HI := Lib.hid hir
      go_wp2_with fail
      clear a0 a1 a2
      go_loopw [8] (fun k wr => ∃ k' : Nat, k = .int .i64 (k' : Int) ∧ k' ≤ d ∧ WS w [(gm, 38, mcells r d (some ⟨g, 0, none⟩) (r * d) (r * d)), (g0, 38, #[.int .i64 0, .int .i64 0, .slice none 0 0]), (gb, 38, mcells c d A' n' cap'), (ga, 38, mcells r c A n cap)] g (r * d) r d (rmulUp c a b i k' 0) wr) (fun k _ => d - (intOf k).toNat)
      case atStart => exact ⟨0, rfl, Nat.zero_le _, H4.out⟩
      case round =>
        obtain ⟨k, rfl, hk, h⟩ := hrel
        have H5 := Lib.hid h
        clear h
        obtain ⟨w5, rfl⟩ : ∃ w5 : World, w5 = wr := ⟨_, rfl⟩
        obtain ⟨⟨b0, b1, b2⟩, _⟩ := H5.out.cells (.tail _ (.tail _ (.head _)))
        by_cases hkd : k < d
        · have hk1 : (k : Int) < (d : Int) := by omega
          have hwk : IntKind.i64.wrap ((k : Int) + 1) = ((k + 1 : Nat) : Int) := by have := HN.out.2.2.1; rw [IntWalk.i64_in _ (by omega)]; omega
          have HK := Lib.hid hkd
          go_wp2_with fail
          clear b0 b1 b2
          go_loopw [9] (fun j wr => ∃ j' : Nat, j = .int .i64 (j' : Int) ∧ j' ≤ c ∧ WS w [(gm, 38, mcells r d (some ⟨g, 0, none⟩) (r * d) (r * d)), (g0, 38, #[.int .i64 0, .int .i64 0, .slice none 0 0]), (gb, 38, mcells c d A' n' cap'), (ga, 38, mcells r c A n cap)] g (r * d) r d (rmulUp c a b i k j') wr) (fun j _ => c - (intOf j).toNat)
          case atStart => exact ⟨0, rfl, Nat.zero_le _, H5.out⟩
          case round =>
            obtain ⟨j, rfl, hj, h⟩ := hrel
            have H6 := Lib.hid h
            clear h
            obtain ⟨w6, rfl⟩ : ∃ w6 : World, w6 = wr := ⟨_, rfl⟩
            obtain ⟨⟨a0, a1, a2⟩, _⟩ := H6.out.cells (.tail _ (.tail _ (.tail _ (.head _))))
            by_cases hjc : j < c
            · have hj1 : (j : Int) < (c : Int) := by omega
              have hwj : IntKind.i64.wrap ((j : Int) + 1) = ((j + 1 : Nat) : Int) := by have := HN.out.2.1; rw [IntWalk.i64_in _ (by omega)]; omega
              have HJ := Lib.hid hjc
              have hpl := idx_lt HI.out hjc
              have hql := idx_lt hjc HK.out
              have hsl := idx_lt HI.out HK.out
              have hsz1 : r * c ≤ 100 * 100 := Nat.mul_le_mul HN.out.1 HN.out.2.1
              have hsz2 : c * d ≤ 100 * 100 := Nat.mul_le_mul HN.out.2.1 HN.out.2.2.1
              have hsz3 : r * d ≤ 100 * 100 := Nat.mul_le_mul HN.out.1 HN.out.2.2.1
              obtain ⟨p, hp⟩ : ∃ p, i * c + j = p := ⟨_, rfl⟩
              obtain ⟨q, hq⟩ : ∃ q, j * d + k = q := ⟨_, rfl⟩
              obtain ⟨s, hs⟩ : ∃ s, i * d + k = s := ⟨_, rfl⟩
              obtain ⟨ab, ao, eA, -, -⟩ := HA.out.at_ (k := p) (by rw [flat_len, ← hp]; exact hpl)
              obtain ⟨bb, bo, eB, -, -⟩ := HB.out.at_ (k := q) (by rw [flat_len, ← hq]; exact hql)
              obtain ⟨x, hx⟩ : ∃ x, a i j = x := ⟨_, rfl⟩
              obtain ⟨y, hy⟩ : ∃ y, b j k = y := ⟨_, rfl⟩
              have HX := Lib.hid (show ∀ W : World, Below w.heap.size w W → W.cell? ⟨ab, ao + p, none⟩ = some (.int .u8 (x.toNat : Int)) from fun W hW => by
                obtain ⟨b', o', e', _, hc⟩ := (HA.out.below hW).at_ (k := p) (by rw [flat_len, ← hp]; exact hpl)
                rw [eA] at e'; injection e' with e'; injection e' with e1 e2; subst e1; subst e2
                rw [hc]; simp only [← hp, flat_getE HI.out hjc, hx])
              have HY := Lib.hid (show ∀ W : World, Below w.heap.size w W → W.cell? ⟨bb, bo + q, none⟩ = some (.int .u8 (y.toNat : Int)) from fun W hW => by
                obtain ⟨b', o', e', _, hc⟩ := (HB.out.below hW).at_ (k := q) (by rw [flat_len, ← hq]; exact hql)
                rw [eB] at e'; injection e' with e'; injection e' with e1 e2; subst e1; subst e2
                rw [hc]; simp only [← hq, flat_getE hjc HK.out, hy])
              subst eA; subst eB
              obtain ⟨z, hz⟩ : ∃ z, rmulUp c a b i k j i k = z := ⟨_, rfl⟩
              have HZE := Lib.hid (And.intro hz (And.intro hx (And.intro hy hs)))
              have H6D := Lib.hid (show WS w [(gm, 38, mcells r d (some ⟨g, 0, none⟩) (r * d) (r * d)), (g0, 38, #[.int .i64 0, .int .i64 0, .slice none 0 0]), (gb, 38, mcells c d (some ⟨bb, bo, none⟩) n' cap'), (ga, 38, mcells r c (some ⟨ab, ao, none⟩) n cap)] g (r * d) r d (rmulUp c a b i k j) w6.drew from H6.out.keep (nextN (Mem.start w6) 1))
              have HZS := Lib.hid (show w6.drew.cell? ⟨g, s, none⟩ = some (.int .u8 (z.toNat : Int)) ∧ w6.drew.frozen? ⟨g, s, none⟩ = false from by
                have h := H6D.out.at_ HI.out HK.out
                rw [hs, hz] at h; exact h)
              have hw1 : IntKind.i64.wrap ((i : Int) * (d : Int)) = ((i * d : Nat) : Int) := by rw [show (i : Int) * (d : Int) = ((i * d : Nat) : Int) by simp, IntWalk.i64_in _ (by omega)]
              have hw3 : IntKind.i64.wrap ((i : Int) * (c : Int)) = ((i * c : Nat) : Int) := by rw [show (i : Int) * (c : Int) = ((i * c : Nat) : Int) by simp, IntWalk.i64_in _ (by omega)]
              have hw5 : IntKind.i64.wrap ((j : Int) * (d : Int)) = ((j * d : Nat) : Int) := by rw [show (j : Int) * (d : Int) = ((j * d : Nat) : Int) by simp, IntWalk.i64_in _ (by omega)]
              obtain ⟨p1, hp1⟩ : ∃ p1, i * c = p1 := ⟨_, rfl⟩
              obtain ⟨q1, hq1⟩ : ∃ q1, j * d = q1 := ⟨_, rfl⟩
              obtain ⟨s1, hs1⟩ : ∃ s1, i * d = s1 := ⟨_, rfl⟩
              rw [hp1] at hw3 hp hpl
              rw [hq1] at hw5 hq hql
              rw [hs1] at hw1 hs hsl
              have hw2 : IntKind.i64.wrap ((s1 : Int) + (k : Int)) = (s : Int) := by rw [IntWalk.i64_in _ (by omega)]; omega
              have hw4 : IntKind.i64.wrap ((p1 : Int) + (j : Int)) = (p : Int) := by rw [IntWalk.i64_in _ (by omega)]; omega
              have hw6 : IntKind.i64.wrap ((q1 : Int) + (k : Int)) = (q : Int) := by rw [IntWalk.i64_in _ (by omega)]; omega
              have hs0 : (0 : Int) ≤ (s : Int) := by omega
              have hs2 : (s : Int) < (r : Int) * (d : Int) := by rw [show (r : Int) * (d : Int) = ((r * d : Nat) : Int) by simp]; omega
              have hp0 : (0 : Int) ≤ (p : Int) := by omega
              have hp2 : (p : Int) < (n : Int) := by have := HN.out.2.2.2.1; omega
              have hq0 : (0 : Int) ≤ (q : Int) := by omega
              have hq2 : (q : Int) < (n' : Int) := by have := HN.out.2.2.2.2; omega
              have hxor := Mx_xor8 z (mul x y)
              clear hx hy hz hp hq hs hp1 hq1 hs1 hpl hql hsl hsz1 hsz2 hsz3
              go_wp2_with fail
              clear a0 a1 a2
              refine wp_region_noPanic ?_
              refine wp_heldG (fun w' => (w'.cell? ⟨gm, 0, none⟩ = some (.int .i64 (r : Int)) ∧ w'.cell? ⟨gm, 1, none⟩ = some (.int .i64 (d : Int)) ∧ w'.cell? ⟨gm, 2, none⟩ = some (.slice (some ⟨g, 0, none⟩) (r * d) (r * d))) ∧ (w'.cell? ⟨gb, 0, none⟩ = some (.int .i64 (c : Int)) ∧ w'.cell? ⟨gb, 1, none⟩ = some (.int .i64 (d : Int)) ∧ w'.cell? ⟨gb, 2, none⟩ = some (.slice (some ⟨bb, bo, none⟩) n' cap')) ∧ (w'.cell? ⟨ga, 0, none⟩ = some (.int .i64 (r : Int)) ∧ w'.cell? ⟨ga, 1, none⟩ = some (.int .i64 (c : Int)) ∧ w'.cell? ⟨ga, 2, none⟩ = some (.slice (some ⟨ab, ao, none⟩) n cap)) ∧ w'.cell? ⟨ab, ao + p, none⟩ = some (.int .u8 (x.toNat : Int)) ∧ w'.cell? ⟨bb, bo + q, none⟩ = some (.int .u8 (y.toNat : Int)) ∧ w'.cell? ⟨g, s, none⟩ = some (.int .u8 (z.toNat : Int))) [41] (by kernel_rfl) ?hs0 ?rg0
              case hs0 =>
                have h := H6D
                exact ⟨(h.out.cells (.head _)).1, (h.out.cells (.tail _ (.tail _ (.head _)))).1, (h.out.cells (.tail _ (.tail _ (.tail _ (.head _))))).1, HX.out _ h.out.below, HY.out _ h.out.below, HZS.out.1⟩
              case rg0 =>
              intro hHeld
              refine puG 0 ⟨some 62, .fieldAddr 38 (.tmp 6) 2, 0, _, #[], none⟩ (v := ?_) ?_ (fun _ => by assumption) ?_
              rotate_left
              · intro w hSw
                try dsimp only at hSw
                go_simp
                try with_reducible rfl
              try simp only [Act.put, List.setIfInBounds_toArray, List.set_cons_zero, List.set_cons_succ]
              refine tkG 1 ⟨some 63, .load 22 (.tmp 62), 22, _, #[⟨0, .data⟩], none⟩ (v := ?_) ?_ (by assumption) ?_
              rotate_left
              · intro w hSw
                try dsimp only at hSw
                obtain ⟨⟨k0, k1, k2⟩, ⟨l0, l1, l2⟩, ⟨n0, n1, n2⟩, t0, t1, t2⟩ := hSw
                go_simp
                try with_reducible rfl
              try simp only [Act.put, List.setIfInBounds_toArray, List.set_cons_zero, List.set_cons_succ]
              refine puG 2 ⟨some 64, .move (.tmp 7), 3, _, #[], none⟩ (v := ?_) ?_ (fun _ => by assumption) ?_
              rotate_left
              · intro w hSw
                try dsimp only at hSw
                go_simp
                try with_reducible rfl
              try simp only [Act.put, List.setIfInBounds_toArray, List.set_cons_zero, List.set_cons_succ]
              refine puG 3 ⟨some 65, .fieldAddr 38 (.tmp 3) 1, 0, _, #[], none⟩ (v := ?_) ?_ (fun _ => by assumption) ?_
              rotate_left
              · intro w hSw
                try dsimp only at hSw
                go_simp
                try with_reducible rfl
              try simp only [Act.put, List.setIfInBounds_toArray, List.set_cons_zero, List.set_cons_succ]
              refine tkG 4 ⟨some 66, .load 3 (.tmp 65), 3, _, #[⟨3, .data⟩], none⟩ (v := ?_) ?_ (by assumption) ?_
              rotate_left
              · intro w hSw
                try dsimp only at hSw
                obtain ⟨⟨k0, k1, k2⟩, ⟨l0, l1, l2⟩, ⟨n0, n1, n2⟩, t0, t1, t2⟩ := hSw
                go_simp
                try with_reducible rfl
              try simp only [Act.put, List.setIfInBounds_toArray, List.set_cons_zero, List.set_cons_succ]
              refine puG 5 ⟨some 67, .binOp BinOp.mul 3 (.tmp 64) (.tmp 66) 3, 3, _, #[⟨2, .data⟩, ⟨4, .data⟩], none⟩ (v := ?_) ?_ (fun _ => by assumption) ?_
              rotate_left
              · intro w hSw
                try dsimp only at hSw
                go_simp
                try with_reducible rfl
              try simp only [Act.put, List.setIfInBounds_toArray, List.set_cons_zero, List.set_cons_succ]
              refine puG 6 ⟨some 68, .move (.tmp 8), 3, _, #[], none⟩ (v := ?_) ?_ (fun _ => by assumption) ?_
              rotate_left
              · intro w hSw
                try dsimp only at hSw
                go_simp
                try with_reducible rfl
              try simp only [Act.put, List.setIfInBounds_toArray, List.set_cons_zero, List.set_cons_succ]
              refine puG 7 ⟨some 69, .binOp BinOp.add 3 (.tmp 67) (.tmp 68) 3, 3, _, #[⟨5, .data⟩, ⟨6, .data⟩], none⟩ (v := ?_) ?_ (fun _ => by assumption) ?_
              rotate_left
              · intro w hSw
                try dsimp only at hSw
                go_simp
                try with_reducible rfl
              try simp only [Act.put, List.setIfInBounds_toArray, List.set_cons_zero, List.set_cons_succ]
              refine puG 8 ⟨some 70, .fieldAddr 38 (.tmp 6) 2, 0, _, #[], none⟩ (v := ?_) ?_ (fun _ => by assumption) ?_
              rotate_left
              · intro w hSw
                try dsimp only at hSw
                go_simp
                try with_reducible rfl
              try simp only [Act.put, List.setIfInBounds_toArray, List.set_cons_zero, List.set_cons_succ]
              refine tkG 9 ⟨some 71, .load 22 (.tmp 70), 22, _, #[⟨8, .data⟩], none⟩ (v := ?_) ?_ (by assumption) ?_
              rotate_left
              · intro w hSw
                try dsimp only at hSw
                obtain ⟨⟨k0, k1, k2⟩, ⟨l0, l1, l2⟩, ⟨n0, n1, n2⟩, t0, t1, t2⟩ := hSw
                go_simp
                try with_reducible rfl
              try simp only [Act.put, List.setIfInBounds_toArray, List.set_cons_zero, List.set_cons_succ]
              refine puG 10 ⟨some 72, .move (.tmp 7), 3, _, #[], none⟩ (v := ?_) ?_ (fun _ => by assumption) ?_
              rotate_left
              · intro w hSw
                try dsimp only at hSw
                go_simp
                try with_reducible rfl
              try simp only [Act.put, List.setIfInBounds_toArray, List.set_cons_zero, List.set_cons_succ]
              refine puG 11 ⟨some 73, .fieldAddr 38 (.tmp 3) 1, 0, _, #[], none⟩ (v := ?_) ?_ (fun _ => by assumption) ?_
              rotate_left
              · intro w hSw
                try dsimp only at hSw
                go_simp
                try with_reducible rfl
              try simp only [Act.put, List.setIfInBounds_toArray, List.set_cons_zero, List.set_cons_succ]
              refine tkG 12 ⟨some 74, .load 3 (.tmp 73), 3, _, #[⟨11, .data⟩], none⟩ (v := ?_) ?_ (by assumption) ?_
              rotate_left
              · intro w hSw
                try dsimp only at hSw
                obtain ⟨⟨k0, k1, k2⟩, ⟨l0, l1, l2⟩, ⟨n0, n1, n2⟩, t0, t1, t2⟩ := hSw
                go_simp
                try with_reducible rfl
              try simp only [Act.put, List.setIfInBounds_toArray, List.set_cons_zero, List.set_cons_succ]
              refine puG 13 ⟨some 75, .binOp BinOp.mul 3 (.tmp 72) (.tmp 74) 3, 3, _, #[⟨10, .data⟩, ⟨12, .data⟩], none⟩ (v := ?_) ?_ (fun _ => by assumption) ?_
              rotate_left
              · intro w hSw
                try dsimp only at hSw
                go_simp
                try with_reducible rfl
              try simp only [Act.put, List.setIfInBounds_toArray, List.set_cons_zero, List.set_cons_succ]
              refine puG 14 ⟨some 76, .move (.tmp 8), 3, _, #[], none⟩ (v := ?_) ?_ (fun _ => by assumption) ?_
              rotate_left
              · intro w hSw
                try dsimp only at hSw
                go_simp
                try with_reducible rfl
              try simp only [Act.put, List.setIfInBounds_toArray, List.set_cons_zero, List.set_cons_succ]
              refine puG 15 ⟨some 77, .binOp BinOp.add 3 (.tmp 75) (.tmp 76) 3, 3, _, #[⟨13, .data⟩, ⟨14, .data⟩], none⟩ (v := ?_) ?_ (fun _ => by assumption) ?_
              rotate_left
              · intro w hSw
                try dsimp only at hSw
                go_simp
                try with_reducible rfl
              try simp only [Act.put, List.setIfInBounds_toArray, List.set_cons_zero, List.set_cons_succ]
              refine puG 16 ⟨some 78, .indexAddr 22 (.tmp 71) (.tmp 77), 0, _, #[⟨9, .data⟩, ⟨15, .data⟩], none⟩ (v := ?_) ?_ (fun _ => by assumption) ?_
              rotate_left
              · intro w hSw
                try dsimp only at hSw
                go_simp
                try with_reducible rfl
              try simp only [Act.put, List.setIfInBounds_toArray, List.set_cons_zero, List.set_cons_succ]
              refine tkG 17 ⟨some 79, .load 5 (.tmp 78), 5, _, #[⟨16, .data⟩], none⟩ (v := ?_) ?_ (by assumption) ?_
              rotate_left
              · intro w hSw
                try dsimp only at hSw
                obtain ⟨⟨k0, k1, k2⟩, ⟨l0, l1, l2⟩, ⟨n0, n1, n2⟩, t0, t1, t2⟩ := hSw
                go_simp
                try with_reducible rfl
              try simp only [Act.put, List.setIfInBounds_toArray, List.set_cons_zero, List.set_cons_succ]
              refine puG 18 ⟨some 80, .fieldAddr 38 (.tmp 2) 2, 0, _, #[], none⟩ (v := ?_) ?_ (fun _ => by assumption) ?_
              rotate_left
              · intro w hSw
                try dsimp only at hSw
                go_simp
                try with_reducible rfl
              try simp only [Act.put, List.setIfInBounds_toArray, List.set_cons_zero, List.set_cons_succ]
              refine tkG 19 ⟨some 81, .load 22 (.tmp 80), 22, _, #[⟨18, .data⟩], none⟩ (v := ?_) ?_ (by assumption) ?_
              rotate_left
              · intro w hSw
                try dsimp only at hSw
                obtain ⟨⟨k0, k1, k2⟩, ⟨l0, l1, l2⟩, ⟨n0, n1, n2⟩, t0, t1, t2⟩ := hSw
                go_simp
                try with_reducible rfl
              try simp only [Act.put, List.setIfInBounds_toArray, List.set_cons_zero, List.set_cons_succ]
              refine puG 20 ⟨some 82, .move (.tmp 7), 3, _, #[], none⟩ (v := ?_) ?_ (fun _ => by assumption) ?_
              rotate_left
              · intro w hSw
                try dsimp only at hSw
                go_simp
                try with_reducible rfl
              try simp only [Act.put, List.setIfInBounds_toArray, List.set_cons_zero, List.set_cons_succ]
              refine puG 21 ⟨some 83, .fieldAddr 38 (.tmp 2) 1, 0, _, #[], none⟩ (v := ?_) ?_ (fun _ => by assumption) ?_
              rotate_left
              · intro w hSw
                try dsimp only at hSw
                go_simp
                try with_reducible rfl
              try simp only [Act.put, List.setIfInBounds_toArray, List.set_cons_zero, List.set_cons_succ]
              refine tkG 22 ⟨some 84, .load 3 (.tmp 83), 3, _, #[⟨21, .data⟩], none⟩ (v := ?_) ?_ (by assumption) ?_
              rotate_left
              · intro w hSw
                try dsimp only at hSw
                obtain ⟨⟨k0, k1, k2⟩, ⟨l0, l1, l2⟩, ⟨n0, n1, n2⟩, t0, t1, t2⟩ := hSw
                go_simp
                try with_reducible rfl
              try simp only [Act.put, List.setIfInBounds_toArray, List.set_cons_zero, List.set_cons_succ]
              refine puG 23 ⟨some 85, .binOp BinOp.mul 3 (.tmp 82) (.tmp 84) 3, 3, _, #[⟨20, .data⟩, ⟨22, .data⟩], none⟩ (v := ?_) ?_ (fun _ => by assumption) ?_
              rotate_left
              · intro w hSw
                try dsimp only at hSw
                go_simp
                try with_reducible rfl
              try simp only [Act.put, List.setIfInBounds_toArray, List.set_cons_zero, List.set_cons_succ]
              refine puG 24 ⟨some 86, .move (.tmp 9), 3, _, #[], none⟩ (v := ?_) ?_ (fun _ => by assumption) ?_
              rotate_left
              · intro w hSw
                try dsimp only at hSw
                go_simp
                try with_reducible rfl
              try simp only [Act.put, List.setIfInBounds_toArray, List.set_cons_zero, List.set_cons_succ]
              refine puG 25 ⟨some 87, .binOp BinOp.add 3 (.tmp 85) (.tmp 86) 3, 3, _, #[⟨23, .data⟩, ⟨24, .data⟩], none⟩ (v := ?_) ?_ (fun _ => by assumption) ?_
              rotate_left
              · intro w hSw
                try dsimp only at hSw
                go_simp
                try with_reducible rfl
              try simp only [Act.put, List.setIfInBounds_toArray, List.set_cons_zero, List.set_cons_succ]
              refine puG 26 ⟨some 88, .indexAddr 22 (.tmp 81) (.tmp 87), 0, _, #[⟨19, .data⟩, ⟨25, .data⟩], none⟩ (v := ?_) ?_ (fun _ => by assumption) ?_
              rotate_left
              · intro w hSw
                try dsimp only at hSw
                go_simp
                try with_reducible rfl
              try simp only [Act.put, List.setIfInBounds_toArray, List.set_cons_zero, List.set_cons_succ]
              refine tkG 27 ⟨some 89, .load 5 (.tmp 88), 5, _, #[⟨26, .data⟩], none⟩ (v := ?_) ?_ (by assumption) ?_
              rotate_left
              · intro w hSw
                try dsimp only at hSw
                obtain ⟨⟨k0, k1, k2⟩, ⟨l0, l1, l2⟩, ⟨n0, n1, n2⟩, t0, t1, t2⟩ := hSw
                go_simp
                try with_reducible rfl
              try simp only [Act.put, List.setIfInBounds_toArray, List.set_cons_zero, List.set_cons_succ]
              refine puG 28 ⟨some 90, .fieldAddr 38 (.tmp 3) 2, 0, _, #[], none⟩ (v := ?_) ?_ (fun _ => by assumption) ?_
              rotate_left
              · intro w hSw
                try dsimp only at hSw
                go_simp
                try with_reducible rfl
              try simp only [Act.put, List.setIfInBounds_toArray, List.set_cons_zero, List.set_cons_succ]
              refine tkG 29 ⟨some 91, .load 22 (.tmp 90), 22, _, #[⟨28, .data⟩], none⟩ (v := ?_) ?_ (by assumption) ?_
              rotate_left
              · intro w hSw
                try dsimp only at hSw
                obtain ⟨⟨k0, k1, k2⟩, ⟨l0, l1, l2⟩, ⟨n0, n1, n2⟩, t0, t1, t2⟩ := hSw
                go_simp
                try with_reducible rfl
              try simp only [Act.put, List.setIfInBounds_toArray, List.set_cons_zero, List.set_cons_succ]
              refine puG 30 ⟨some 92, .move (.tmp 9), 3, _, #[], none⟩ (v := ?_) ?_ (fun _ => by assumption) ?_
              rotate_left
              · intro w hSw
                try dsimp only at hSw
                go_simp
                try with_reducible rfl
              try simp only [Act.put, List.setIfInBounds_toArray, List.set_cons_zero, List.set_cons_succ]
              refine puG 31 ⟨some 93, .fieldAddr 38 (.tmp 3) 1, 0, _, #[], none⟩ (v := ?_) ?_ (fun _ => by assumption) ?_
              rotate_left
              · intro w hSw
                try dsimp only at hSw
                go_simp
                try with_reducible rfl
              try simp only [Act.put, List.setIfInBounds_toArray, List.set_cons_zero, List.set_cons_succ]
              refine tkG 32 ⟨some 94, .load 3 (.tmp 93), 3, _, #[⟨31, .data⟩], none⟩ (v := ?_) ?_ (by assumption) ?_
              rotate_left
              · intro w hSw
                try dsimp only at hSw
                obtain ⟨⟨k0, k1, k2⟩, ⟨l0, l1, l2⟩, ⟨n0, n1, n2⟩, t0, t1, t2⟩ := hSw
                go_simp
                try with_reducible rfl
              try simp only [Act.put, List.setIfInBounds_toArray, List.set_cons_zero, List.set_cons_succ]
              refine puG 33 ⟨some 95, .binOp BinOp.mul 3 (.tmp 92) (.tmp 94) 3, 3, _, #[⟨30, .data⟩, ⟨32, .data⟩], none⟩ (v := ?_) ?_ (fun _ => by assumption) ?_
              rotate_left
              · intro w hSw
                try dsimp only at hSw
                go_simp
                try with_reducible rfl
              try simp only [Act.put, List.setIfInBounds_toArray, List.set_cons_zero, List.set_cons_succ]
              refine puG 34 ⟨some 96, .move (.tmp 8), 3, _, #[], none⟩ (v := ?_) ?_ (fun _ => by assumption) ?_
              rotate_left
              · intro w hSw
                try dsimp only at hSw
                go_simp
                try with_reducible rfl
              try simp only [Act.put, List.setIfInBounds_toArray, List.set_cons_zero, List.set_cons_succ]
              refine puG 35 ⟨some 97, .binOp BinOp.add 3 (.tmp 95) (.tmp 96) 3, 3, _, #[⟨33, .data⟩, ⟨34, .data⟩], none⟩ (v := ?_) ?_ (fun _ => by assumption) ?_
              rotate_left
              · intro w hSw
                try dsimp only at hSw
                go_simp
                try with_reducible rfl
              try simp only [Act.put, List.setIfInBounds_toArray, List.set_cons_zero, List.set_cons_succ]
              refine puG 36 ⟨some 98, .indexAddr 22 (.tmp 91) (.tmp 97), 0, _, #[⟨29, .data⟩, ⟨35, .data⟩], none⟩ (v := ?_) ?_ (fun _ => by assumption) ?_
              rotate_left
              · intro w hSw
                try dsimp only at hSw
                go_simp
                try with_reducible rfl
              try simp only [Act.put, List.setIfInBounds_toArray, List.set_cons_zero, List.set_cons_succ]
              refine tkG 37 ⟨some 99, .load 5 (.tmp 98), 5, _, #[⟨36, .data⟩], none⟩ (v := ?_) ?_ (by assumption) ?_
              rotate_left
              · intro w hSw
                try dsimp only at hSw
                obtain ⟨⟨k0, k1, k2⟩, ⟨l0, l1, l2⟩, ⟨n0, n1, n2⟩, t0, t1, t2⟩ := hSw
                go_simp
                try with_reducible rfl
              try simp only [Act.put, List.setIfInBounds_toArray, List.set_cons_zero, List.set_cons_succ]
              refine onG 38 ⟨some 100, .call { callee := Callee.value (Operand.func 51), args := #[.tmp 89, .tmp 99], argTypes := #[5, 5] }, 5, _, #[⟨27, .data⟩, ⟨37, .data⟩], none⟩ (fun K hK => ?_)
              go_simp
              refine (refMul_any _ _ x y rfl rfl _).mono ?_
              rintro e w' ⟨rfl, rfl⟩
              try dsimp only
              refine hK.out _ _ ?_ (fun hHeld => ?_)
              · intro _
                try dsimp only
                exact hHeld
              clear hK K
              try simp only [Act.put, List.setIfInBounds_toArray, List.set_cons_zero, List.set_cons_succ]
              have hHeld := hHeld (by kernel_rfl)
              refine puG 39 ⟨some 101, .binOp BinOp.xor 5 (.tmp 79) (.tmp 100) 5, 5, _, #[⟨17, .data⟩, ⟨38, .data⟩], none⟩ (v := ?_) ?_ (fun _ => by assumption) ?_
              rotate_left
              · intro w hSw
                try dsimp only at hSw
                go_simp
                try with_reducible rfl
              try simp only [Act.put, List.setIfInBounds_toArray, List.set_cons_zero, List.set_cons_succ]
              refine puG 40 ⟨some 102, .indexAddr 22 (.tmp 63) (.tmp 69), 0, _, #[⟨1, .data⟩, ⟨7, .data⟩, ⟨0, .phase⟩, ⟨1, .phase⟩, ⟨2, .phase⟩, ⟨3, .phase⟩, ⟨4, .phase⟩, ⟨5, .phase⟩, ⟨6, .phase⟩, ⟨7, .phase⟩, ⟨8, .phase⟩, ⟨9, .phase⟩, ⟨10, .phase⟩, ⟨11, .phase⟩, ⟨12, .phase⟩, ⟨13, .phase⟩, ⟨14, .phase⟩, ⟨15, .phase⟩, ⟨16, .phase⟩, ⟨17, .phase⟩, ⟨18, .phase⟩, ⟨19, .phase⟩, ⟨20, .phase⟩, ⟨21, .phase⟩, ⟨22, .phase⟩, ⟨23, .phase⟩, ⟨24, .phase⟩, ⟨25, .phase⟩, ⟨26, .phase⟩, ⟨27, .phase⟩, ⟨28, .phase⟩, ⟨29, .phase⟩, ⟨30, .phase⟩, ⟨31, .phase⟩, ⟨32, .phase⟩, ⟨33, .phase⟩, ⟨34, .phase⟩, ⟨35, .phase⟩, ⟨36, .phase⟩, ⟨37, .phase⟩, ⟨38, .phase⟩, ⟨39, .phase⟩], none⟩ (v := ?_) ?_ (fun _ => by assumption) ?_
              rotate_left
              · intro w hSw
                try dsimp only at hSw
                go_simp
                try with_reducible rfl
              try simp only [Act.put, List.setIfInBounds_toArray, List.set_cons_zero, List.set_cons_succ]
              refine onG 41 ⟨none, .store 5 (.tmp 102) (.tmp 101), 0, _, #[⟨40, .data⟩, ⟨39, .data⟩, ⟨38, .chain⟩, ⟨0, .phase⟩, ⟨1, .phase⟩, ⟨2, .phase⟩, ⟨3, .phase⟩, ⟨4, .phase⟩, ⟨5, .phase⟩, ⟨6, .phase⟩, ⟨7, .phase⟩, ⟨8, .phase⟩, ⟨9, .phase⟩, ⟨10, .phase⟩, ⟨11, .phase⟩, ⟨12, .phase⟩, ⟨13, .phase⟩, ⟨14, .phase⟩, ⟨15, .phase⟩, ⟨16, .phase⟩, ⟨17, .phase⟩, ⟨18, .phase⟩, ⟨19, .phase⟩, ⟨20, .phase⟩, ⟨21, .phase⟩, ⟨22, .phase⟩, ⟨23, .phase⟩, ⟨24, .phase⟩, ⟨25, .phase⟩, ⟨26, .phase⟩, ⟨27, .phase⟩, ⟨28, .phase⟩, ⟨29, .phase⟩, ⟨30, .phase⟩, ⟨31, .phase⟩, ⟨32, .phase⟩, ⟨33, .phase⟩, ⟨34, .phase⟩, ⟨35, .phase⟩, ⟨36, .phase⟩, ⟨37, .phase⟩, ⟨38, .phase⟩, ⟨39, .phase⟩], none⟩ (fun K hK => ?_)
              obtain ⟨s3, s4⟩ := HZS.out
              go_simp
              try dsimp only
              refine hK.out _ _ ?_ (fun hHeld => ?_)
              · exact fun h => (st_no (by kernel_rfl) h).elim
              clear hK K
              try simp only [Act.put, List.setIfInBounds_toArray, List.set_cons_zero, List.set_cons_succ]
              clear hHeld
              refine wpAnyG_done (by kernel_rfl) ?_ _
              refine NoPanic.normal ?_
              have h7 := H6.out.set HI.out HK.out (z ^^^ mul x y)
              rw [HZE.out.2.2.2] at h7
              have H7 := Lib.hid (h7.keep (nextN (Mem.start _) 1))
              clear h7 hHeld
              go_wp2_with fail
              go_roundw
              case rel =>
                refine ⟨j + 1, by simp, HJ.out, H7.out.congr fun x' _ y' _ => ?_⟩
                have h := rmulUp_step c a b i k j x' y'
                rw [HZE.out.1, HZE.out.2.1, HZE.out.2.2.1] at h
                exact h
              case measure => simp [intOf]; omega
            · obtain rfl : j = c := by omega
              go_wp2_with fail
              go_roundw
              case rel => exact ⟨k + 1, by simp, HK.out, H6.out.congr fun x _ y _ => rmulUp_next j a b i k x y⟩
              case measure => simp [intOf]; omega
        · obtain rfl : k = d := by omega
          go_wp2_with fail
          go_roundw
          case rel => exact ⟨i + 1, by simp, HI.out, H5.out.congr fun x _ y hy => rmulUp_row c a b i x y hy⟩
          case measure => simp [intOf]; omega
    · obtain rfl : i = r := by omega
      obtain ⟨⟨c0, c1, c2⟩, _⟩ := H4.out.cells (.head _)
      obtain ⟨⟨d0, d1, d2⟩, f0, f1, f2⟩ := H4.out.cells (.tail _ (.head _))
      have hfin := H4.out.end_ (.tail _ (.head _)) (.int .i64 (i : Int)) (.int .i64 (d : Int)) (.slice (some ⟨g, 0, none⟩) (i * d) (i * d))
      go_wp2_with fail
      obtain ⟨h1, h2, e0, e1, e2⟩ := hfin
      refine bodyPost_ret (v := .tuple #[.agg #[.int .i64 (i : Int), .int .i64 (d : Int), .slice (some ⟨g, 0, none⟩) (i * d) (i * d)], .int .i64 0]) (by simp [results, Try.results19, go_sem, e0, e1, e2]) rfl ?_
      refine ⟨some ⟨g, 0, none⟩, i * d, rfl, Nat.le_refl _, ?_, h1⟩
      rw [flat_congr (m' := mulM c a b) fun x hx y _ => by unfold rmulUp; rw [if_pos (.inl hx)]] at h2
      exact h2
set_option maxRecDepth 100000 in
set_option maxHeartbeats 4000000 in
theorem rmul_ok0 (w : World) (r c d : Nat) (A A' : Option Addr) (n cap n' cap' : Nat) (a b : M) (hn : n = r * c) (hn' : n' = c * d) (hd : r ≤ 100 ∧ c ≤ 100 ∧ d ≤ 100) (hA : Bytes w w.heap.size A (flat r c a)) (hB : Bytes w w.heap.size A' (flat c d b)) (hz : r = 0) :
    Calls Try.prog 19 #[.agg #[.int .i64 (r : Int), .int .i64 (c : Int), .slice A n cap], .agg #[.int .i64 (c : Int), .int .i64 (d : Int), .slice A' n' cap']] w (NewT w r d (mulM c a b)) := by
  have HN := Lib.hid (show r ≤ 100 ∧ c ≤ 100 ∧ d ≤ 100 ∧ n = r * c ∧ n' = c * d from ⟨hd.1, hd.2.1, hd.2.2, hn, hn'⟩)
  have HRT := Lib.hid (show rightB (r : Int) (c : Int) n = true from right_dim ⟨hd.1, hd.2.1⟩ hn)
  have HRT2 := Lib.hid (show rightB (c : Int) (d : Int) n' = true from right_dim ⟨hd.2.1, hd.2.2⟩ hn')
  have HA := Lib.hid hA
  have HB := Lib.hid hB
  have hr1 : ¬ (0 : Int) < (r : Int) := by omega
  have HZ9 := Lib.hid hz
  have hr2 : ¬ 0 < r := by omega
  clear hz
  clear hn hn' hd hA hB
  have H0 := Lib.hid ((((BS.start w).put #[.int .i64 (r : Int), .int .i64 (c : Int), .slice A n cap] 38 (by decide)).put #[.int .i64 (c : Int), .int .i64 (d : Int), .slice A' n' cap'] 38 (by decide)).put #[.int .i64 0, .int .i64 0, .slice none 0 0] 38 (by decide))
  go_enter Try.func19, Try.ntmps19
  go_wp2_with fail
  generalize ((w.alloc (.cells #[.int .i64 (r : Int), .int .i64 (c : Int), .slice A n cap] 38)).alloc (.cells #[.int .i64 (c : Int), .int .i64 (d : Int), .slice A' n' cap'] 38)).alloc (.cells #[.int .i64 0, .int .i64 0, .slice none 0 0] 38) = w1 at *
  simp only [World.size_alloc] at H0
  obtain ⟨ga, hga⟩ : ∃ x, w.heap.size = x := ⟨_, rfl⟩
  obtain ⟨gb, hgb⟩ : ∃ x, ga + 1 = x := ⟨_, rfl⟩
  obtain ⟨g0, hg0⟩ : ∃ x, gb + 1 = x := ⟨_, rfl⟩
  rw [hga, hgb, hg0] at H0 ⊢
  have H1 := H0
  clear H0
  refine wp_region_noPanic ?_
  refine wp_heldG (fun w' => (w'.cell? ⟨ga, 0, none⟩ = some (.int .i64 (r : Int)) ∧ w'.cell? ⟨ga, 1, none⟩ = some (.int .i64 (c : Int)) ∧ w'.cell? ⟨ga, 2, none⟩ = some (.slice A n cap)) ∧ (w'.cell? ⟨gb, 0, none⟩ = some (.int .i64 (c : Int)) ∧ w'.cell? ⟨gb, 1, none⟩ = some (.int .i64 (d : Int)) ∧ w'.cell? ⟨gb, 2, none⟩ = some (.slice A' n' cap'))) [] (by kernel_rfl) ?hs0 ?rg0
  case hs0 =>
    have h := H1.out.keep (nextN (Mem.start w1) 1)
    exact ⟨(h.cells (.tail _ (.tail _ (.head _)))).1, (h.cells (.tail _ (.head _))).1⟩
  case rg0 =>
  intro hHeld
  refine tkG 0 ⟨some 10, .load 38 (.tmp 2), 38, _, #[], none⟩ (v := ?_) ?_ (by assumption) ?_
  rotate_left
  · intro w hSw
    try dsimp only at hSw
    obtain ⟨⟨k0, k1, k2⟩, ⟨l0, l1, l2⟩⟩ := hSw
    go_simp
    try with_reducible rfl
  try simp only [Act.put, List.setIfInBounds_toArray, List.set_cons_zero, List.set_cons_succ]
  refine onG 1 ⟨some 11, .call { callee := Callee.value (Operand.func 37), args := #[.tmp 10], argTypes := #[38] }, 4, _, #[⟨0, .data⟩], none⟩ (fun K hK => ?_)
  have H2 := Lib.hid (show BS w _ w1.drew from H1.out.keep (nextN (Mem.start w1) 1))
  go_simp
  refine (rright_any _ _ _ A n cap).mono ?_
  rintro e w3 ⟨rfl, hb⟩
  rw [HRT.out]
  have H3 := Lib.hid (H2.out.keep hb)
  clear hb
  try dsimp only
  refine hK.out _ _ ?_ (fun hHeld => ?_)
  · intro _
    try dsimp only
    exact ⟨(H3.out.cells (.tail _ (.tail _ (.head _)))).1, (H3.out.cells (.tail _ (.head _))).1⟩
  clear hK K
  try simp only [Act.put, List.setIfInBounds_toArray, List.set_cons_zero, List.set_cons_succ]
  have hHeld := hHeld (by kernel_rfl)
  refine puG 2 ⟨some 12, .unOp UnOp.not 4 (.tmp 11), 4, _, #[⟨1, .data⟩], none⟩ (v := ?_) ?_ (fun _ => by assumption) ?_
  rotate_left
  · intro w hSw
    try dsimp only at hSw
    go_simp
    try with_reducible rfl
  try simp only [Act.put, List.setIfInBounds_toArray, List.set_cons_zero, List.set_cons_succ]
  refine puG 3 ⟨some 13, .move (.tmp 12), 4, _, #[⟨2, .data⟩, ⟨1, .chain⟩], none⟩ (v := ?_) ?_ (fun _ => by assumption) ?_
  rotate_left
  · intro w hSw
    try dsimp only at hSw
    go_simp
    try with_reducible rfl
  try simp only [Act.put, List.setIfInBounds_toArray, List.set_cons_zero, List.set_cons_succ]
  refine tkG 4 ⟨some 14, .load 38 (.tmp 3), 38, _, #[⟨3, .guard⟩], some (3, false)⟩ (v := ?_) ?_ (by assumption) ?_
  rotate_left
  · intro w hSw
    try dsimp only at hSw
    obtain ⟨⟨k0, k1, k2⟩, ⟨l0, l1, l2⟩⟩ := hSw
    go_simp
    try with_reducible rfl
  try simp only [Act.put, List.setIfInBounds_toArray, List.set_cons_zero, List.set_cons_succ]
  refine onG 5 ⟨some 15, .call { callee := Callee.value (Operand.func 37), args := #[.tmp 14], argTypes := #[38] }, 4, _, #[⟨4, .data⟩, ⟨3, .chain⟩, ⟨3, .guard⟩], some (3, false)⟩ (fun K hK => ?_)
  go_simp
  refine (rright_any _ _ _ A' n' cap').mono ?_
  rintro e w4 ⟨rfl, hb⟩
  rw [HRT2.out]
  have H4 := Lib.hid (H3.out.keep hb)
  clear hb
  try dsimp only
  refine hK.out _ _ ?_ (fun hHeld => ?_)
  · intro _
    try dsimp only
    exact ⟨(H4.out.cells (.tail _ (.tail _ (.head _)))).1, (H4.out.cells (.tail _ (.head _))).1⟩
  clear hK K
  try simp only [Act.put, List.setIfInBounds_toArray, List.set_cons_zero, List.set_cons_succ]
  have hHeld := hHeld (by kernel_rfl)
  refine puG 6 ⟨some 16, .unOp UnOp.not 4 (.tmp 15), 4, _, #[⟨5, .data⟩, ⟨3, .guard⟩], some (3, false)⟩ (v := ?_) ?_ (fun _ => by assumption) ?_
  rotate_left
  · intro w hSw
    try dsimp only at hSw
    go_simp
    try with_reducible rfl
  try simp only [Act.put, List.setIfInBounds_toArray, List.set_cons_zero, List.set_cons_succ]
  refine puG 7 ⟨some 17, .pick (.tmp 13) (Operand.const (Value.bool true)) (.tmp 16), 4, _, #[⟨3, .data⟩, ⟨6, .data⟩], none⟩ (v := ?_) ?_ (fun _ => by assumption) ?_
  rotate_left
  · intro w hSw
    try dsimp only at hSw
    go_simp
    try with_reducible rfl
  try simp only [Act.put, List.setIfInBounds_toArray, List.set_cons_zero, List.set_cons_succ]
  refine puG 8 ⟨some 18, .move (.tmp 17), 4, _, #[⟨7, .data⟩, ⟨5, .chain⟩], none⟩ (v := ?_) ?_ (fun _ => by assumption) ?_
  rotate_left
  · intro w hSw
    try dsimp only at hSw
    go_simp
    try with_reducible rfl
  try simp only [Act.put, List.setIfInBounds_toArray, List.set_cons_zero, List.set_cons_succ]
  refine puG 9 ⟨some 19, .fieldAddr 38 (.tmp 2) 1, 0, _, #[⟨8, .guard⟩], some (8, false)⟩ (v := ?_) ?_ (fun _ => by assumption) ?_
  rotate_left
  · intro w hSw
    try dsimp only at hSw
    go_simp
    try with_reducible rfl
  try simp only [Act.put, List.setIfInBounds_toArray, List.set_cons_zero, List.set_cons_succ]
  refine tkG 10 ⟨some 20, .load 3 (.tmp 19), 3, _, #[⟨9, .data⟩, ⟨8, .guard⟩], some (8, false)⟩ (v := ?_) ?_ (by assumption) ?_
  rotate_left
  · intro w hSw
    try dsimp only at hSw
    obtain ⟨⟨k0, k1, k2⟩, ⟨l0, l1, l2⟩⟩ := hSw
    go_simp
    try with_reducible rfl
  try simp only [Act.put, List.setIfInBounds_toArray, List.set_cons_zero, List.set_cons_succ]
  refine puG 11 ⟨some 21, .fieldAddr 38 (.tmp 3) 0, 0, _, #[⟨8, .guard⟩], some (8, false)⟩ (v := ?_) ?_ (fun _ => by assumption) ?_
  rotate_left
  · intro w hSw
    try dsimp only at hSw
    go_simp
    try with_reducible rfl
  try simp only [Act.put, List.setIfInBounds_toArray, List.set_cons_zero, List.set_cons_succ]
  refine tkG 12 ⟨some 22, .load 3 (.tmp 21), 3, _, #[⟨11, .data⟩, ⟨8, .guard⟩], some (8, false)⟩ (v := ?_) ?_ (by assumption) ?_
  rotate_left
  · intro w hSw
    try dsimp only at hSw
    obtain ⟨⟨k0, k1, k2⟩, ⟨l0, l1, l2⟩⟩ := hSw
    go_simp
    try with_reducible rfl
  try simp only [Act.put, List.setIfInBounds_toArray, List.set_cons_zero, List.set_cons_succ]
  refine puG 13 ⟨some 23, .binOp BinOp.neq 3 (.tmp 20) (.tmp 22) 3, 4, _, #[⟨10, .data⟩, ⟨12, .data⟩, ⟨8, .guard⟩], some (8, false)⟩ (v := ?_) ?_ (fun _ => by assumption) ?_
  rotate_left
  · intro w hSw
    try dsimp only at hSw
    go_simp
    try with_reducible rfl
  try simp only [Act.put, List.setIfInBounds_toArray, List.set_cons_zero, List.set_cons_succ]
  refine puG 14 ⟨some 24, .pick (.tmp 18) (Operand.const (Value.bool true)) (.tmp 23), 4, _, #[⟨8, .data⟩, ⟨13, .data⟩], none⟩ (v := ?_) ?_ (fun _ => by assumption) ?_
  rotate_left
  · intro w hSw
    try dsimp only at hSw
    go_simp
    try with_reducible rfl
  try simp only [Act.put, List.setIfInBounds_toArray, List.set_cons_zero, List.set_cons_succ]
  refine puG 15 ⟨some 25, .move (.tmp 24), 4, _, #[⟨14, .data⟩, ⟨8, .chain⟩], none⟩ (v := ?_) ?_ (fun _ => by assumption) ?_
  rotate_left
  · intro w hSw
    try dsimp only at hSw
    go_simp
    try with_reducible rfl
  try simp only [Act.put, List.setIfInBounds_toArray, List.set_cons_zero, List.set_cons_succ]
  refine puG 16 ⟨some 26, .fieldAddr 38 (.tmp 2) 0, 0, _, #[⟨15, .guard⟩], some (15, false)⟩ (v := ?_) ?_ (fun _ => by assumption) ?_
  rotate_left
  · intro w hSw
    try dsimp only at hSw
    go_simp
    try with_reducible rfl
  try simp only [Act.put, List.setIfInBounds_toArray, List.set_cons_zero, List.set_cons_succ]
  refine tkG 17 ⟨some 27, .load 3 (.tmp 26), 3, _, #[⟨16, .data⟩, ⟨15, .guard⟩], some (15, false)⟩ (v := ?_) ?_ (by assumption) ?_
  rotate_left
  · intro w hSw
    try dsimp only at hSw
    obtain ⟨⟨k0, k1, k2⟩, ⟨l0, l1, l2⟩⟩ := hSw
    go_simp
    try with_reducible rfl
  try simp only [Act.put, List.setIfInBounds_toArray, List.set_cons_zero, List.set_cons_succ]
  refine puG 18 ⟨some 28, .binOp BinOp.gtr 3 (.tmp 27) (Operand.const (Value.int IntKind.i64 0)) 3, 4, _, #[⟨17, .data⟩, ⟨15, .guard⟩], some (15, false)⟩ (v := ?_) ?_ (fun _ => by assumption) ?_
  rotate_left
  · intro w hSw
    try dsimp only at hSw
    go_simp
    try with_reducible rfl
  try simp only [Act.put, List.setIfInBounds_toArray, List.set_cons_zero, List.set_cons_succ]
  refine puG 19 ⟨some 29, .move (.tmp 28), 4, _, #[⟨18, .data⟩, ⟨15, .chain⟩, ⟨15, .guard⟩], some (15, false)⟩ (v := ?_) ?_ (fun _ => by assumption) ?_
  rotate_left
  · intro w hSw
    try dsimp only at hSw
    go_simp
    try with_reducible rfl
  try simp only [Act.put, List.setIfInBounds_toArray, List.set_cons_zero, List.set_cons_succ]
  refine ofG 20 ⟨some 30, .fieldAddr 38 (.tmp 3) 1, 0, _, #[⟨19, .guard⟩], some (19, true)⟩ (fun _ => by assumption) ?_
  try simp only [Act.put, List.setIfInBounds_toArray, List.set_cons_zero, List.set_cons_succ]
  refine ofG 21 ⟨some 31, .load 3 (.tmp 30), 3, _, #[⟨20, .data⟩, ⟨19, .guard⟩], some (19, true)⟩ (fun _ => by assumption) ?_
  try simp only [Act.put, List.setIfInBounds_toArray, List.set_cons_zero, List.set_cons_succ]
  refine ofG 22 ⟨some 32, .fieldAddr 38 (.tmp 2) 0, 0, _, #[⟨19, .guard⟩], some (19, true)⟩ (fun _ => by assumption) ?_
  try simp only [Act.put, List.setIfInBounds_toArray, List.set_cons_zero, List.set_cons_succ]
  refine ofG 23 ⟨some 33, .load 3 (.tmp 32), 3, _, #[⟨22, .data⟩, ⟨19, .guard⟩], some (19, true)⟩ (fun _ => by assumption) ?_
  try simp only [Act.put, List.setIfInBounds_toArray, List.set_cons_zero, List.set_cons_succ]
  refine ofG 24 ⟨some 34, .binOp BinOp.quo 3 (Operand.const (Value.int IntKind.i64 16777216)) (.tmp 33) 3, 3, _, #[⟨23, .data⟩, ⟨19, .guard⟩], some (19, true)⟩ (fun _ => by assumption) ?_
  try simp only [Act.put, List.setIfInBounds_toArray, List.set_cons_zero, List.set_cons_succ]
  refine ofG 25 ⟨some 35, .binOp BinOp.gtr 3 (.tmp 31) (.tmp 34) 3, 4, _, #[⟨21, .data⟩, ⟨24, .data⟩, ⟨19, .guard⟩], some (19, true)⟩ (fun _ => by assumption) ?_
  try simp only [Act.put, List.setIfInBounds_toArray, List.set_cons_zero, List.set_cons_succ]
  refine puG 26 ⟨some 36, .pick (.tmp 29) (.tmp 35) (Operand.const (Value.bool false)), 4, _, #[⟨19, .data⟩, ⟨25, .data⟩, ⟨15, .guard⟩], some (15, false)⟩ (v := ?_) ?_ (fun _ => by assumption) ?_
  rotate_left
  · intro w hSw
    try dsimp only at hSw
    go_simp
    try with_reducible rfl
  try simp only [Act.put, List.setIfInBounds_toArray, List.set_cons_zero, List.set_cons_succ]
  refine puG 27 ⟨some 37, .pick (.tmp 25) (Operand.const (Value.bool true)) (.tmp 36), 4, _, #[⟨15, .data⟩, ⟨26, .data⟩], none⟩ (v := ?_) ?_ (fun _ => by assumption) ?_
  rotate_left
  · intro w hSw
    try dsimp only at hSw
    go_simp
    try with_reducible rfl
  try simp only [Act.put, List.setIfInBounds_toArray, List.set_cons_zero, List.set_cons_succ]
  refine wpAnyG_done (by kernel_rfl) ?_ _
  refine NoPanic.normal ?_
  clear hHeld
  obtain ⟨⟨a0, a1, a2⟩, _⟩ := H4.out.cells (.tail _ (.tail _ (.head _)))
  obtain ⟨⟨b0, b1, b2⟩, _⟩ := H4.out.cells (.tail _ (.head _))
  go_wp2_with fail
  clear a0 a1 a2 b0 b1 b2
  have H1 := H4
  generalize w4 = w1 at *
  refine (rnone_any w1 (r) (d) (by have h1 : r * d ≤ 100 * 100 := Nat.mul_le_mul HN.out.1 HN.out.2.2.1; omega)).mono ?_
  rintro e w2 ⟨g, rfl, ho, hb⟩
  have H2 := Lib.hid (H1.out.none_ (g := g) (cap := r * d) (r := r) (c := d) (m := fun _ _ => 0) (show Wm w2 w.heap.size g (r * d) (r) (d) _ from ho.down H1.out.below.size) hb)
  clear ho hb 
  have H3 := Lib.hid (H2.out.put (mcells (r) (d) (some ⟨g, 0, none⟩) (r * d) (r * d)) 38 (by decide))
  go_wp2_with fail
  obtain ⟨gm, hgm⟩ : ∃ x, w2.heap.size = x := ⟨_, rfl⟩
  obtain ⟨w3, hw3⟩ : ∃ x : World, w2.alloc (.cells #[.int .i64 (r : Int), .int .i64 (d : Int), .slice (some ⟨g, 0, none⟩) (r * d) (r * d)] 38) = x := ⟨_, rfl⟩
  have hw3' : w2.alloc (.cells (mcells (r) (d) (some ⟨g, 0, none⟩) (r * d) (r * d)) 38) = w3 := hw3
  rw [hw3', hgm] at H3
  rw [hw3, hgm]
  clear hw3 hw3' hgm
  go_loopw [7] (fun i wr => ∃ i' : Nat, i = .int .i64 (i' : Int) ∧ i' ≤ r ∧ WS w [(gm, 38, mcells r d (some ⟨g, 0, none⟩) (r * d) (r * d)), (g0, 38, #[.int .i64 0, .int .i64 0, .slice none 0 0]), (gb, 38, mcells c d A' n' cap'), (ga, 38, mcells r c A n cap)] g (r * d) r d (rmulUp c a b i' 0 0) wr) (fun i _ => r - (intOf i).toNat)
  case atStart => exact ⟨0, rfl, Nat.zero_le _, H3.out.congr fun x _ y _ => by unfold rmulUp; rw [if_neg (by omega)]; split <;> rfl⟩
  case round =>
    obtain ⟨i, rfl, hi, h⟩ := hrel
    have H4 := Lib.hid h
    clear h H3
    obtain ⟨w4, rfl⟩ : ∃ w4 : World, w4 = wr := ⟨_, rfl⟩
    obtain ⟨⟨a0, a1, a2⟩, _⟩ := H4.out.cells (.tail _ (.tail _ (.tail _ (.head _))))
    by_cases hir : i < r
    · exact absurd hir (by have h9 := HZ9.out; omega)
    · obtain rfl : i = r := by omega
      obtain ⟨⟨c0, c1, c2⟩, _⟩ := H4.out.cells (.head _)
      obtain ⟨⟨d0, d1, d2⟩, f0, f1, f2⟩ := H4.out.cells (.tail _ (.head _))
      have hfin := H4.out.end_ (.tail _ (.head _)) (.int .i64 (i : Int)) (.int .i64 (d : Int)) (.slice (some ⟨g, 0, none⟩) (i * d) (i * d))
      go_wp2_with fail
      obtain ⟨h1, h2, e0, e1, e2⟩ := hfin
      refine bodyPost_ret (v := .tuple #[.agg #[.int .i64 (i : Int), .int .i64 (d : Int), .slice (some ⟨g, 0, none⟩) (i * d) (i * d)], .int .i64 0]) (by simp [results, Try.results19, go_sem, e0, e1, e2]) rfl ?_
      refine ⟨some ⟨g, 0, none⟩, i * d, rfl, Nat.le_refl _, ?_, h1⟩
      rw [flat_congr (m' := mulM c a b) fun x hx y _ => by unfold rmulUp; rw [if_pos (.inl hx)]] at h2
      exact h2
theorem rmul_ok (w : World) (r c d : Nat) (A A' : Option Addr) (n cap n' cap' : Nat) (a b : M) (hn : n = r * c) (hn' : n' = c * d) (hd : r ≤ 100 ∧ c ≤ 100 ∧ d ≤ 100) (hA : Bytes w w.heap.size A (flat r c a)) (hB : Bytes w w.heap.size A' (flat c d b)) :
    Calls Try.prog 19 #[.agg #[.int .i64 (r : Int), .int .i64 (c : Int), .slice A n cap], .agg #[.int .i64 (c : Int), .int .i64 (d : Int), .slice A' n' cap']] w (NewT w r d (mulM c a b)) := by
  rcases Nat.eq_zero_or_pos r with h | h
  · exact rmul_ok0 w r c d A A' n cap n' cap' a b hn hn' hd hA hB h
  · exact rmul_ok1 w r c d A A' n cap n' cap' a b hn hn' hd hA hB h
end Go.Proofs.Ythdapoipfnnaeaa.MxW
