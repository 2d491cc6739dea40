/- Packed. -/
import Derived.Test.YthdapoipfnnaeaaMxSym
import Derived.Test.YthdapoipfnnaeaaAppz
namespace Go.Proofs.Ythdapoipfnnaeaa.MxW
open Go.RowKit Go.Shelf Mem Gf FdW Mx Rng
open PlW (In)
set_option linter.unusedVariables false
attribute [local go_sem] Oper.semAt_some wide_fn

/-- A range over a matrix's rows, the rounds' blocks told apart from the loop's own. -/
theorem wpIn_rows2 {g : Operand} {p q : Tmp} {assign body : Code} {Q : Exit → Act → World → Prop} {a : Act} {w : World} (bm r c : Nat) (A : Option Addr) (n cap : Nat)
    (hg : a.eval g = .func (.func 57) #[] #[.pointer (some ⟨bm, 0, none⟩)]) (hbm : Blk w bm 27 #[.int .i64 (r : Int), .int .i64 (c : Int), .slice A n cap]) (hr : (r : Int) ≤ 1000000) (hn : n = r * c) (hn9 : (n : Int) ≤ 1000000000) (hc : n ≤ cap)
    (SB : Nat → Prop) (hSB : ¬ SB bm ∧ ¬ SB w.heap.size ∧ ¬ SB (w.heap.size + 1)) (I : Nat → World → Prop) (hI : ∀ i W W', I i W → Fr (fun k => k = w.heap.size + 1) W W' → I i W') (h0 : ∀ W, Below w.heap.size w W → W.heap.size = w.heap.size + 2 → I 0 W)
    (hround : ∀ (l i : Nat) (W : World), I i W → i < r → assign.wpIn (Fence.wide.inRound l) 3 Try.prog (Exit.then (fun a₁ W₁ => W₁ = W ∧ ∀ W2, I i W2 → body.wpIn (Fence.wide.inRound l) 3 Try.prog (postR SB I i W2) a₁ W2) (fun _ _ _ => False))
      { tmps := (a.tmps.setIfInBounds p (.int .i64 (i : Int))).setIfInBounds q (.slice (rowA A c i) c c), defers := [] } W)
    (hdone : ∀ (D : Nat) (W : World), D = w.heap.size → I r W → W.heap[D]? = some (.deferred (some [])) → Q .normal { a with defers := { target := .collected D, args := #[] } :: a.defers } W) :
    (Code.rangeFunc g #[p, q] assign body).wpIn Fence.wide 5 Try.prog Q a w := by
  refine wpIn_rangeT (gf := 57) (lb := #[.pointer (some ⟨bm, 0, none⟩)]) (encs := rowV A c) hg (enters_of Try.func57 (by kernel_rfl) rfl) (fun _ => rfl)
    (fun pre W => I pre.length W) (fun _ _ _ => False) (fun pre x _ => x = pre.length ∧ x < r) SB (S := fun xs => xs.length = r) (Sp := fun _ => False) ⟨hSB.2.1, hSB.2.2⟩
    (rows_callT w bm r c A n cap hbm hr hn hn9 hc SB hSB.1 _ (fun pre W W' h hb => hI _ _ _ h (Fr.quiet hb))) (fun pre W W' h hf => hI _ _ _ h hf) (fun _ _ _ _ h _ => h) (fun _ _ _ _ h _ => h)
    (fun W hb hs => h0 W hb hs) ?_ ?_ ?_
  · rintro l pre x W hi ⟨rfl, hx⟩
    rw [show (#[p, q].zip (rowV A c pre.length)).foldl (fun t (p, v) => t.setIfInBounds p v) a.tmps = (a.tmps.setIfInBounds p (.int .i64 (pre.length : Int))).setIfInBounds q (.slice (rowA A c pre.length) c c) from by simp [rowV]]
    refine wpIn_mono (hround l pre.length W hi hx) ?_
    rintro e a1 W0 he
    cases e with
    | normal =>
      obtain ⟨h1, h2⟩ : W0 = W ∧ _ := he
      refine ⟨h1, fun W2 hi2 _ => wpIn_mono (h2 W2 hi2) ?_⟩
      rintro e3 a3 W3 h3
      cases e3 with
      | normal => exact ⟨h3.1, by show I (pre ++ [pre.length]).length W3; rw [List.length_append]; exact h3.2⟩
      | _ => exact h3.elim
    | _ => exact he.elim
  · rintro D xs W hD hxs hi hK
    have hxs : xs.length = r := hxs
    rw [← hxs] at hdone
    exact hdone D W hD hi hK
  · rintro D c pre W _ h _ _
    exact h.elim

def packR (n : Nat) (m : M) (i : Nat) : List UInt8 := (List.range (n - i)).map fun j => m i (i + j)
def packS (n : Nat) (m : M) (k : Nat) : List UInt8 := (List.range k).flatMap (packR n m)
theorem packR_len (n : Nat) (m : M) (i : Nat) : (packR n m i).length = n - i := by simp [packR]
theorem packS_succ (n : Nat) (m : M) (k : Nat) : packS n m (k + 1) = packS n m k ++ packR n m k := by
  unfold packS; rw [List.range_succ, List.flatMap_append, List.flatMap_singleton]
theorem packS_len (n : Nat) (m : M) : ∀ k, (packS n m k).length = offS n k
  | 0 => rfl
  | k + 1 => by rw [packS_succ, List.length_append, packS_len n m k, packR_len]; rfl
theorem offS_max {n k : Nat} (hn : n ≤ 65536) (hk : k ≤ n) : offS n k ≤ 65536 * 65536 := by
  have h1 : offS n k ≤ offS n n := offS_mono hk
  have h2 := offS_len n
  have h3 : n * (n + 1) ≤ 65536 * 65537 := Nat.mul_le_mul hn (by omega)
  omega
/-- While Packed goes on: b's box gb, its bytes. -/
structure PackI (w : World) (gb D n : Nat) (m : M) (i : Nat) (W : World) : Prop where
  below : Below w.heap.size w W
  lt : D + 2 ≤ W.heap.size
  bx : ∃ A c, Blk W gb 22 #[.slice A (offS n i) c] ∧ Mem.Own W (D + 2) 5 A c ((packS n m i).map u8v)
def PackOk (w : World) (n : Nat) (m : M) (e : Ending) (w' : World) : Prop := ∃ A c, e = .returned (.tuple #[.slice A (offS n n) c, .int .i64 0]) ∧ offS n n ≤ c ∧ Nw w.heap.size w' A (packS n m n) ∧ Below w.heap.size w w'
set_option maxRecDepth 100000 in
set_option maxHeartbeats 4000000 in
theorem packed_ok (w : World) (r : Nat) (A : Option Addr) (n cap : Nat) (m : M) (hn : n = r * r) (hrt : rightB r r n = true) (hcap : n ≤ cap) (hn9 : (n : Int) ≤ 1000000000) (hA : Bytes w w.heap.size A (flat r r m)) (hsm : flat r r (fun a b => m b a) = flat r r m) :
    Calls Try.prog 39 #[.agg #[.int .i64 (r : Int), .int .i64 (r : Int), .slice A n cap]] w (PackOk w r m) := by
  have hr : r ≤ 65536 := by have h := of_decide_eq_true hrt; omega
  obtain ⟨i0, hi0, hz0, hz1, hz2⟩ : ∃ i : TypeInfo, Try.prog.info? 5 = some i ∧ i.zero = some (.int .u8 0) ∧ i.size = 1 ∧ i.bytes = 1 := ⟨_, rfl, rfl, rfl, rfl⟩
  refine of_wide ?_
  refine callsIn_of_wp_marks Try.func39 rfl trivial ?_ rfl
  refine wpIn_wide.2 ?_
  simp only [Try.ntmps39, List.size_toArray, List.length_cons, List.length_nil, Nat.reduceAdd, Nat.reduceSub, Array.replicate_succ, Array.replicate_zero, List.push_toArray, List.append_toArray, List.nil_append, List.cons_append]
  obtain ⟨w1, ga, h1, hw1, hga⟩ := boxed w (mcells r r A n cap)
  have HW1 := Lib.hid (show w.alloc (.cells #[.int .i64 (r : Int), .int .i64 (r : Int), .slice A n cap] 27) = w1 from hw1)
  have HG := Lib.hid hga
  have H1 := Lib.hid h1
  have HL := Lib.hid (And.intro hn (And.intro hcap (And.intro hn9 hr)))
  have HA := Lib.hid hA
  have HSM := Lib.hid hsm
  have HRT := Lib.hid hrt
  obtain ⟨⟨c0, c1, c2⟩, _⟩ := cells3 h1.2.1
  rw [← HW1.out] at c0 c1 c2
  clear h1 hw1 hga hn hcap hn9 hr hA hsm hrt
  go_wp2_with fail
  rw [HW1.out, HG.out]
  refine (turned_ok w1 r r A n cap m HL.out.1 HRT.out HL.out.2.1 HL.out.2.2.1 ((HA.out.below H1.out.1).up H1.out.1.size)).mono ?_
  rintro e w2 ⟨A2, cq, rfl, hc2, hnw, hb⟩
  have H2 := Lib.hid (show Below w.heap.size w w2 ∧ Blk w2 ga 27 (mcells r r A n cap) ∧ r * r ≤ cq ∧ Nw w1.heap.size w2 A2 (flat r r fun a b => m b a) from ⟨next H1.out.1 hb, H1.out.2.1.keep hb, hc2, hnw⟩)
  obtain ⟨w3, gt, h3, hw3, hgt⟩ := boxed w2 (mcells r r A2 (r * r) cq)
  have H3 := Lib.hid (show Below w.heap.size w w3 ∧ Blk w3 ga 27 (mcells r r A n cap) ∧ Blk w3 gt 27 (mcells r r A2 (r * r) cq) ∧ Nw w1.heap.size w3 A2 (flat r r fun a b => m b a) from ⟨next H2.out.1 h3.1, H2.out.2.1.keep h3.1, h3.2.1, hnw.keep h3.1⟩)
  have HG3 := Lib.hid hgt
  have HW3 := Lib.hid (show w2.alloc (.cells #[.int .i64 (r : Int), .int .i64 (r : Int), .slice A2 (r * r) cq] 27) = w3 from hw3)
  have HS := Lib.hid (show w.heap.size ≤ w1.heap.size ∧ w1.heap.size ≤ w2.heap.size ∧ w3.heap.size = w2.heap.size + 1 ∧ w.heap.size = ga ∧ w1.heap.size = ga + 1 from ⟨H1.out.1.size, hb.size, by have := h3.2.2; omega, HG.out, H1.out.2.2⟩)
  obtain ⟨⟨b0, b1, b2⟩, _⟩ := cells3 H3.out.2.1
  rw [← HW3.out] at b0 b1 b2
  clear hb hc2 hnw c0 c1 c2 h3 hw3
  go_wp2_with fail
  rw [HW3.out]
  clear hgt b0 b1 b2
  refine (same_any w3 _ _ _ _ A2 A (flat r r fun a b => m b a) (flat r r m) (r * r) cq n cap w3.heap.size w.heap.size (by rw [flat_len]) (by rw [flat_len]; exact HL.out.1.symm) (Nat.le_refl _) H3.out.1.size H3.out.2.2.2.1 (HA.out.below H3.out.1)).mono ?_
  rintro e w4 ⟨rfl, hb⟩
  rw [show sameB (r : Int) r r r (flat r r fun a b => m b a) (flat r r m) = true from decide_eq_true ⟨rfl, rfl, HSM.out⟩]
  have H4 := Lib.hid (show Below w.heap.size w w4 ∧ Blk w4 ga 27 (mcells r r A n cap) ∧ w3.heap.size ≤ w4.heap.size from ⟨next H3.out.1 hb, H3.out.2.1.keep hb, hb.size⟩)
  obtain ⟨⟨b0, b1, b2⟩, _⟩ := cells3 H4.out.2.1
  obtain ⟨w5, gb, h5, hw5, hgb⟩ := boxedT w4 #[.slice none 0 0] 22
  have HW5 := Lib.hid (show w4.alloc (.cells #[.slice none 0 0] 22) = w5 from hw5)
  have HG5 := Lib.hid hgb
  have H5 := Lib.hid h5
  obtain ⟨⟨d0, d1, d2⟩, _⟩ := cells3 (H4.out.2.1.keep h5.1)
  rw [← HW5.out] at d0 d1 d2
  clear hb hw5 hgb h5 b0 b1 b2
  go_wp2_with fail
  rw [HW5.out, HG5.out]
  refine (rows_any w5 _ _ _).mono ?_
  rintro e w6' ⟨rfl, rfl⟩
  obtain ⟨w6, bm, h6, hw6, hbm⟩ := boxed w5 (mcells r r A n cap)
  have HW6 := Lib.hid (show w5.alloc (.cells #[.int .i64 (r : Int), .int .i64 (r : Int), .slice A n cap] 27) = w6 from hw6)
  rw [HW6.out, hbm]
  have hap : w.heap.size = ga ∧ ga < gb ∧ bm = gb + 1 ∧ w6.heap.size = bm + 1 := by
    have k1 := HS.out; have k2 := H4.out.2.2; have k3 := HG5.out; have k4 := H5.out.2.2; have k5 := h6.2.2
    omega
  have HAP := Lib.hid hap
  have H6 := Lib.hid (show Below w.heap.size w w6 ∧ Blk w6 gb 22 #[.slice none 0 0] ∧ Blk w6 bm 27 (mcells r r A n cap) from ⟨next (next H4.out.1 H5.out.1) h6.1, H5.out.2.1.keep h6.1, h6.2.1⟩)
  clear hw6 hbm h6 hap d0 d1 d2
  go_wp2_with fail
  refine (wpIn_wide (n := 5)).1 ?_
  refine wpIn_rows2 bm r r A n cap rfl H6.out.2.2 (by have := HL.out; omega) HL.out.1 HL.out.2.2.1 HL.out.2.1 (fun k => k = gb ∨ w6.heap.size + 2 ≤ k) (by have := HAP.out; omega)
    (fun i W => PackI w gb w6.heap.size r m i W) ?hI ?h0 ?hround ?hdone
  case hI =>
    intro i W W' h hf
    have hap := HAP.out
    obtain ⟨B, cb, h1, h2⟩ := h.bx
    exact ⟨h.below.trans (hf.below h.below.size fun k e => by omega), Nat.le_trans h.lt hf.size, B, cb, h1.fr hf (by omega), Own.fr h2 hf (fun g' e1 e2 => by
      rcases h2.form with ⟨e3, _⟩ | ⟨g2, e3, hb2, _⟩
      · rw [e1] at e3; cases e3
      · rw [e1] at e3; injection e3 with e3; have := congrArg Addr.block e3; dsimp only at this; omega)⟩
  case h0 =>
    intro W hb hs
    exact ⟨next H6.out.1 hb, by omega, none, 0, H6.out.2.1.keep hb, Own.nil⟩
  case hround =>
    intro ln i W hi hlt
    obtain ⟨ab, off, hX, hab, _, hcs⟩ := row_at (HA.out.below hi.below) hlt (show 0 < r by omega)
    rw [hX]
    have HX := Lib.hid hX
    have HLT := Lib.hid hlt
    have HAB := Lib.hid hab
    have hii0 : (0 : Int) ≤ (i : Int) := by omega
    have hin : (i : Int) ≤ (r : Int) := by omega
    have hir : ¬ r = i := by omega
    clear hlt hi hX hab hcs
    gi_wp2
    refine ⟨trivial, fun W2 hi2 => ?_⟩
    obtain ⟨B, cb, hb2, ho2⟩ := hi2.bx
    obtain ⟨ab', off', e3, _, _, hcs⟩ := row_at (HA.out.below hi2.below) HLT.out (show 0 < r by have := HLT.out; omega)
    have HI := Lib.hid hi2
    have HB2 := Lib.hid hb2
    have HO2 := Lib.hid ho2
    have hr2 : Bytes W2 w.heap.size (some ⟨ab, off + i, none⟩) (packR r m i) := fun _ => ⟨ab, off + i, rfl, HAB.out, fun j v hv => by
      have hX2 := HX.out.symm.trans e3
      injection hX2 with hX2
      have hx3 := congrArg Addr.off hX2
      have hx4 := congrArg Addr.block hX2
      dsimp only at hx3 hx4
      obtain ⟨hj, hv⟩ := List.getElem?_eq_some_iff.1 hv
      rw [List.length_map, packR_len] at hj
      subst hx3 hx4
      rw [List.getElem_map] at hv
      have := hcs (i + j) (by omega)
      rw [← hv, Nat.add_assoc, this]
      simp [packR, u8v]⟩
    have HR2 := Lib.hid hr2
    have HMX := Lib.hid (show offS r i + (r - i) ≤ maxLen ∧ (offS r i + (r - i)) * 1 ≤ 140737488355328 from by
      have h1 := offS_max HL.out.2.2.2 (show i + 1 ≤ r from HLT.out)
      have h2 : offS r (i + 1) = offS r i + (r - i) := rfl
      rw [← h2]
      generalize offS r (i + 1) = q at h1
      simp [maxLen]; omega)
    clear hi2 hb2 ho2 e3 hcs hr2
    gi_wp2
    --HELD pack8
    refine wpIn_only ?_
    refine wpIn_heldG (fun w' => Blk w' gb 22 #[.slice B (offS r i) cb]) [5] (by kernel_rfl) (by kernel_rfl) (fun ⟨_, _, h⟩ => h) ?hs0 ?rg0
    case hs0 =>
      exact HB2.out
    case rg0 =>
    intro hHeld
    refine wpAnyG_take (i := 0) (oi := { dst := some 26, op := Op.load 22 (Operand.tmp 6), type := 22, pos := _, after := #[], guard := none }) (v := ?_) rfl (by kernel_rfl) (by kernel_rfl) (by kernel_rfl) (by kernel_rfl) (fun _ _ _ h => h) (Or.inl ⟨by rfl, ?_⟩) (by assumption) ?_
    rotate_left
    · intro w hSw
      try dsimp only at hSw
      have c0 := hSw.cell 0
      go_simp
      try with_reducible rfl
    try simp only [Act.put, List.setIfInBounds_toArray, List.set_cons_zero, List.set_cons_succ]
    refine wpAnyG_pure (i := 1) (oi := { dst := some 27, op := Op.move (Operand.tmp 8), type := 22, pos := _, after := #[], guard := none }) (v := ?_) rfl (by kernel_rfl) (by kernel_rfl) (by kernel_rfl) (by kernel_rfl) (fun _ _ _ h => h) (Or.inl ⟨by rfl, ?_⟩) (fun _ => by assumption) ?_
    rotate_left
    · intro w hSw
      try dsimp only at hSw
      go_simp
      try with_reducible rfl
    try simp only [Act.put, List.setIfInBounds_toArray, List.set_cons_zero, List.set_cons_succ]
    refine wpAnyG_pure (i := 2) (oi := { dst := some 28, op := Op.move (Operand.tmp 7), type := 3, pos := _, after := #[], guard := none }) (v := ?_) rfl (by kernel_rfl) (by kernel_rfl) (by kernel_rfl) (by kernel_rfl) (fun _ _ _ h => h) (Or.inl ⟨by rfl, ?_⟩) (fun _ => by assumption) ?_
    rotate_left
    · intro w hSw
      try dsimp only at hSw
      go_simp
      try with_reducible rfl
    try simp only [Act.put, List.setIfInBounds_toArray, List.set_cons_zero, List.set_cons_succ]
    refine wpAnyG_pure (i := 3) (oi := { dst := some 29, op := Op.slice 22 (Operand.tmp 27) (some (Operand.tmp 28)) none none, type := 22, pos := _, after := #[{ on := 1, ground := Ground.data }, { on := 2, ground := Ground.data }], guard := none }) (v := ?_) rfl (by kernel_rfl) (by kernel_rfl) (by kernel_rfl) (by kernel_rfl) (fun _ _ _ h => h) (Or.inl ⟨by rfl, ?_⟩) (fun _ => by assumption) ?_
    rotate_left
    · intro w hSw
      try dsimp only at hSw
      go_simp
      try with_reducible rfl
    try simp only [Act.put, List.setIfInBounds_toArray, List.set_cons_zero, List.set_cons_succ]
    refine wpAnyG_one (i := 4) (o := { dst := some 30, op := Op.call { callee := Callee.builtin Builtin.append, args := #[Operand.tmp 26, Operand.tmp 29], argTypes := #[22, 22] }, type := 22, pos := _, after := #[{ on := 0, ground := Ground.data }, { on := 3, ground := Ground.data }], guard := none }) (by kernel_rfl) rfl (fun K hK => ?_)
    refine step_app _ rfl _ _ _ rfl (w6.heap.size + 2) 5 i0 _ 1 Try.underlying22 hi0 hz0 hz1 hz2 rfl B cb (offS r i) ((packS r m i).map u8v) rfl (by rw [List.length_map, packS_len]) (HO2.out.keep (nextN (Mem.start W2) 1)) w.heap.size (some ⟨ab, off + i, none⟩) (r - i) (r - i) ((packR r m i).map u8v) rfl (by rw [List.length_map, packR_len]) HR2.out u8v_one (by rw [List.length_map, List.length_map, packS_len, packR_len]; exact HMX.out.1) (by rw [List.length_map, List.length_map, packS_len, packR_len]; exact HMX.out.2) HI.out.lt (offS r (i + 1)) rfl ?_
    intro A1 cx w7 ho7 hb7 hg7 hA7
    have H7 := Lib.hid (And.intro (show Mem.Own w7 (w6.heap.size + 2) 5 A1 cx ((packS r m (i + 1)).map u8v) from by rw [packS_succ, List.map_append]; exact ho7) (And.intro hg7 (show Blk w7 gb 22 #[.slice B (offS r i) cb] from hHeld.app (HO2.out.keep (nextN (Mem.start W2) 1)) (by decide) hg7)))
    clear ho7 hb7 hg7 hA7
    try dsimp only
    refine hK.out _ _ ?_ (fun hHeld => ?_)
    · intro _
      try dsimp only
      exact H7.out.2.2
    clear hK K
    try simp only [Act.put, List.setIfInBounds_toArray, List.set_cons_zero, List.set_cons_succ]
    have hHeld := hHeld (by kernel_rfl)
    refine wpAnyG_one (i := 5) (o := { dst := none, op := Op.store 22 (Operand.tmp 6) (Operand.tmp 30), type := 0, pos := _, after := #[{ on := 4, ground := Ground.data }, { on := 4, ground := Ground.chain }, { on := 0, ground := Ground.phase }, { on := 1, ground := Ground.phase }, { on := 2, ground := Ground.phase }, { on := 3, ground := Ground.phase }, { on := 4, ground := Ground.phase }], guard := none }) (by kernel_rfl) rfl (fun K hK => ?_)
    have k1 := hHeld.cell 0
    have k2 := hHeld.frozen 0
    go_simp
    try dsimp only
    refine hK.out _ _ ?_ (fun hHeld => ?_)
    · exact fun h => (st_no (by kernel_rfl) h).elim
    clear hK K
    try simp only [Act.put, List.setIfInBounds_toArray, List.set_cons_zero, List.set_cons_succ]
    clear hHeld
    refine wpAnyG_done (by kernel_rfl) ?_ _
    refine onlyN_end ?_
    --END pack8
    have hap := HAP.out
    have hf7 : Fr (fun k => k = gb ∨ w6.heap.size + 2 ≤ k) W2 w7 := (Fr.quiet (nextN (Mem.start W2) 1)).trans (Fr.grown H7.out.2.1 fun k e => by
      rcases HO2.out.form with ⟨e3, _⟩ | ⟨g2, e3, hb2, _⟩
      · rw [e3] at e; cases e
      · rw [e3] at e; injection e with e; exact .inr (by rw [← e]; exact hb2)) fun _ _ h => h
    have hf8 := setF (p := gb) w7 ⟨gb, 0, none⟩ rfl (.slice A1 (offS r (i + 1)) cx)
    have hff := hf7.trans (hf8.mono (S' := fun k => k = gb ∨ w6.heap.size + 2 ≤ k) fun k _ e => .inl e) fun _ _ h => h
    exact ⟨hff, HI.out.below.trans (hff.below HI.out.below.size fun k e => by omega), Nat.le_trans HI.out.lt hff.size, A1, cx, H7.out.2.2.set_ 0 _, Own.fr H7.out.1 hf8 fun g' e1 e2 => by
      rcases H7.out.1.form with ⟨e3, _⟩ | ⟨g2, e3, hb2, _⟩
      · rw [e1] at e3; cases e3
      · rw [e1] at e3; injection e3 with e3; have := congrArg Addr.block e3; dsimp only at this; omega⟩
  case hdone =>
    intro D W hD hi hK
    obtain ⟨B, cb, hb2, ho2⟩ := hi.bx
    have H := Lib.hid hi
    have HK := Lib.hid (And.intro hD hK)
    have HB := Lib.hid hb2
    have HO := Lib.hid ho2
    have c0 : W.cell? ⟨gb, 0, none⟩ = some (.slice B (offS r r) cb) := hb2.cell 0
    clear hi hK hD hb2 ho2
    go_wp2_with fail
    have hst := shut_still (B := 0) (.deferred none) HK.out.2 rfl (Nat.zero_le _)
    have hap := HAP.out
    have hD := HK.out.1
    refine ⟨by simp, .inl ⟨_, _, rfl, run_takeDeferred HK.out.2, ?_⟩⟩
    refine ⟨.tuple #[.slice B (offS r r) cb, .int .i64 0], ?_, ?_⟩
    · simp [results, Try.results39, go_sem]
    · have hw := Own.fr HO.out (put_fr (k := D) (.deferred none)) fun g' e1 e2 => by
        rcases HO.out.form with ⟨e3, _⟩ | ⟨g2, e3, hb2, _⟩
        · rw [e1] at e3; cases e3
        · rw [e1] at e3; injection e3 with e3; have := congrArg Addr.block e3; dsimp only at this; omega
      exact ⟨B, cb, rfl, by have := HO.out.le; rwa [List.length_map, packS_len] at this, (Nw.of_own hw).mono (by have := H.out.below.size; omega), H.out.below.trans ((put_fr (k := D) _).below H.out.below.size fun k e => by omega)⟩
def PackNo (w : World) (e : Ending) (w' : World) : Prop := e = .returned (.tuple #[.slice none 0 0, .int .i64 50]) ∧ Below w.heap.size w w'
set_option maxRecDepth 100000 in
set_option maxHeartbeats 4000000 in
theorem packed_bad (w : World) (R C : Int) (A : Option Addr) (n cap : Nat) (hrt : rightB R C n = false) :
    Calls Try.prog 39 #[.agg #[.int .i64 R, .int .i64 C, .slice A n cap]] w (PackNo w) := by
  obtain ⟨w1, ga, h1, hw1, hga⟩ := boxed w #[.int .i64 R, .int .i64 C, .slice A n cap]
  have HW1 := Lib.hid hw1
  have HG := Lib.hid hga
  have H1 := Lib.hid h1
  have HRT := Lib.hid hrt
  obtain ⟨⟨c0, c1, c2⟩, _⟩ := cells3 h1.2.1
  rw [← HW1.out] at c0 c1 c2
  clear h1 hw1 hga hrt
  go_enter Try.func39, Try.ntmps39
  go_wp2_with fail
  rw [HW1.out, HG.out]
  refine (turned_bad w1 R C A n cap HRT.out).mono ?_
  rintro e w2 ⟨rfl, hb⟩
  have H2 := Lib.hid (next H1.out.1 hb)
  clear hb c0 c1 c2
  go_wp2_with fail
  refine bodyPost_ret (v := .tuple #[.slice none 0 0, .int .i64 50]) (by simp [results, Try.results39, go_sem]) rfl ⟨rfl, ?_⟩
  exact next H2.out (nextA (Mem.start w2) _)
set_option maxRecDepth 100000 in
set_option maxHeartbeats 4000000 in
theorem packed_no (w : World) (r c : Nat) (A : Option Addr) (n cap : Nat) (m : M) (hn : n = r * c) (hrt : rightB r c n = true) (hcap : n ≤ cap) (hn9 : (n : Int) ≤ 1000000000) (hA : Bytes w w.heap.size A (flat r c m)) (hsm : sameB (c : Int) r r c (flat c r fun a b => m b a) (flat r c m) = false) :
    Calls Try.prog 39 #[.agg #[.int .i64 (r : Int), .int .i64 (c : Int), .slice A n cap]] w (PackNo w) := by
  obtain ⟨w1, ga, h1, hw1, hga⟩ := boxed w (mcells r c A n cap)
  have HW1 := Lib.hid (show w.alloc (.cells #[.int .i64 (r : Int), .int .i64 (c : Int), .slice A n cap] 27) = w1 from hw1)
  have HG := Lib.hid hga
  have H1 := Lib.hid h1
  have HL := Lib.hid (And.intro hn (And.intro hcap hn9))
  have HA := Lib.hid hA
  have HSM := Lib.hid hsm
  have HRT := Lib.hid hrt
  obtain ⟨⟨c0, c1, c2⟩, _⟩ := cells3 h1.2.1
  rw [← HW1.out] at c0 c1 c2
  clear h1 hw1 hga hn hcap hn9 hA hsm hrt
  go_enter Try.func39, Try.ntmps39
  go_wp2_with fail
  rw [HW1.out, HG.out]
  refine (turned_ok w1 r c A n cap m HL.out.1 HRT.out HL.out.2.1 HL.out.2.2 ((HA.out.below H1.out.1).up H1.out.1.size)).mono ?_
  rintro e w2 ⟨A2, cq, rfl, hc2, hnw, hb⟩
  have H2 := Lib.hid (show Below w.heap.size w w2 ∧ Blk w2 ga 27 (mcells r c A n cap) from ⟨next H1.out.1 hb, H1.out.2.1.keep hb⟩)
  obtain ⟨w3, gt, h3, hw3, hgt⟩ := boxed w2 (mcells c r A2 (c * r) cq)
  have H3 := Lib.hid (show Below w.heap.size w w3 ∧ Blk w3 ga 27 (mcells r c A n cap) ∧ Nw w1.heap.size w3 A2 (flat c r fun a b => m b a) from ⟨next H2.out.1 h3.1, H2.out.2.keep h3.1, hnw.keep h3.1⟩)
  have HW3 := Lib.hid (show w2.alloc (.cells #[.int .i64 (c : Int), .int .i64 (r : Int), .slice A2 (c * r) cq] 27) = w3 from hw3)
  obtain ⟨⟨b0, b1, b2⟩, _⟩ := cells3 H3.out.2.1
  rw [← HW3.out] at b0 b1 b2
  clear hb hc2 hnw c0 c1 c2 h3 hw3
  go_wp2_with fail
  rw [HW3.out]
  clear hgt b0 b1 b2
  refine (same_any w3 _ _ _ _ A2 A (flat c r fun a b => m b a) (flat r c m) (c * r) cq n cap w3.heap.size w.heap.size (by rw [flat_len]) (by rw [flat_len]; exact HL.out.1.symm) (Nat.le_refl _) H3.out.1.size H3.out.2.2.1 (HA.out.below H3.out.1)).mono ?_
  rintro e w4 ⟨rfl, hb⟩
  rw [HSM.out]
  have H4 := Lib.hid (next H3.out.1 hb)
  clear hb
  go_wp2_with fail
  exact bodyPost_ret (v := .tuple #[.slice none 0 0, .int .i64 50]) (by simp [results, Try.results39, go_sem]) rfl ⟨rfl, H4.out⟩
end Go.Proofs.Ythdapoipfnnaeaa.MxW
