/- reduce of a matrix without rows or columns; own; Rank. -/
import Derived.Test.YthdapoipfnnaeaaMxReduce
namespace Go.Proofs.Ythdapoipfnnaeaa.MxW
open Go.RowKit Go.Shelf Mem Gf FdW Mx Rng
open PlW (In)
set_option linter.unusedVariables false
attribute [local go_sem] Oper.semAt_some wide_fn

def Int0 (w : World) (e : Ending) (w' : World) : Prop := e = .returned (.int .i64 0) ∧ Below w.heap.size w w'
set_option maxRecDepth 100000 in
set_option maxHeartbeats 4000000 in
theorem reduce_nil (w : World) (F : Value) (hF : F.oneCell' = true) (r c d : Nat) (hrc : r = 0 ∨ c = 0) (XA XB : Option Addr) (n cap m cap' : Nat) :
    Calls Try.prog 46 #[F, .agg #[.int .i64 (r : Int), .int .i64 (c : Int), .slice XA n cap], .agg #[.int .i64 (r : Int), .int .i64 (d : Int), .slice XB m cap']] w (Int0 w) := by
  have hb := nextA (nextA (nextA (nextA (nextA (Mem.start w) (.cells #[F] 24)) (.cells #[.int .i64 (r : Int), .int .i64 (c : Int), .slice XA n cap] 27)) (.cells #[.int .i64 (r : Int), .int .i64 (d : Int), .slice XB m cap'] 27)) (.cells #[.int .i64 0] 3)) (.cells #[.int .i64 0] 3)
  have HB := Lib.hid hb
  clear hb
  refine of_wide ?_
  refine callsIn_of_wp_marks Try.func46 rfl trivial ?_ rfl
  refine wpIn_wide.2 ?_
  simp only [Try.ntmps46, List.size_toArray, List.length_cons, List.length_nil, Nat.reduceAdd, Nat.reduceSub, Array.replicate_succ, Array.replicate_zero, List.push_toArray, List.append_toArray, List.nil_append, List.cons_append]
  rcases Nat.eq_zero_or_pos c with hc | hc
  · subst hc
    clear hrc
    go_wp2_with fail
    refine wp_loop_once ?_
    go_wp2_with fail
    exact ⟨.int .i64 0, by simp [results, Try.results46, go_sem], rfl, HB.out⟩
  · have hr : r = 0 := by omega
    subst hr
    have hci : decide (0 < c) = true := decide_eq_true hc
    clear hrc
    go_wp2_with fail
    refine wp_loop_once ?_
    go_wp2_with fail
    exact ⟨.int .i64 0, by simp [results, Try.results46, go_sem], rfl, HB.out⟩
/-- What own leaves. -/
def OwnOk (w : World) (R C : Int) (l : List UInt8) (e : Ending) (w' : World) : Prop := ∃ X cap, e = .returned (.agg #[.int .i64 R, .int .i64 C, .slice X l.length cap]) ∧ Mem.Own w' w.heap.size 5 X cap (l.map u8v) ∧ Below w.heap.size w w'
set_option maxRecDepth 100000 in
set_option maxHeartbeats 1000000 in
theorem own_any (w : World) (R C : Int) (A : Option Addr) (l : List UInt8) (n c : Nat) (hn : l.length = n) (h9 : n ≤ 100000000) (hA : Bytes w w.heap.size A l) : Calls Try.prog 47 #[.agg #[.int .i64 R, .int .i64 C, .slice A n c]] w (OwnOk w R C l) := by
  obtain ⟨wa, g1, ha, hwa, hg1⟩ := boxed w #[.int .i64 R, .int .i64 C, .slice A n c]
  obtain ⟨w2, g2, h2, hw2, hg2⟩ := boxed wa zmx
  have HWA := Lib.hid hwa
  have HW2 := Lib.hid (show wa.alloc (.cells #[.int .i64 0, .int .i64 0, .slice none 0 0] 27) = w2 from hw2)
  have hg3 : g2 = g1 + 1 := by have := ha.2.2; omega
  have HG := Lib.hid (And.intro hg1 hg3)
  have H2 := Lib.hid (show Below w.heap.size w w2 ∧ Blk w2 g1 27 #[.int .i64 R, .int .i64 C, .slice A n c] ∧ Blk w2 g2 27 zmx from ⟨next ha.1 h2.1, ha.2.1.keep h2.1, h2.2.1⟩)
  have HN := Lib.hid (And.intro hn h9)
  have HA := Lib.hid hA
  clear ha hwa hg1 h2 hw2 hg2 hg3 hn h9 hA
  go_enter Try.func47, Try.ntmps47
  go_wp2_with fail
  rw [HWA.out, HW2.out, HG.out.1, show g1 + 1 = g2 from HG.out.2.symm]
  refine (PlW.clone_any w2 A l n c HN.out.1.symm HN.out.2 ((HA.out.below H2.out.1).up H2.out.1.size)).mono ?_
  rintro e w3 ⟨X, cap, rfl, ho, hb⟩
  rw [HN.out.1]
  have H3 := Lib.hid (And.intro ho (And.intro (next H2.out.1 hb) (And.intro (H2.out.2.1.keep hb) (H2.out.2.2.keep hb))))
  obtain ⟨⟨c0, c1, c2⟩, f0, f1, f2⟩ := cells3 H3.out.2.2.1
  have hq := H3.out.2.2.1.set_ 2 (.slice X n cap)
  obtain ⟨w4, hw4⟩ : ∃ x : World, w3.setCell ⟨g1, 2, none⟩ (.slice X n cap) = x := ⟨_, rfl⟩
  have hf4 : Fr (fun k => k = g1) w3 w4 := by rw [← hw4]; exact setF w3 ⟨g1, 2, none⟩ rfl _
  rw [hw4] at hq
  have h5 := H3.out.2.2.2.fr hf4 (fun e => by have := HG.out; omega)
  obtain ⟨⟨d0, d1, d2⟩, e0, e1, e2⟩ := cells3 h5
  obtain ⟨⟨b0, b1, b2⟩, _⟩ := cells3 (show Blk w4 g1 27 #[.int .i64 R, .int .i64 C, .slice X n cap] from hq)
  have h6 := set3 h5 (.int .i64 R) (.int .i64 C) (.slice X n cap)
  obtain ⟨w5, hw5⟩ : ∃ x : World, ((w4.setCell ⟨g2, 0, none⟩ (.int .i64 R)).setCell ⟨g2, 1, none⟩ (.int .i64 C)).setCell ⟨g2, 2, none⟩ (.slice X n cap) = x := ⟨_, rfl⟩
  rw [hw5] at h6
  obtain ⟨⟨k0, k1, k2⟩, _⟩ := cells3 h6.1
  have HW4 := Lib.hid hw4
  have HW5 := Lib.hid hw5
  have H6 := Lib.hid (And.intro hf4 h6.2)
  rw [← hw4] at b0 b1 b2 d0 d1 d2 e0 e1 e2
  clear hb ho hq hf4 h5 h6 hw4 hw5
  go_wp2_with fail
  rw [HW4.out, HW5.out]
  refine bodyPost_ret (v := .agg #[.int .i64 R, .int .i64 C, .slice X n cap]) (by simp [results, Try.results47, go_sem, k0, k1, k2]) rfl ?_
  have hg := HG.out
  have hs : w.heap.size ≤ w2.heap.size := H2.out.1.size
  have hl1 := H2.out.2.1.lt
  have hl2 := H2.out.2.2.lt
  refine ⟨X, cap, by rw [HN.out.1], Own.down ((H3.out.1.fr H6.out.1 (fun g e1 e2 => ?_)).fr H6.out.2 (fun g e1 e2 => ?_)) hs, (H3.out.2.1.trans (H6.out.1.below H3.out.2.1.size fun k e => by omega)).trans (H6.out.2.below (Nat.le_trans H3.out.2.1.size H6.out.1.size) fun k e => by omega)⟩ <;>
  · rcases H3.out.1.form with ⟨e3, _⟩ | ⟨g', e3, hb, _⟩
    · rw [e1] at e3; cases e3
    · rw [e1] at e3; injection e3 with e3; have := congrArg Addr.block e3; dsimp only at this; omega
theorem redTo_nil {r c : Nat} (A B : M) (h : r = 0 ∨ c = 0) : redTo r A B c = ⟨0, A, B⟩ := by
  rcases Nat.eq_zero_or_pos c with hc | hc
  · subst hc; rfl
  · obtain rfl : r = 0 := by omega
    exact redTo_full (r := 0) (n := 0) rfl c (Nat.zero_le _)
theorem reduce_any (w : World) (p : Nat) (hp : Fld w p) (r c d : Nat) (hb9 : (r : Int) ≤ 1000 ∧ (c : Int) ≤ 1000 ∧ (d : Int) ≤ 5000) (XA XB : Option Addr) (n m capA capB : Nat) (hn : n = r * c) (hm : m = r * d) (A B : M) (hA : Wo w XA capA r c A) (hB : Wo w XB capB r d B) (hne : (∀ k, Bk XA k → k ≠ p ∧ ¬ Bk XB k) ∧ ∀ k, Bk XB k → k ≠ p) :
    Calls Try.prog 46 #[fptr (some p), .agg #[.int .i64 (r : Int), .int .i64 (c : Int), .slice XA n capA], .agg #[.int .i64 (r : Int), .int .i64 (d : Int), .slice XB m capB]] w (RedOk w p XA XB capA capB r c d A B) := by
  subst hn; subst hm
  by_cases h : r = 0 ∨ c = 0
  · refine (reduce_nil w _ rfl r c d h XA XB _ capA _ capB).mono ?_
    rintro e w' ⟨rfl, hb⟩
    unfold RedOk
    rw [redTo_nil A B h]
    exact ⟨rfl, hA.keep hb, hB.keep hb, hp.keep hb, Fr.quiet hb⟩
  · obtain ⟨ga, rfl, hm⟩ := hA.some (by omega) (by omega)
    exact reduce_ok w p hp r c d (by omega) (by omega) hb9 ga XB capA capB A B hA hB ⟨fun e => (hne.1 ga rfl).1 e.symm, fun e => hne.2 p e rfl, (hne.1 ga rfl).2⟩
/-- The reduced form does not hang on the other matrix. -/
theorem redTo_A (r : Nat) (A B B' : M) : ∀ n, (redTo r A B n).at_ = (redTo r A B' n).at_ ∧ (redTo r A B n).A = (redTo r A B' n).A
  | 0 => ⟨rfl, rfl⟩
  | n + 1 => by
    obtain ⟨h1, h2⟩ := redTo_A r A B B' n
    show (redStep r n (redTo r A B n)).at_ = (redStep r n (redTo r A B' n)).at_ ∧ (redStep r n (redTo r A B n)).A = (redStep r n (redTo r A B' n)).A
    unfold redStep
    rw [h1, h2]
    split
    · exact ⟨rfl, rfl⟩
    · exact ⟨h1, h2⟩
def rankM (r c : Nat) (A : M) : Nat := (redTo r A (fun _ _ => 0) c).at_
theorem own_bk {w : World} {base c k : Nat} {X : Option Addr} {xs : List Value} (h : Mem.Own w base 5 X c xs) (hk : Bk X k) : base ≤ k ∧ k < w.heap.size := by
  have hk' : X = some ⟨k, 0, none⟩ := hk
  rcases h.form with ⟨e, _⟩ | ⟨g, e, h1, h2, _⟩
  · rw [hk'] at e; cases e
  · rw [hk'] at e; injection e with e; have := congrArg Addr.block e; dsimp only at this; omega
theorem red_apart {p B C : Nat} {X XB : Option Addr} (hp : p < B) (hX : ∀ k, Bk X k → B ≤ k ∧ k < C) (hG : ∀ k, Bk XB k → C ≤ k) (hBC : B ≤ C) : (∀ k, Bk X k → k ≠ p ∧ ¬ Bk XB k) ∧ ∀ k, Bk XB k → k ≠ p :=
  ⟨fun k h => ⟨by have := hX k h; omega, fun h2 => by have := hX k h; have := hG k h2; omega⟩, fun k h => by have := hG k h; omega⟩
theorem red_not {p B C k : Nat} {X XB : Option Addr} (hX : ∀ k, Bk X k → B ≤ k ∧ k < C) (hG : ∀ k, Bk XB k → C ≤ k) (hBC : B ≤ C) (hk : k < B) (hp : k ≠ p) : ¬ RS' X XB p k := fun hs => by
  rcases hs with h | h | h
  · have := hX k h; omega
  · have := hG k h; omega
  · exact hp h
theorem red_below {w w4 w5 : World} {p B C : Nat} {X XB : Option Addr} (hb : Below w.heap.size w w4) (hB : w.heap.size ≤ B) (hX : ∀ k, Bk X k → B ≤ k ∧ k < C) (hG : ∀ k, Bk XB k → C ≤ k) (hBC : B ≤ C) (hf : Fr (RS' X XB p) w4 w5) : Fr (fun k => k = p) w w5 :=
  (Fr.quiet (S := fun k => k = p) hb).trans hf fun k hk hs => by
    rcases hs with h | h | h
    · have := hX k h; omega
    · have := hG k h; omega
    · exact h
def RankOk (w : World) (p k : Nat) (e : Ending) (w' : World) : Prop := e = .returned (.tuple #[.int .i64 (k : Int), .int .i64 0]) ∧ Fld w' p ∧ Fr (fun k => k = p) w w'
def RankBad (w : World) (e : Ending) (w' : World) : Prop := e = .returned (.tuple #[.int .i64 0, .int .i64 50]) ∧ Below w.heap.size w w'
set_option maxRecDepth 100000 in
set_option maxHeartbeats 1000000 in
theorem rank_bad (w : World) (F : Value) (R C : Int) (A : Option Addr) (n cap : Nat) (hrt : rightB R C n = false) : Calls Try.prog 14 #[F, .agg #[.int .i64 R, .int .i64 C, .slice A n cap]] w (RankBad w) := by
  obtain ⟨wa, ga, ha, hwa, hga⟩ := boxed w #[.int .i64 R, .int .i64 C, .slice A n cap]
  have HWA := Lib.hid hwa
  have HA := Lib.hid ha
  have HRT := Lib.hid hrt
  clear ha hwa hga hrt
  go_enter Try.func14, Try.ntmps14
  go_wp2_with fail
  rw [HWA.out]
  refine (right_any wa _ _ A n cap).mono ?_
  rintro e w2 ⟨rfl, hb⟩
  rw [HRT.out]
  have H2 := Lib.hid (next HA.out.1 hb)
  clear hb
  go_wp2_with fail
  go_ret2
  exact ⟨rfl, H2.out⟩
set_option maxRecDepth 100000 in
set_option maxHeartbeats 2000000 in
theorem rank_ok (w : World) (p : Nat) (hp : Fld w p) (r c : Nat) (A : Option Addr) (n cap : Nat) (m : M) (hrt : rightB r c n = true) (hrd : r ≤ 100 ∧ c ≤ 100) (hA : In w p A (flat r c m)) :
    Calls Try.prog 14 #[fptr (some p), .agg #[.int .i64 (r : Int), .int .i64 (c : Int), .slice A n cap]] w (RankOk w p (rankM r c m)) := by
  have hn : n = r * c := by obtain ⟨r', c', e1, e2, _, _, e⟩ := right_nat hrt; rw [e, Int.ofNat.inj e1, Int.ofNat.inj e2]
  have hl : n ≤ 10000 := by rw [hn]; exact Nat.mul_le_mul hrd.1 hrd.2
  obtain ⟨wa, ga, ha, hwa, hga⟩ := boxed w (mcells r c A n cap)
  have HWA := Lib.hid (show w.alloc (.cells #[.int .i64 (r : Int), .int .i64 (c : Int), .slice A n cap] 27) = wa from hwa)
  have HA := Lib.hid ha
  have HGA := Lib.hid hga
  have HRT := Lib.hid hrt
  have HP := Lib.hid hp
  have HN := Lib.hid (And.intro hn (And.intro hl hrd))
  have HI := Lib.hid hA
  clear ha hwa hga hrt hp hn hl hA hrd
  go_enter Try.func14, Try.ntmps14
  go_wp2_with fail
  rw [HWA.out, HGA.out]
  refine (right_any wa _ _ A n cap).mono ?_
  rintro e w2 ⟨rfl, hb⟩
  rw [HRT.out]
  have H2 := Lib.hid (And.intro (next HA.out.1 hb) (HA.out.2.1.keep hb))
  clear hb
  go_wp2_with fail
  --HELD rank3
  refine wp_region_noPanic ?_
  refine wp_heldG (fun w' => Blk w' ga 27 (mcells r c A n cap)) [] (by kernel_rfl) ?hs0 ?rg0
  case hs0 =>
    exact H2.out.2
  case rg0 =>
  intro hHeld
  refine wpAnyG_pure (i := 0) (oi := { dst := some 9, op := Op.move (Operand.tmp 0), type := 24, pos := _, after := #[], guard := none }) (v := ?_) rfl (by kernel_rfl) (by kernel_rfl) (by kernel_rfl) (by kernel_rfl) (fun _ _ _ h => h) (Or.inl ⟨by rfl, ?_⟩) (fun _ => by assumption) ?_
  rotate_left
  · intro w hSw
    try dsimp only at hSw
    go_simp
    try with_reducible rfl
  try simp only [Act.put, List.setIfInBounds_toArray, List.set_cons_zero, List.set_cons_succ]
  refine wpAnyG_take (i := 1) (oi := { dst := some 10, op := Op.load 27 (Operand.tmp 3), type := 27, pos := _, after := #[], guard := none }) (v := ?_) rfl (by kernel_rfl) (by kernel_rfl) (by kernel_rfl) (by kernel_rfl) (fun _ _ _ h => h) (Or.inl ⟨by rfl, ?_⟩) (by assumption) ?_
  rotate_left
  · intro w hSw
    try dsimp only at hSw
    obtain ⟨⟨c0, c1, c2⟩, _⟩ := cells3 hSw
    go_simp
    try with_reducible rfl
  try simp only [Act.put, List.setIfInBounds_toArray, List.set_cons_zero, List.set_cons_succ]
  refine wpAnyG_pure (i := 3) (oi := { dst := some 12, op := Op.fieldAddr 27 (Operand.tmp 3) 0, type := 0, pos := _, after := #[], guard := none }) (v := ?_) rfl (by kernel_rfl) (by kernel_rfl) (by kernel_rfl) (by kernel_rfl) (fun _ _ _ h => h) (Or.inl ⟨by rfl, ?_⟩) (fun _ => by assumption) ?_
  rotate_left
  · intro w hSw
    try dsimp only at hSw
    go_simp
    try with_reducible rfl
  try simp only [Act.put, List.setIfInBounds_toArray, List.set_cons_zero, List.set_cons_succ]
  refine wpAnyG_take (i := 4) (oi := { dst := some 13, op := Op.load 3 (Operand.tmp 12), type := 3, pos := _, after := #[{ on := 3, ground := Ground.data }], guard := none }) (v := ?_) rfl (by kernel_rfl) (by kernel_rfl) (by kernel_rfl) (by kernel_rfl) (fun _ _ _ h => h) (Or.inl ⟨by rfl, ?_⟩) (by assumption) ?_
  rotate_left
  · intro w hSw
    try dsimp only at hSw
    obtain ⟨⟨c0, c1, c2⟩, _⟩ := cells3 hSw
    go_simp
    try with_reducible rfl
  try simp only [Act.put, List.setIfInBounds_toArray, List.set_cons_zero, List.set_cons_succ]
  refine wpAnyG_one (i := 2) (o := { dst := some 11, op := Op.call { callee := Callee.value (Operand.func 47), args := #[Operand.tmp 10], argTypes := #[27] }, type := 27, pos := _, after := #[{ on := 1, ground := Ground.data }], guard := none }) (by kernel_rfl) rfl (fun K hK => ?_)
  go_simp
  have hb2 := next H2.out.1 (nextN (Mem.start w2) 1)
  refine (own_any _ _ _ A (flat r c m) n cap (by rw [flat_len]; exact HN.out.1.symm) (by have := HN.out; omega) ((HI.out.1.below hb2).up hb2.size)).mono ?_
  rintro e w3 ⟨X, cx, rfl, ho, hb⟩
  rw [flat_len]
  have H3 := Lib.hid (And.intro (show Wo w3 X cx r c m from Own.down ho (Nat.zero_le _)) (And.intro (show Mem.Own w3 w2.heap.size 5 X cx _ from ho) (And.intro (next hb2 hb) (show w2.heap.size ≤ w3.heap.size from hb.size))))
  clear ho hb2
  try dsimp only
  refine hK.out _ _ ?_ (fun hHeld => ?_)
  · intro _
    try dsimp only
    exact hHeld.keep hb
  clear hK K
  try simp only [Act.put, List.setIfInBounds_toArray, List.set_cons_zero, List.set_cons_succ]
  have hHeld := hHeld (by kernel_rfl)
  refine wpAnyG_one (i := 5) (o := { dst := some 14, op := Op.call { callee := Callee.value (Operand.func 43), args := #[Operand.tmp 13, Operand.const (Value.int IntKind.i64 0)], argTypes := #[3, 3] }, type := 27, pos := _, after := #[{ on := 4, ground := Ground.data }, { on := 2, ground := Ground.chain }], guard := none }) (by kernel_rfl) rfl (fun K hK => ?_)
  clear hb
  go_simp
  refine (none_any _ r 0 (by simp)).mono ?_
  rintro e w4 ⟨g, rfl, ho, hb⟩
  have H4 := Lib.hid (And.intro (H3.out.1.keep hb) (And.intro ho (next H3.out.2.2.1 hb)))
  have HS := Lib.hid (show w.heap.size ≤ w2.heap.size ∧ (∀ k, Bk X k → w2.heap.size ≤ k ∧ k < w3.heap.size) ∧ w2.heap.size ≤ w3.heap.size from ⟨H2.out.1.size, fun k h => own_bk H3.out.2.1 h, H3.out.2.2.2⟩)
  clear ho
  try dsimp only
  refine hK.out _ _ ?_ (fun hHeld => ?_)
  · intro _
    try dsimp only
    exact hHeld.keep hb
  clear hK K
  try simp only [Act.put, List.setIfInBounds_toArray, List.set_cons_zero, List.set_cons_succ]
  have hHeld := hHeld (by kernel_rfl)
  refine wpAnyG_one (i := 6) (o := { dst := some 15, op := Op.call { callee := Callee.value (Operand.func 46), args := #[Operand.tmp 9, Operand.tmp 11, Operand.tmp 14], argTypes := #[24, 27, 27] }, type := 3, pos := _, after := #[{ on := 0, ground := Ground.data }, { on := 2, ground := Ground.data }, { on := 5, ground := Ground.data }, { on := 5, ground := Ground.chain }], guard := none }) (by kernel_rfl) rfl (fun K hK => ?_)
  clear hb
  go_simp
  refine (reduce_any w4 p (HP.out.keep H4.out.2.2) r c 0 (by have := HN.out; omega) X (some ⟨g, 0, none⟩) (r * c) (r * 0) cx (r * 0) rfl rfl m (fun _ _ => 0) H4.out.1 (Own.down H4.out.2.1 (Nat.zero_le _)) (red_apart (Nat.lt_of_lt_of_le HP.out.lt HS.out.1) HS.out.2.1 (fun k h => (own_bk H4.out.2.1 h).1) HS.out.2.2)).mono ?_
  rintro e w5 ⟨rfl, _, _, hF, hf⟩
  have H5 := Lib.hid (And.intro hF (red_below H4.out.2.2 HS.out.1 HS.out.2.1 (fun k h => (own_bk H4.out.2.1 h).1) HS.out.2.2 hf))
  clear hF
  try dsimp only
  refine hK.out _ _ ?_ (fun hHeld => ?_)
  · intro _
    try dsimp only
    exact hHeld.fr hf (red_not HS.out.2.1 (fun k h => (own_bk H4.out.2.1 h).1) HS.out.2.2 H2.out.2.lt (by have := HGA.out; have := HP.out.lt; omega))
  clear hK K
  try simp only [Act.put, List.setIfInBounds_toArray, List.set_cons_zero, List.set_cons_succ]
  have hHeld := hHeld (by kernel_rfl)
  refine wpAnyG_pure (i := 7) (oi := { dst := some 4, op := Op.assign (Operand.tmp 15), type := 3, pos := _, after := #[{ on := 6, ground := Ground.data }, { on := 6, ground := Ground.chain }, { on := 0, ground := Ground.phase }, { on := 1, ground := Ground.phase }, { on := 2, ground := Ground.phase }, { on := 3, ground := Ground.phase }, { on := 4, ground := Ground.phase }, { on := 5, ground := Ground.phase }, { on := 6, ground := Ground.phase }], guard := none }) (v := ?_) rfl (by kernel_rfl) (by kernel_rfl) (by kernel_rfl) (by kernel_rfl) (fun _ _ _ h => h) (Or.inl ⟨by rfl, ?_⟩) (fun _ => by assumption) ?_
  rotate_left
  · intro w hSw
    try dsimp only at hSw
    go_simp
    try with_reducible rfl
  try simp only [Act.put, List.setIfInBounds_toArray, List.set_cons_zero, List.set_cons_succ]
  refine wpAnyG_pure (i := 8) (oi := { dst := some 5, op := Op.assign (Operand.const (Value.int IntKind.i64 0)), type := 29, pos := _, after := #[{ on := 7, ground := Ground.chain }, { on := 0, ground := Ground.phase }, { on := 1, ground := Ground.phase }, { on := 2, ground := Ground.phase }, { on := 3, ground := Ground.phase }, { on := 4, ground := Ground.phase }, { on := 5, ground := Ground.phase }, { on := 6, ground := Ground.phase }, { on := 7, ground := Ground.phase }], guard := none }) (v := ?_) rfl (by kernel_rfl) (by kernel_rfl) (by kernel_rfl) (by kernel_rfl) (fun _ _ _ h => h) (Or.inl ⟨by rfl, ?_⟩) (fun _ => by assumption) ?_
  rotate_left
  · intro w hSw
    try dsimp only at hSw
    go_simp
    try with_reducible rfl
  try simp only [Act.put, List.setIfInBounds_toArray, List.set_cons_zero, List.set_cons_succ]
  refine wpAnyG_done (by kernel_rfl) ?_ _
  refine NoPanic.normal ?_
  --END rank3
  go_wp2_with fail
  go_ret2
  exact ⟨rfl, H5.out.1, H5.out.2⟩
end Go.Proofs.Ythdapoipfnnaeaa.MxW
