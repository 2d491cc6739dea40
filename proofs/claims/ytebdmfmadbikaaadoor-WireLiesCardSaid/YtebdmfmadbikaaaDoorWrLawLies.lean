/- The law WireLies, walked. Printed by genwlies.py (raw numbers of the seat). -/
import Derived.Test.YtebdmfmadbikaaaDoorWrLie
namespace Go.Proofs.YtebdmfmadbikaaaDoor.WiW
open Go.RowKit Go.Shelf Mem Fds FdW Wi Rng
set_option linter.unusedVariables false
set_option linter.unusedSimpArgs false

theorem mrow {w : World} {g : Nat} {T : TypeId} {old : Array Value} (h : Blk w g T old) (cs : Array Value) : Blk (w.setRow g cs) g T cs := setRow_heap w g old cs T (0, 0) h
/-- A whole message that is new, stored to. -/
theorem wpList_store_msg {ops : Array Oper} {rest : List Oper} {o : Oper} {a : Act} {Q : Exit → Act → World → Prop} (w : World) (hgd : o.guard = none) (x y : Operand) (ho : o.op = .store 27 x y) (m : Msg) (s : Sl)
    (hx : a.eval x = .pointer (some ⟨w.heap.size, 0, none⟩)) (hy : a.eval y = .agg (mv m s))
    (h : ∀ w', Blk w' w.heap.size 27 (mv m s) → Below w.heap.size w w' → wpList Tryd.prog ops Q rest (a.put o.dst undef) w') : wpList Tryd.prog ops Q (o :: rest) a (w.alloc (.cells #[.int .u8 0, .int .i64 0, .int .i64 0, .int .i64 0, .string { data := #[] }, .int .i64 0, .int .i64 0, .int .i64 0, .int .i64 0, .int .i64 0, .bool false, .slice none 0 0, .slice none 0 0, .slice none 0 0] 27)) := by
  refine wpList_store_row hgd 27 x y ho w.heap.size (mv m s) hx hy 27 #[.int .u8 0, .int .i64 0, .int .i64 0, .int .i64 0, .string { data := #[] }, .int .i64 0, .int .i64 0, .int .i64 0, .int .i64 0, .int .i64 0, .bool false, .slice none 0 0, .slice none 0 0, .slice none 0 0] (new_heap w _) minfo rfl (mv_one m s) (h _ (mrow (Blk.new w 27 #[.int .u8 0, .int .i64 0, .int .i64 0, .int .i64 0, .string { data := #[] }, .int .i64 0, .int .i64 0, .int .i64 0, .int .i64 0, .int .i64 0, .bool false, .slice none 0 0, .slice none 0 0, .slice none 0 0]) (mv m s)) ?_)
  refine ⟨rfl, rfl, rfl, ?_, fun k hk => ?_⟩
  · unfold World.setRow; simp
  · have hne : w.heap.size ≠ k := by omega
    have : ((w.alloc (.cells #[.int .u8 0, .int .i64 0, .int .i64 0, .int .i64 0, .string { data := #[] }, .int .i64 0, .int .i64 0, .int .i64 0, .int .i64 0, .int .i64 0, .bool false, .slice none 0 0, .slice none 0 0, .slice none 0 0] 27)).setRow w.heap.size (mv m s)).heap[k]? = (w.alloc (.cells #[.int .u8 0, .int .i64 0, .int .i64 0, .int .i64 0, .string { data := #[] }, .int .i64 0, .int .i64 0, .int .i64 0, .int .i64 0, .int .i64 0, .bool false, .slice none 0 0, .slice none 0 0, .slice none 0 0] 27)).heap[k]? := by unfold World.setRow; simp [Array.getElem?_modify, hne]
    exact this.trans ((nextA (Mem.start w) (.cells #[.int .u8 0, .int .i64 0, .int .i64 0, .int .i64 0, .string { data := #[] }, .int .i64 0, .int .i64 0, .int .i64 0, .int .i64 0, .int .i64 0, .bool false, .slice none 0 0, .slice none 0 0, .slice none 0 0] 27)).block k hk)
/-- The message's box, and what came before. -/
def Bx (w : World) (bx : Nat) (m : Msg) (s : Sl) (V : World) : Prop := Blk V bx 27 (mv m s) ∧ Below w.heap.size w V
theorem Bx.keep {w V V' : World} {bx : Nat} {m : Msg} {s : Sl} (h : Bx w bx m s V) (hb : Below V.heap.size V V') : Bx w bx m s V' := ⟨h.1.keep hb, next h.2 hb⟩
/-- What Put tells. -/
def pe (m : Msg) : Int := if may m = true then 0 else 2
theorem put_e (w : World) (m : Msg) (s : Sl) (hT : HasT w) (hI : MIn w w.heap.size m s) : Calls Tryd.prog 14 #[.agg (mv m s)] w fun e w' => ∃ A n c, e = .returned (.tuple #[.slice A n c, .int .i64 (pe m)]) ∧ Below w.heap.size w w' := by
  refine (Put_any w m s hT hI).mono fun e w' h => ?_
  unfold PutR at h
  unfold pe
  by_cases hm : may m = true
  · rw [if_pos hm] at h ⊢
    obtain ⟨A, c, rfl, _, hb⟩ := h
    exact ⟨A, _, c, rfl, hb⟩
  · rw [if_neg hm] at h ⊢
    obtain ⟨rfl, hb⟩ := h
    exact ⟨none, 0, 0, rfl, hb⟩
theorem may_lie (m : Msg) (b : List UInt8) (hb : b.length ≤ 3000) : pe m = 0 → pe (lie m b) = 0 := by
  unfold pe
  intro h
  have hm : may m = true := by
    cases hm : may m
    · rw [hm] at h; cases h
    · rfl
  have hF := (may_iff m).1 hm
  have hl : may (lie m b) = true := by
    unfold lie
    split
    · rename_i ht
      refine (may_iff _).2 ⟨hF.kind, ?_, hF.frm, hF.to_, hF.code, hF.req, hF.ver, hF.inc, hF.size, hF.node, hF.key, hF.ids, hF.nodes, by show b.length ≤ 65536; omega, hF.id, hF.nd⟩
      have h1 := hF.bare
      have h10 : 10 ∈ flds m.kind := by
        simp [tells] at ht
        rcases ht with h | h <;> rw [h] <;> decide
      obtain ⟨k, f, t, r, ky, v, i, sz, cd, nd, bk, ids, ns, dt⟩ := m
      simp only [keep, Msg.mk.injEq] at h1 ⊢
      simp only [h10, if_true]
      obtain ⟨a1, a2, a3, a4, a5, a6, a7, a8, a9, a10, a11, a12, a13, a14⟩ := h1
      exact ⟨a1, a2, a3, a4, a5, a6, a7, a8, a9, a10, a11, a12, a13, trivial⟩
    · exact hm
  rw [hl]; rfl
set_option maxRecDepth 100000 in
set_option maxHeartbeats 16000000 in
theorem lies_a (w : World) (hT : HasT w) (m : Msg) (s : Sl) (hm : MIn0 w w.heap.size m s) (A : Option Addr) (b : List UInt8) (c : Nat) (hb : Bytes w w.heap.size A b) (hf : few m = true) (hbl : b.length ≤ 3000) (hk : m.kind = 9) :
    Calls Tryd.prog 7 #[.agg (mv m s), .slice A b.length c] w fun e w' => e = .returned (.bool true) ∧ Below w.heap.size w w' := by
  obtain ⟨bx, hbx⟩ : ∃ bx, w.heap.size = bx := ⟨_, rfl⟩
  obtain ⟨w1, hw1⟩ : ∃ x : World, w.alloc (.cells (mv m s) 27) = x := ⟨_, rfl⟩
  have hb1 : Below w.heap.size w w1 := by rw [← hw1]; exact nextA (Mem.start w) _
  have H1 := Lib.hid (show Bx w bx m s w1 by
    rw [← hw1, ← hbx]
    exact ⟨Blk.new w _ _, nextA (Mem.start w) _⟩)
  have HI := Lib.hid (And.intro hT (And.intro hm hb))
  have HF := Lib.hid (And.intro hf hbl)
  have HM := Lib.hid (hm.small hf)
  have HK := Lib.hid (show tells m.kind = true ∧ lie m b = { m with data := b } by
    have h1 : tells m.kind = true := by simp [tells, *]
    exact ⟨h1, by unfold lie; rw [h1]; rfl⟩)
  obtain ⟨p1, hp1⟩ : ∃ p1, pe m = p1 := ⟨_, rfl⟩
  obtain ⟨p2, hp2⟩ : ∃ p2, pe ({ m with data := b }) = p2 := ⟨_, rfl⟩
  have HPe := Lib.hid (And.intro hp1 hp2)
  have HP := Lib.hid (show p1 = 0 → p2 = 0 by
    have h := may_lie m b hbl
    first
    | (rw [HK.out.2, hp1, hp2] at h; exact h)
    | (intro h0; rw [← hp2, hp1]; exact h0))
  clear hp1 hp2
  have HD := Lib.hid (show m.data.length ≤ 3000 from ((few_iff m).1 hf).2.2.1)
  have e9 : ((m.kind : Int) == 9) = true := by rw [beq_iff_eq]; omega
  have dl : decide ((3000 : Int) < ((b.length : Nat) : Int)) = false := decide_eq_false (by omega)
  have ca0 := H1.out.1.cell 0
  have ca1 := H1.out.1.cell 1
  have ca2 := H1.out.1.cell 2
  have ca3 := H1.out.1.cell 3
  have ca4 := H1.out.1.cell 4
  have ca5 := H1.out.1.cell 5
  have ca6 := H1.out.1.cell 6
  have ca7 := H1.out.1.cell 7
  have ca8 := H1.out.1.cell 8
  have ca9 := H1.out.1.cell 9
  have ca10 := H1.out.1.cell 10
  have ca11 := H1.out.1.cell 11
  have ca12 := H1.out.1.cell 12
  have ca13 := H1.out.1.cell 13
  simp [mv] at ca0 ca1 ca2 ca3 ca4 ca5 ca6 ca7 ca8 ca9 ca10 ca11 ca12 ca13
  clear hT hm hb hb1 hf hbl hk
  go_enter Tryd.func7, Tryd.ntmps7
  go_wp2_with fail
  refine (few_any w1 m s (HI.out.2.1.keep H1.out.2)).mono ?_
  rintro e w2 ⟨rfl, hb⟩
  rw [HF.out.1]
  have H2 := Lib.hid (H1.out.keep hb)
  have HB2 := Lib.hid (HI.out.2.1.keep H2.out.2).data
  have es := run_str (P := Tryd.prog) w2 25 5 Tryd.underlying25 Tryd.underlying5 HB2.out s.dk 9 Tryd.underlying9
  clear hb ca0 ca1 ca2 ca3 ca4 ca5 ca6 ca7 ca8 ca9 ca10 ca11 ca12 ca13 hw1 hbx
  have cb0 := H2.out.1.cell 0
  have cb1 := H2.out.1.cell 1
  have cb2 := H2.out.1.cell 2
  have cb3 := H2.out.1.cell 3
  have cb4 := H2.out.1.cell 4
  have cb5 := H2.out.1.cell 5
  have cb6 := H2.out.1.cell 6
  have cb7 := H2.out.1.cell 7
  have cb8 := H2.out.1.cell 8
  have cb9 := H2.out.1.cell 9
  have cb10 := H2.out.1.cell 10
  have cb11 := H2.out.1.cell 11
  have cb12 := H2.out.1.cell 12
  have cb13 := H2.out.1.cell 13
  simp [mv] at cb0 cb1 cb2 cb3 cb4 cb5 cb6 cb7 cb8 cb9 cb10 cb11 cb12 cb13
  go_wp2_with fail
  refine (lie_any w2 m s (HM.out.keep H2.out.2) A b b.length c rfl (by have := HF.out.2; omega) ((HI.out.2.2.below H2.out.2).up H2.out.2.size)).mono ?_
  rintro e w3 ⟨t, rfl, hM, ho, hb⟩
  rw [HK.out.2] at hM ho ⊢
  have H3 := Lib.hid (And.intro (H2.out.keep hb) (And.intro hM ho))
  clear hM ho hb es cb0 cb1 cb2 cb3 cb4 cb5 cb6 cb7 cb8 cb9 cb10 cb11 cb12 cb13
  go_wp2_with ((with_reducible show wpList _ _ _ ((⟨none, .store 27 (.tmp 6) (.tmp 30), _, _, _, _⟩ : Oper) :: _) _ _); refine wpList_store_msg w3 rfl (.tmp 6) (.tmp 30) rfl ({ m with data := b }) t rfl rfl ?_; intro w4 hb4 hw4; have H4 := Lib.hid (And.intro (H3.out.1.keep hw4) (And.intro (H3.out.2.1.keep hw4) (And.intro (H3.out.2.2.keep hw4) hb4))); clear hb4 hw4; obtain ⟨gx, hgx⟩ : ∃ x, w3.heap.size = x := ⟨_, rfl⟩; rw [hgx] at H4 ⊢; have HG := Lib.hid hgx; clear hgx; have c0 := H4.out.1.1.cell 0; simp [mv] at c0)
  refine (tells_any w4 m.kind).mono ?_
  rintro e w5 ⟨rfl, rfl⟩
  rw [HK.out.1]
  have cc0 := H4.out.1.1.cell 0
  have cc1 := H4.out.1.1.cell 1
  have cc2 := H4.out.1.1.cell 2
  have cc3 := H4.out.1.1.cell 3
  have cc4 := H4.out.1.1.cell 4
  have cc5 := H4.out.1.1.cell 5
  have cc6 := H4.out.1.1.cell 6
  have cc7 := H4.out.1.1.cell 7
  have cc8 := H4.out.1.1.cell 8
  have cc9 := H4.out.1.1.cell 9
  have cc10 := H4.out.1.1.cell 10
  have cc11 := H4.out.1.1.cell 11
  have cc12 := H4.out.1.1.cell 12
  have cc13 := H4.out.1.1.cell 13
  simp [mv] at cc0 cc1 cc2 cc3 cc4 cc5 cc6 cc7 cc8 cc9 cc10 cc11 cc12 cc13
  have cx13 := H4.out.2.2.2.cell 13
  simp [mv] at cx13
  have es := run_str (P := Tryd.prog) w4 25 5 Tryd.underlying25 Tryd.underlying5 (HI.out.2.1.keep H4.out.1.2).data s.dk 9 Tryd.underlying9
  have eb := run_str (P := Tryd.prog) w4 25 5 Tryd.underlying25 Tryd.underlying5 (HI.out.2.2.below H4.out.1.2) c 9 Tryd.underlying9
  have ex := run_str (P := Tryd.prog) w4 25 5 Tryd.underlying25 Tryd.underlying5 H4.out.2.1.data t.dk 9 Tryd.underlying9
  go_wp2_with fail
  have K := put_e w4 m s (HI.out.1.keep H4.out.1.2) (HM.out.keep H4.out.1.2)
  rw [HPe.out.1] at K
  refine K.mono ?_
  clear K
  rintro e w5 ⟨A5, n5, c5, rfl, hb⟩
  have H5 := Lib.hid (And.intro (H4.out.1.keep hb) (And.intro (H4.out.2.1.keep hb) (And.intro (H4.out.2.2.1.keep hb) (H4.out.2.2.2.keep hb))))
  clear hb cc0 cc1 cc2 cc3 cc4 cc5 cc6 cc7 cc8 cc9 cc10 cc11 cc12 cc13 cx13 es eb ex
  have cx0 := H5.out.2.2.2.cell 0
  have cx1 := H5.out.2.2.2.cell 1
  have cx2 := H5.out.2.2.2.cell 2
  have cx3 := H5.out.2.2.2.cell 3
  have cx4 := H5.out.2.2.2.cell 4
  have cx5 := H5.out.2.2.2.cell 5
  have cx6 := H5.out.2.2.2.cell 6
  have cx7 := H5.out.2.2.2.cell 7
  have cx8 := H5.out.2.2.2.cell 8
  have cx9 := H5.out.2.2.2.cell 9
  have cx10 := H5.out.2.2.2.cell 10
  have cx11 := H5.out.2.2.2.cell 11
  have cx12 := H5.out.2.2.2.cell 12
  have cx13 := H5.out.2.2.2.cell 13
  simp [mv] at cx0 cx1 cx2 cx3 cx4 cx5 cx6 cx7 cx8 cx9 cx10 cx11 cx12 cx13
  go_wp2_with fail
  have K := put_e w5 ({ m with data := b }) t (HI.out.1.keep H5.out.1.2) H5.out.2.1
  rw [HPe.out.2] at K
  refine K.mono ?_
  clear K
  rintro e w6 ⟨A6, n6, c6, rfl, hb⟩
  have H6 := Lib.hid (And.intro (H5.out.1.keep hb) (And.intro (H5.out.2.1.keep hb) (And.intro (H5.out.2.2.1.keep hb) (H5.out.2.2.2.keep hb))))
  clear hb cx0 cx1 cx2 cx3 cx4 cx5 cx6 cx7 cx8 cx9 cx10 cx11 cx12 cx13
  have cy0 := H6.out.2.2.2.cell 0
  have cy1 := H6.out.2.2.2.cell 1
  have cy2 := H6.out.2.2.2.cell 2
  have cy3 := H6.out.2.2.2.cell 3
  have cy4 := H6.out.2.2.2.cell 4
  have cy5 := H6.out.2.2.2.cell 5
  have cy6 := H6.out.2.2.2.cell 6
  have cy7 := H6.out.2.2.2.cell 7
  have cy8 := H6.out.2.2.2.cell 8
  have cy9 := H6.out.2.2.2.cell 9
  have cy10 := H6.out.2.2.2.cell 10
  have cy11 := H6.out.2.2.2.cell 11
  have cy12 := H6.out.2.2.2.cell 12
  have cy13 := H6.out.2.2.2.cell 13
  simp [mv] at cy0 cy1 cy2 cy3 cy4 cy5 cy6 cy7 cy8 cy9 cy10 cy11 cy12 cy13
  go_wp2_with ((with_reducible show wpList _ _ _ ((⟨none, .store 27 (.tmp 13) (.tmp 70), _, _, _, _⟩ : Oper) :: _) _ _); refine wpList_store_msg w6 rfl (.tmp 13) (.tmp 70) rfl ({ m with data := b }) t rfl rfl ?_; intro w7 hb7 hw7; have hw8 : Below w6.heap.size w6 (w7.setCell ⟨w6.heap.size, 13, none⟩ (.slice s.da m.data.length s.dk)) := hw7.trans ((Fr.setCell (S := fun k => k = w6.heap.size) (Fr.refl _ w7) (p := ⟨w6.heap.size, 13, none⟩) (fun _ => rfl) _).below hw7.size fun k hk => by omega); have H7 := Lib.hid (And.intro (H6.out.1.keep hw7) hb7); have H8 := Lib.hid (show Bx w bx m s (w7.setCell ⟨w6.heap.size, 13, none⟩ (.slice s.da m.data.length s.dk)) ∧ MIn (w7.setCell ⟨w6.heap.size, 13, none⟩ (.slice s.da m.data.length s.dk)) (w7.setCell ⟨w6.heap.size, 13, none⟩ (.slice s.da m.data.length s.dk)).heap.size ({ m with data := b }) t ∧ Mem.Own (w7.setCell ⟨w6.heap.size, 13, none⟩ (.slice s.da m.data.length s.dk)) w2.heap.size 5 t.da t.dk (({ m with data := b } : Msg).data.map u8v) ∧ Blk (w7.setCell ⟨w6.heap.size, 13, none⟩ (.slice s.da m.data.length s.dk)) gx 27 (mv ({ m with data := b }) t) ∧ Blk (w7.setCell ⟨w6.heap.size, 13, none⟩ (.slice s.da m.data.length s.dk)) w6.heap.size 27 (mv m ⟨t.ia, t.ic, t.na, t.nc, s.da, s.dk⟩) from ⟨H6.out.1.keep hw8, H6.out.2.1.keep hw8, H6.out.2.2.1.keep hw8, H6.out.2.2.2.keep hw8, hb7.set_ 13 _⟩); clear hb7 hw7 hw8 cy0 cy1 cy2 cy3 cy4 cy5 cy6 cy7 cy8 cy9 cy10 cy11 cy12 cy13; obtain ⟨gy, hgy⟩ : ∃ x, w6.heap.size = x := ⟨_, rfl⟩; rw [hgy] at H7 H8 ⊢; clear hgy; have cm13 := H7.out.1.1.cell 13; have cv13 := H7.out.2.cell 13; have zy := H7.out.2.frozen 13; simp [mv] at cm13 cv13; have cz0 := H8.out.2.2.2.2.cell 0; have cz1 := H8.out.2.2.2.2.cell 1; have cz2 := H8.out.2.2.2.2.cell 2; have cz3 := H8.out.2.2.2.2.cell 3; have cz4 := H8.out.2.2.2.2.cell 4; have cz5 := H8.out.2.2.2.2.cell 5; have cz6 := H8.out.2.2.2.2.cell 6; have cz7 := H8.out.2.2.2.2.cell 7; have cz8 := H8.out.2.2.2.2.cell 8; have cz9 := H8.out.2.2.2.2.cell 9; have cz10 := H8.out.2.2.2.2.cell 10; have cz11 := H8.out.2.2.2.2.cell 11; have cz12 := H8.out.2.2.2.2.cell 12; have cz13 := H8.out.2.2.2.2.cell 13; simp [mv] at cz0 cz1 cz2 cz3 cz4 cz5 cz6 cz7 cz8 cz9 cz10 cz11 cz12 cz13; have cu0 := H8.out.1.1.cell 0; have cu1 := H8.out.1.1.cell 1; have cu2 := H8.out.1.1.cell 2; have cu3 := H8.out.1.1.cell 3; have cu4 := H8.out.1.1.cell 4; have cu5 := H8.out.1.1.cell 5; have cu6 := H8.out.1.1.cell 6; have cu7 := H8.out.1.1.cell 7; have cu8 := H8.out.1.1.cell 8; have cu9 := H8.out.1.1.cell 9; have cu10 := H8.out.1.1.cell 10; have cu11 := H8.out.1.1.cell 11; have cu12 := H8.out.1.1.cell 12; have cu13 := H8.out.1.1.cell 13; simp [mv] at cu0 cu1 cu2 cu3 cu4 cu5 cu6 cu7 cu8 cu9 cu10 cu11 cu12 cu13)
  have h8 := H8.out
  clear cm13 cv13 zy cz0 cz1 cz2 cz3 cz4 cz5 cz6 cz7 cz8 cz9 cz10 cz11 cz12 cz13 cu0 cu1 cu2 cu3 cu4 cu5 cu6 cu7 cu8 cu9 cu10 cu11 cu12 cu13
  obtain ⟨w8, hw8⟩ : ∃ x, w7.setCell ⟨gy, 13, none⟩ (.slice s.da m.data.length s.dk) = x := ⟨_, rfl⟩
  rw [hw8] at h8 ⊢
  refine (same_any w8 m m ⟨t.ia, t.ic, t.na, t.nc, s.da, s.dk⟩ s (by
    have h1 := HM.out.keep h8.1.2
    exact ⟨h8.2.1.ids, h8.2.1.nodes, h1.data, h1.kind, h1.lk, h1.li, h1.ln, h1.ld, h1.lik⟩) (HM.out.keep h8.1.2)).mono ?_
  rintro e w9 ⟨rfl, hb⟩
  rw [same_refl]
  have H9 := Lib.hid (And.intro (h8.1.keep hb) (And.intro (h8.2.2.1.keep hb) (h8.2.2.2.1.keep hb)))
  clear hb h8 hw8 H8 H7 H6 H5 H4
  go_wp2_with fail
  obtain ⟨L, hL⟩ : ∃ L, ({ m with data := b } : Msg).data.length = L := ⟨_, rfl⟩
  have HL := Lib.hid hL
  go_loopw [15] (fun i wq => ∃ (j : Nat) (l1 : List UInt8), i = .int .i64 (j : Int) ∧ j ≤ L ∧ l1.length = L ∧ Mem.Own wq w2.heap.size 5 t.da t.dk (l1.map u8v) ∧ Blk wq gx 27 (mv ({ m with data := b }) t) ∧ Bx w bx m s wq) (fun i _ => L - (intOf i).toNat)
  case atStart => exact ⟨0, _, rfl, Nat.zero_le _, hL, H9.out.2.1, H9.out.2.2, H9.out.1⟩
  case round =>
    clear H9
    obtain ⟨j, l1, rfl, hj, hl1, ho, hx, hB⟩ := hrel
    have HX := Lib.hid (And.intro hx (And.intro hB ho))
    have HL1 := Lib.hid hl1
    have cx13 := hx.cell 13
    simp [mv] at cx13
    rw [HL.out] at cx13
    clear hx hB
    by_cases hjl : j < L
    · have hii : (j : Int) < (L : Int) := by omega
      have h0 : (0 : Int) ≤ (j : Int) := by omega
      obtain ⟨g, e, hbg, hlt, hc', hz, hset⟩ := ho.at_ (k := j) (by rw [List.length_map]; omega)
      obtain ⟨x, hx⟩ : ∃ x, l1[j]'(by omega) = x := ⟨_, rfl⟩
      have hc : wr.cell? ⟨g, j, none⟩ = some (.int .u8 (x.toNat : Int)) := by rw [hc', List.getElem_map, hx]; rfl
      have hw : IntKind.u8.wrap ((x.toNat : Int) + 1) = ((x + 1).toNat : Int) := by
        have := x.toNat_lt
        rw [UInt8.toNat_add]
        show ((x.toNat : Int) + 1) % 256 = (((x.toNat + 1) % 256 : Nat) : Int)
        omega
      have HR := Lib.hid (show Mem.Own (wr.setCell ⟨g, j, none⟩ (.int .u8 ((x + 1).toNat : Int))) w2.heap.size 5 t.da t.dk ((l1.set j (x + 1)).map u8v) from by rw [List.map_set]; exact hset _)
      have hfr : Fr (fun k => k = g) wr (wr.setCell ⟨g, j, none⟩ (.int .u8 ((x + 1).toNat : Int))) := (Fr.refl (fun k => k = g) wr).setCell (p := ⟨g, j, none⟩) (fun _ => rfl) _
      have hg2 : bx < w2.heap.size := H2.out.1.lt
      have HN := Lib.hid (show Blk (wr.setCell ⟨g, j, none⟩ (.int .u8 ((x + 1).toNat : Int))) gx 27 (mv ({ m with data := b }) t) ∧ Bx w bx m s (wr.setCell ⟨g, j, none⟩ (.int .u8 ((x + 1).toNat : Int))) from
        ⟨HX.out.1.fr hfr (fun h => HX.out.1.ne_own ho (by decide) g e h.symm), HX.out.2.1.1.fr hfr (by omega), HX.out.2.1.2.trans (hfr.below HX.out.2.1.2.size fun k hk => by have := H2.out.2.size; omega)⟩)
      rw [e] at cx13
      clear hc' hset hx hlt ho hl1 hfr hg2 hL e
      have HT := Lib.hid (And.intro cx13 (And.intro hc hz))
      have HW := Lib.hid (show ((x.toNat : Int) + 1) % 256 = ((x + 1).toNat : Int) from hw)
      have hL3 : L ≤ 3000 := by rw [← HL.out]; first | exact HF.out.2 | exact HD.out
      have hL3 : (L : Int) ≤ 3000 := by omega
      go_wp2_with fail
      refine wp_region_noPanic ?_
      refine wp_heldG (fun V => V.cell? ⟨gx, 13, none⟩ = some (.slice (some ⟨g, 0, none⟩) L t.dk) ∧ V.cell? ⟨g, j, none⟩ = some (.int .u8 (x.toNat : Int)) ∧ V.frozen? ⟨g, j, none⟩ = false) [10] (by kernel_rfl) ?hs0 ?rg0
      case hs0 =>
        exact HT.out
      case rg0 =>
      intro hHeld
      refine wpAnyG_pure (i := 0) (oi := { dst := some 84, op := Op.fieldAddr 27 (Operand.tmp 6) 13, type := 0, pos := _, after := #[], guard := none }) (v := ?_) rfl (by kernel_rfl) (by kernel_rfl) (by kernel_rfl) (by kernel_rfl) (fun _ _ _ h => h) (Or.inl ⟨by rfl, ?_⟩) (fun _ => by assumption) ?_
      rotate_left
      · intro w hSw
        try dsimp only at hSw
        go_simp
        try with_reducible rfl
      try simp only [Act.put, List.setIfInBounds_toArray, List.set_cons_zero, List.set_cons_succ]
      refine wpAnyG_take (i := 1) (oi := { dst := some 85, op := Op.load 25 (Operand.tmp 84), type := 25, pos := _, after := #[{ on := 0, ground := Ground.data }], guard := none }) (v := ?_) rfl (by kernel_rfl) (by kernel_rfl) (by kernel_rfl) (by kernel_rfl) (fun _ _ _ h => h) (Or.inl ⟨by rfl, ?_⟩) (by assumption) ?_
      rotate_left
      · intro w hSw
        try dsimp only at hSw
        go_simp
        try with_reducible rfl
      try simp only [Act.put, List.setIfInBounds_toArray, List.set_cons_zero, List.set_cons_succ]
      refine wpAnyG_pure (i := 2) (oi := { dst := some 86, op := Op.move (Operand.tmp 15), type := 3, pos := _, after := #[], guard := none }) (v := ?_) rfl (by kernel_rfl) (by kernel_rfl) (by kernel_rfl) (by kernel_rfl) (fun _ _ _ h => h) (Or.inl ⟨by rfl, ?_⟩) (fun _ => by assumption) ?_
      rotate_left
      · intro w hSw
        try dsimp only at hSw
        go_simp
        try with_reducible rfl
      try simp only [Act.put, List.setIfInBounds_toArray, List.set_cons_zero, List.set_cons_succ]
      refine wpAnyG_pure (i := 3) (oi := { dst := some 87, op := Op.fieldAddr 27 (Operand.tmp 6) 13, type := 0, pos := _, after := #[], guard := none }) (v := ?_) rfl (by kernel_rfl) (by kernel_rfl) (by kernel_rfl) (by kernel_rfl) (fun _ _ _ h => h) (Or.inl ⟨by rfl, ?_⟩) (fun _ => by assumption) ?_
      rotate_left
      · intro w hSw
        try dsimp only at hSw
        go_simp
        try with_reducible rfl
      try simp only [Act.put, List.setIfInBounds_toArray, List.set_cons_zero, List.set_cons_succ]
      refine wpAnyG_take (i := 4) (oi := { dst := some 88, op := Op.load 25 (Operand.tmp 87), type := 25, pos := _, after := #[{ on := 3, ground := Ground.data }], guard := none }) (v := ?_) rfl (by kernel_rfl) (by kernel_rfl) (by kernel_rfl) (by kernel_rfl) (fun _ _ _ h => h) (Or.inl ⟨by rfl, ?_⟩) (by assumption) ?_
      rotate_left
      · intro w hSw
        try dsimp only at hSw
        go_simp
        try with_reducible rfl
      try simp only [Act.put, List.setIfInBounds_toArray, List.set_cons_zero, List.set_cons_succ]
      refine wpAnyG_pure (i := 5) (oi := { dst := some 89, op := Op.move (Operand.tmp 15), type := 3, pos := _, after := #[], guard := none }) (v := ?_) rfl (by kernel_rfl) (by kernel_rfl) (by kernel_rfl) (by kernel_rfl) (fun _ _ _ h => h) (Or.inl ⟨by rfl, ?_⟩) (fun _ => by assumption) ?_
      rotate_left
      · intro w hSw
        try dsimp only at hSw
        go_simp
        try with_reducible rfl
      try simp only [Act.put, List.setIfInBounds_toArray, List.set_cons_zero, List.set_cons_succ]
      refine wpAnyG_pure (i := 6) (oi := { dst := some 90, op := Op.indexAddr 25 (Operand.tmp 88) (Operand.tmp 89), type := 0, pos := _, after := #[{ on := 4, ground := Ground.data }, { on := 5, ground := Ground.data }], guard := none }) (v := ?_) rfl (by kernel_rfl) (by kernel_rfl) (by kernel_rfl) (by kernel_rfl) (fun _ _ _ h => h) (Or.inl ⟨by rfl, ?_⟩) (fun _ => by assumption) ?_
      rotate_left
      · intro w hSw
        try dsimp only at hSw
        go_simp
        try with_reducible rfl
      try simp only [Act.put, List.setIfInBounds_toArray, List.set_cons_zero, List.set_cons_succ]
      refine wpAnyG_take (i := 7) (oi := { dst := some 91, op := Op.load 5 (Operand.tmp 90), type := 5, pos := _, after := #[{ on := 6, ground := Ground.data }], guard := none }) (v := ?_) rfl (by kernel_rfl) (by kernel_rfl) (by kernel_rfl) (by kernel_rfl) (fun _ _ _ h => h) (Or.inl ⟨by rfl, ?_⟩) (by assumption) ?_
      rotate_left
      · intro w hSw
        try dsimp only at hSw
        go_simp
        try with_reducible rfl
      try simp only [Act.put, List.setIfInBounds_toArray, List.set_cons_zero, List.set_cons_succ]
      refine wpAnyG_pure (i := 8) (oi := { dst := some 92, op := Op.binOp BinOp.add 5 (Operand.tmp 91) (Operand.const (Value.int IntKind.u8 1)) 5, type := 5, pos := _, after := #[{ on := 7, ground := Ground.data }], guard := none }) (v := ?_) rfl (by kernel_rfl) (by kernel_rfl) (by kernel_rfl) (by kernel_rfl) (fun _ _ _ h => h) (Or.inl ⟨by rfl, ?_⟩) (fun _ => by assumption) ?_
      rotate_left
      · intro w hSw
        try dsimp only at hSw
        go_simp
        try with_reducible rfl
      try simp only [Act.put, List.setIfInBounds_toArray, List.set_cons_zero, List.set_cons_succ]
      refine wpAnyG_pure (i := 9) (oi := { dst := some 93, op := Op.indexAddr 25 (Operand.tmp 85) (Operand.tmp 86), type := 0, pos := _, after := #[{ on := 1, ground := Ground.data }, { on := 2, ground := Ground.data }, { on := 0, ground := Ground.phase }, { on := 1, ground := Ground.phase }, { on := 2, ground := Ground.phase }, { on := 3, ground := Ground.phase }, { on := 4, ground := Ground.phase }, { on := 5, ground := Ground.phase }, { on := 6, ground := Ground.phase }, { on := 7, ground := Ground.phase }, { on := 8, ground := Ground.phase }], guard := none }) (v := ?_) rfl (by kernel_rfl) (by kernel_rfl) (by kernel_rfl) (by kernel_rfl) (fun _ _ _ h => h) (Or.inl ⟨by rfl, ?_⟩) (fun _ => by assumption) ?_
      rotate_left
      · intro w hSw
        try dsimp only at hSw
        go_simp
        try with_reducible rfl
      try simp only [Act.put, List.setIfInBounds_toArray, List.set_cons_zero, List.set_cons_succ]
      refine wpAnyG_one (i := 10) (o := { dst := none, op := Op.store 5 (Operand.tmp 93) (Operand.tmp 92), type := 0, pos := _, after := #[{ on := 9, ground := Ground.data }, { on := 8, ground := Ground.data }, { on := 0, ground := Ground.phase }, { on := 1, ground := Ground.phase }, { on := 2, ground := Ground.phase }, { on := 3, ground := Ground.phase }, { on := 4, ground := Ground.phase }, { on := 5, ground := Ground.phase }, { on := 6, ground := Ground.phase }, { on := 7, ground := Ground.phase }, { on := 8, ground := Ground.phase }], guard := none }) (by kernel_rfl) rfl (fun K hK => ?_)
      have c0 : wr.drew.cell? ⟨g, j, none⟩ = some (.int .u8 (x.toNat : Int)) := HT.out.2.1
      have z0 : wr.drew.frozen? ⟨g, j, none⟩ = false := HT.out.2.2
      go_simp
      try dsimp only
      refine hK.out _ _ ?_ (fun hHeld => ?_)
      · exact fun h => (st_no (by kernel_rfl) h).elim
      clear hK K
      try simp only [Act.put, List.setIfInBounds_toArray, List.set_cons_zero, List.set_cons_succ]
      clear hHeld
      refine wpAnyG_done (by kernel_rfl) ?_ _
      refine NoPanic.normal ?_
      go_wp2_with fail
      go_roundw
      case rel =>
        rw [HW.out]
        exact ⟨j + 1, l1.set j (x + 1), by simp, by omega, by rw [List.length_set]; exact HL1.out, HR.out.keep (nextN (Mem.start _) 1), HN.out.1.keep (nextN (Mem.start _) 1), HN.out.2.keep (nextN (Mem.start _) 1)⟩
      case measure => simp [intOf]; omega
    · obtain rfl : j = L := by omega
      have H10 := Lib.hid HX.out.2.1
      have cm13 := H10.out.1.cell 13
      simp [mv] at cm13
      have es := run_str (P := Tryd.prog) wr 25 5 Tryd.underlying25 Tryd.underlying5 (HI.out.2.1.keep H10.out.2).data s.dk 9 Tryd.underlying9
      clear hL ho hl1
      by_cases hp : p1 = 0
      · have hp2 := HP.out hp
        clear HP
        subst hp
        subst hp2
        go_wp2_with fail
        refine (works_any wr (HI.out.1.keep H10.out.2)).mono ?_
        rintro e w11 ⟨rfl, hb⟩
        have H11 := Lib.hid (next H10.out.2 hb)
        clear hb
        go_wp2_with fail
        go_ret
        exact ⟨rfl, H11.out⟩
      · have dp : (p1 != 0) = true := by rw [bne_iff_ne]; exact hp
        clear hp HP
        go_wp2_with fail
        refine (works_any wr (HI.out.1.keep H10.out.2)).mono ?_
        rintro e w11 ⟨rfl, hb⟩
        have H11 := Lib.hid (next H10.out.2 hb)
        clear hb
        go_wp2_with fail
        go_ret
        exact ⟨rfl, H11.out⟩
set_option maxRecDepth 100000 in
set_option maxHeartbeats 16000000 in
theorem lies_b (w : World) (hT : HasT w) (m : Msg) (s : Sl) (hm : MIn0 w w.heap.size m s) (A : Option Addr) (b : List UInt8) (c : Nat) (hb : Bytes w w.heap.size A b) (hf : few m = true) (hbl : b.length ≤ 3000) (hk : m.kind = 20) :
    Calls Tryd.prog 7 #[.agg (mv m s), .slice A b.length c] w fun e w' => e = .returned (.bool true) ∧ Below w.heap.size w w' := by
  obtain ⟨bx, hbx⟩ : ∃ bx, w.heap.size = bx := ⟨_, rfl⟩
  obtain ⟨w1, hw1⟩ : ∃ x : World, w.alloc (.cells (mv m s) 27) = x := ⟨_, rfl⟩
  have hb1 : Below w.heap.size w w1 := by rw [← hw1]; exact nextA (Mem.start w) _
  have H1 := Lib.hid (show Bx w bx m s w1 by
    rw [← hw1, ← hbx]
    exact ⟨Blk.new w _ _, nextA (Mem.start w) _⟩)
  have HI := Lib.hid (And.intro hT (And.intro hm hb))
  have HF := Lib.hid (And.intro hf hbl)
  have HM := Lib.hid (hm.small hf)
  have HK := Lib.hid (show tells m.kind = true ∧ lie m b = { m with data := b } by
    have h1 : tells m.kind = true := by simp [tells, *]
    exact ⟨h1, by unfold lie; rw [h1]; rfl⟩)
  obtain ⟨p1, hp1⟩ : ∃ p1, pe m = p1 := ⟨_, rfl⟩
  obtain ⟨p2, hp2⟩ : ∃ p2, pe ({ m with data := b }) = p2 := ⟨_, rfl⟩
  have HPe := Lib.hid (And.intro hp1 hp2)
  have HP := Lib.hid (show p1 = 0 → p2 = 0 by
    have h := may_lie m b hbl
    first
    | (rw [HK.out.2, hp1, hp2] at h; exact h)
    | (intro h0; rw [← hp2, hp1]; exact h0))
  clear hp1 hp2
  have HD := Lib.hid (show m.data.length ≤ 3000 from ((few_iff m).1 hf).2.2.1)
  have e9 : ((m.kind : Int) == 9) = false := by rw [beq_eq_false_iff_ne]; omega
  have e20 : ((m.kind : Int) == 20) = true := by rw [beq_iff_eq]; omega
  have dl : decide ((3000 : Int) < ((b.length : Nat) : Int)) = false := decide_eq_false (by omega)
  have ca0 := H1.out.1.cell 0
  have ca1 := H1.out.1.cell 1
  have ca2 := H1.out.1.cell 2
  have ca3 := H1.out.1.cell 3
  have ca4 := H1.out.1.cell 4
  have ca5 := H1.out.1.cell 5
  have ca6 := H1.out.1.cell 6
  have ca7 := H1.out.1.cell 7
  have ca8 := H1.out.1.cell 8
  have ca9 := H1.out.1.cell 9
  have ca10 := H1.out.1.cell 10
  have ca11 := H1.out.1.cell 11
  have ca12 := H1.out.1.cell 12
  have ca13 := H1.out.1.cell 13
  simp [mv] at ca0 ca1 ca2 ca3 ca4 ca5 ca6 ca7 ca8 ca9 ca10 ca11 ca12 ca13
  clear hT hm hb hb1 hf hbl hk
  go_enter Tryd.func7, Tryd.ntmps7
  go_wp2_with fail
  refine (few_any w1 m s (HI.out.2.1.keep H1.out.2)).mono ?_
  rintro e w2 ⟨rfl, hb⟩
  rw [HF.out.1]
  have H2 := Lib.hid (H1.out.keep hb)
  have HB2 := Lib.hid (HI.out.2.1.keep H2.out.2).data
  have es := run_str (P := Tryd.prog) w2 25 5 Tryd.underlying25 Tryd.underlying5 HB2.out s.dk 9 Tryd.underlying9
  clear hb ca0 ca1 ca2 ca3 ca4 ca5 ca6 ca7 ca8 ca9 ca10 ca11 ca12 ca13 hw1 hbx
  have cb0 := H2.out.1.cell 0
  have cb1 := H2.out.1.cell 1
  have cb2 := H2.out.1.cell 2
  have cb3 := H2.out.1.cell 3
  have cb4 := H2.out.1.cell 4
  have cb5 := H2.out.1.cell 5
  have cb6 := H2.out.1.cell 6
  have cb7 := H2.out.1.cell 7
  have cb8 := H2.out.1.cell 8
  have cb9 := H2.out.1.cell 9
  have cb10 := H2.out.1.cell 10
  have cb11 := H2.out.1.cell 11
  have cb12 := H2.out.1.cell 12
  have cb13 := H2.out.1.cell 13
  simp [mv] at cb0 cb1 cb2 cb3 cb4 cb5 cb6 cb7 cb8 cb9 cb10 cb11 cb12 cb13
  go_wp2_with fail
  refine (lie_any w2 m s (HM.out.keep H2.out.2) A b b.length c rfl (by have := HF.out.2; omega) ((HI.out.2.2.below H2.out.2).up H2.out.2.size)).mono ?_
  rintro e w3 ⟨t, rfl, hM, ho, hb⟩
  rw [HK.out.2] at hM ho ⊢
  have H3 := Lib.hid (And.intro (H2.out.keep hb) (And.intro hM ho))
  clear hM ho hb es cb0 cb1 cb2 cb3 cb4 cb5 cb6 cb7 cb8 cb9 cb10 cb11 cb12 cb13
  go_wp2_with ((with_reducible show wpList _ _ _ ((⟨none, .store 27 (.tmp 6) (.tmp 30), _, _, _, _⟩ : Oper) :: _) _ _); refine wpList_store_msg w3 rfl (.tmp 6) (.tmp 30) rfl ({ m with data := b }) t rfl rfl ?_; intro w4 hb4 hw4; have H4 := Lib.hid (And.intro (H3.out.1.keep hw4) (And.intro (H3.out.2.1.keep hw4) (And.intro (H3.out.2.2.keep hw4) hb4))); clear hb4 hw4; obtain ⟨gx, hgx⟩ : ∃ x, w3.heap.size = x := ⟨_, rfl⟩; rw [hgx] at H4 ⊢; have HG := Lib.hid hgx; clear hgx; have c0 := H4.out.1.1.cell 0; simp [mv] at c0)
  refine (tells_any w4 m.kind).mono ?_
  rintro e w5 ⟨rfl, rfl⟩
  rw [HK.out.1]
  have cc0 := H4.out.1.1.cell 0
  have cc1 := H4.out.1.1.cell 1
  have cc2 := H4.out.1.1.cell 2
  have cc3 := H4.out.1.1.cell 3
  have cc4 := H4.out.1.1.cell 4
  have cc5 := H4.out.1.1.cell 5
  have cc6 := H4.out.1.1.cell 6
  have cc7 := H4.out.1.1.cell 7
  have cc8 := H4.out.1.1.cell 8
  have cc9 := H4.out.1.1.cell 9
  have cc10 := H4.out.1.1.cell 10
  have cc11 := H4.out.1.1.cell 11
  have cc12 := H4.out.1.1.cell 12
  have cc13 := H4.out.1.1.cell 13
  simp [mv] at cc0 cc1 cc2 cc3 cc4 cc5 cc6 cc7 cc8 cc9 cc10 cc11 cc12 cc13
  have cx13 := H4.out.2.2.2.cell 13
  simp [mv] at cx13
  have es := run_str (P := Tryd.prog) w4 25 5 Tryd.underlying25 Tryd.underlying5 (HI.out.2.1.keep H4.out.1.2).data s.dk 9 Tryd.underlying9
  have eb := run_str (P := Tryd.prog) w4 25 5 Tryd.underlying25 Tryd.underlying5 (HI.out.2.2.below H4.out.1.2) c 9 Tryd.underlying9
  have ex := run_str (P := Tryd.prog) w4 25 5 Tryd.underlying25 Tryd.underlying5 H4.out.2.1.data t.dk 9 Tryd.underlying9
  go_wp2_with fail
  have K := put_e w4 m s (HI.out.1.keep H4.out.1.2) (HM.out.keep H4.out.1.2)
  rw [HPe.out.1] at K
  refine K.mono ?_
  clear K
  rintro e w5 ⟨A5, n5, c5, rfl, hb⟩
  have H5 := Lib.hid (And.intro (H4.out.1.keep hb) (And.intro (H4.out.2.1.keep hb) (And.intro (H4.out.2.2.1.keep hb) (H4.out.2.2.2.keep hb))))
  clear hb cc0 cc1 cc2 cc3 cc4 cc5 cc6 cc7 cc8 cc9 cc10 cc11 cc12 cc13 cx13 es eb ex
  have cx0 := H5.out.2.2.2.cell 0
  have cx1 := H5.out.2.2.2.cell 1
  have cx2 := H5.out.2.2.2.cell 2
  have cx3 := H5.out.2.2.2.cell 3
  have cx4 := H5.out.2.2.2.cell 4
  have cx5 := H5.out.2.2.2.cell 5
  have cx6 := H5.out.2.2.2.cell 6
  have cx7 := H5.out.2.2.2.cell 7
  have cx8 := H5.out.2.2.2.cell 8
  have cx9 := H5.out.2.2.2.cell 9
  have cx10 := H5.out.2.2.2.cell 10
  have cx11 := H5.out.2.2.2.cell 11
  have cx12 := H5.out.2.2.2.cell 12
  have cx13 := H5.out.2.2.2.cell 13
  simp [mv] at cx0 cx1 cx2 cx3 cx4 cx5 cx6 cx7 cx8 cx9 cx10 cx11 cx12 cx13
  go_wp2_with fail
  have K := put_e w5 ({ m with data := b }) t (HI.out.1.keep H5.out.1.2) H5.out.2.1
  rw [HPe.out.2] at K
  refine K.mono ?_
  clear K
  rintro e w6 ⟨A6, n6, c6, rfl, hb⟩
  have H6 := Lib.hid (And.intro (H5.out.1.keep hb) (And.intro (H5.out.2.1.keep hb) (And.intro (H5.out.2.2.1.keep hb) (H5.out.2.2.2.keep hb))))
  clear hb cx0 cx1 cx2 cx3 cx4 cx5 cx6 cx7 cx8 cx9 cx10 cx11 cx12 cx13
  have cy0 := H6.out.2.2.2.cell 0
  have cy1 := H6.out.2.2.2.cell 1
  have cy2 := H6.out.2.2.2.cell 2
  have cy3 := H6.out.2.2.2.cell 3
  have cy4 := H6.out.2.2.2.cell 4
  have cy5 := H6.out.2.2.2.cell 5
  have cy6 := H6.out.2.2.2.cell 6
  have cy7 := H6.out.2.2.2.cell 7
  have cy8 := H6.out.2.2.2.cell 8
  have cy9 := H6.out.2.2.2.cell 9
  have cy10 := H6.out.2.2.2.cell 10
  have cy11 := H6.out.2.2.2.cell 11
  have cy12 := H6.out.2.2.2.cell 12
  have cy13 := H6.out.2.2.2.cell 13
  simp [mv] at cy0 cy1 cy2 cy3 cy4 cy5 cy6 cy7 cy8 cy9 cy10 cy11 cy12 cy13
  go_wp2_with ((with_reducible show wpList _ _ _ ((⟨none, .store 27 (.tmp 13) (.tmp 70), _, _, _, _⟩ : Oper) :: _) _ _); refine wpList_store_msg w6 rfl (.tmp 13) (.tmp 70) rfl ({ m with data := b }) t rfl rfl ?_; intro w7 hb7 hw7; have hw8 : Below w6.heap.size w6 (w7.setCell ⟨w6.heap.size, 13, none⟩ (.slice s.da m.data.length s.dk)) := hw7.trans ((Fr.setCell (S := fun k => k = w6.heap.size) (Fr.refl _ w7) (p := ⟨w6.heap.size, 13, none⟩) (fun _ => rfl) _).below hw7.size fun k hk => by omega); have H7 := Lib.hid (And.intro (H6.out.1.keep hw7) hb7); have H8 := Lib.hid (show Bx w bx m s (w7.setCell ⟨w6.heap.size, 13, none⟩ (.slice s.da m.data.length s.dk)) ∧ MIn (w7.setCell ⟨w6.heap.size, 13, none⟩ (.slice s.da m.data.length s.dk)) (w7.setCell ⟨w6.heap.size, 13, none⟩ (.slice s.da m.data.length s.dk)).heap.size ({ m with data := b }) t ∧ Mem.Own (w7.setCell ⟨w6.heap.size, 13, none⟩ (.slice s.da m.data.length s.dk)) w2.heap.size 5 t.da t.dk (({ m with data := b } : Msg).data.map u8v) ∧ Blk (w7.setCell ⟨w6.heap.size, 13, none⟩ (.slice s.da m.data.length s.dk)) gx 27 (mv ({ m with data := b }) t) ∧ Blk (w7.setCell ⟨w6.heap.size, 13, none⟩ (.slice s.da m.data.length s.dk)) w6.heap.size 27 (mv m ⟨t.ia, t.ic, t.na, t.nc, s.da, s.dk⟩) from ⟨H6.out.1.keep hw8, H6.out.2.1.keep hw8, H6.out.2.2.1.keep hw8, H6.out.2.2.2.keep hw8, hb7.set_ 13 _⟩); clear hb7 hw7 hw8 cy0 cy1 cy2 cy3 cy4 cy5 cy6 cy7 cy8 cy9 cy10 cy11 cy12 cy13; obtain ⟨gy, hgy⟩ : ∃ x, w6.heap.size = x := ⟨_, rfl⟩; rw [hgy] at H7 H8 ⊢; clear hgy; have cm13 := H7.out.1.1.cell 13; have cv13 := H7.out.2.cell 13; have zy := H7.out.2.frozen 13; simp [mv] at cm13 cv13; have cz0 := H8.out.2.2.2.2.cell 0; have cz1 := H8.out.2.2.2.2.cell 1; have cz2 := H8.out.2.2.2.2.cell 2; have cz3 := H8.out.2.2.2.2.cell 3; have cz4 := H8.out.2.2.2.2.cell 4; have cz5 := H8.out.2.2.2.2.cell 5; have cz6 := H8.out.2.2.2.2.cell 6; have cz7 := H8.out.2.2.2.2.cell 7; have cz8 := H8.out.2.2.2.2.cell 8; have cz9 := H8.out.2.2.2.2.cell 9; have cz10 := H8.out.2.2.2.2.cell 10; have cz11 := H8.out.2.2.2.2.cell 11; have cz12 := H8.out.2.2.2.2.cell 12; have cz13 := H8.out.2.2.2.2.cell 13; simp [mv] at cz0 cz1 cz2 cz3 cz4 cz5 cz6 cz7 cz8 cz9 cz10 cz11 cz12 cz13; have cu0 := H8.out.1.1.cell 0; have cu1 := H8.out.1.1.cell 1; have cu2 := H8.out.1.1.cell 2; have cu3 := H8.out.1.1.cell 3; have cu4 := H8.out.1.1.cell 4; have cu5 := H8.out.1.1.cell 5; have cu6 := H8.out.1.1.cell 6; have cu7 := H8.out.1.1.cell 7; have cu8 := H8.out.1.1.cell 8; have cu9 := H8.out.1.1.cell 9; have cu10 := H8.out.1.1.cell 10; have cu11 := H8.out.1.1.cell 11; have cu12 := H8.out.1.1.cell 12; have cu13 := H8.out.1.1.cell 13; simp [mv] at cu0 cu1 cu2 cu3 cu4 cu5 cu6 cu7 cu8 cu9 cu10 cu11 cu12 cu13)
  have h8 := H8.out
  clear cm13 cv13 zy cz0 cz1 cz2 cz3 cz4 cz5 cz6 cz7 cz8 cz9 cz10 cz11 cz12 cz13 cu0 cu1 cu2 cu3 cu4 cu5 cu6 cu7 cu8 cu9 cu10 cu11 cu12 cu13
  obtain ⟨w8, hw8⟩ : ∃ x, w7.setCell ⟨gy, 13, none⟩ (.slice s.da m.data.length s.dk) = x := ⟨_, rfl⟩
  rw [hw8] at h8 ⊢
  refine (same_any w8 m m ⟨t.ia, t.ic, t.na, t.nc, s.da, s.dk⟩ s (by
    have h1 := HM.out.keep h8.1.2
    exact ⟨h8.2.1.ids, h8.2.1.nodes, h1.data, h1.kind, h1.lk, h1.li, h1.ln, h1.ld, h1.lik⟩) (HM.out.keep h8.1.2)).mono ?_
  rintro e w9 ⟨rfl, hb⟩
  rw [same_refl]
  have H9 := Lib.hid (And.intro (h8.1.keep hb) (And.intro (h8.2.2.1.keep hb) (h8.2.2.2.1.keep hb)))
  clear hb h8 hw8 H8 H7 H6 H5 H4
  go_wp2_with fail
  obtain ⟨L, hL⟩ : ∃ L, ({ m with data := b } : Msg).data.length = L := ⟨_, rfl⟩
  have HL := Lib.hid hL
  go_loopw [15] (fun i wq => ∃ (j : Nat) (l1 : List UInt8), i = .int .i64 (j : Int) ∧ j ≤ L ∧ l1.length = L ∧ Mem.Own wq w2.heap.size 5 t.da t.dk (l1.map u8v) ∧ Blk wq gx 27 (mv ({ m with data := b }) t) ∧ Bx w bx m s wq) (fun i _ => L - (intOf i).toNat)
  case atStart => exact ⟨0, _, rfl, Nat.zero_le _, hL, H9.out.2.1, H9.out.2.2, H9.out.1⟩
  case round =>
    clear H9
    obtain ⟨j, l1, rfl, hj, hl1, ho, hx, hB⟩ := hrel
    have HX := Lib.hid (And.intro hx (And.intro hB ho))
    have HL1 := Lib.hid hl1
    have cx13 := hx.cell 13
    simp [mv] at cx13
    rw [HL.out] at cx13
    clear hx hB
    by_cases hjl : j < L
    · have hii : (j : Int) < (L : Int) := by omega
      have h0 : (0 : Int) ≤ (j : Int) := by omega
      obtain ⟨g, e, hbg, hlt, hc', hz, hset⟩ := ho.at_ (k := j) (by rw [List.length_map]; omega)
      obtain ⟨x, hx⟩ : ∃ x, l1[j]'(by omega) = x := ⟨_, rfl⟩
      have hc : wr.cell? ⟨g, j, none⟩ = some (.int .u8 (x.toNat : Int)) := by rw [hc', List.getElem_map, hx]; rfl
      have hw : IntKind.u8.wrap ((x.toNat : Int) + 1) = ((x + 1).toNat : Int) := by
        have := x.toNat_lt
        rw [UInt8.toNat_add]
        show ((x.toNat : Int) + 1) % 256 = (((x.toNat + 1) % 256 : Nat) : Int)
        omega
      have HR := Lib.hid (show Mem.Own (wr.setCell ⟨g, j, none⟩ (.int .u8 ((x + 1).toNat : Int))) w2.heap.size 5 t.da t.dk ((l1.set j (x + 1)).map u8v) from by rw [List.map_set]; exact hset _)
      have hfr : Fr (fun k => k = g) wr (wr.setCell ⟨g, j, none⟩ (.int .u8 ((x + 1).toNat : Int))) := (Fr.refl (fun k => k = g) wr).setCell (p := ⟨g, j, none⟩) (fun _ => rfl) _
      have hg2 : bx < w2.heap.size := H2.out.1.lt
      have HN := Lib.hid (show Blk (wr.setCell ⟨g, j, none⟩ (.int .u8 ((x + 1).toNat : Int))) gx 27 (mv ({ m with data := b }) t) ∧ Bx w bx m s (wr.setCell ⟨g, j, none⟩ (.int .u8 ((x + 1).toNat : Int))) from
        ⟨HX.out.1.fr hfr (fun h => HX.out.1.ne_own ho (by decide) g e h.symm), HX.out.2.1.1.fr hfr (by omega), HX.out.2.1.2.trans (hfr.below HX.out.2.1.2.size fun k hk => by have := H2.out.2.size; omega)⟩)
      rw [e] at cx13
      clear hc' hset hx hlt ho hl1 hfr hg2 hL e
      have HT := Lib.hid (And.intro cx13 (And.intro hc hz))
      have HW := Lib.hid (show ((x.toNat : Int) + 1) % 256 = ((x + 1).toNat : Int) from hw)
      have hL3 : L ≤ 3000 := by rw [← HL.out]; first | exact HF.out.2 | exact HD.out
      have hL3 : (L : Int) ≤ 3000 := by omega
      go_wp2_with fail
      refine wp_region_noPanic ?_
      refine wp_heldG (fun V => V.cell? ⟨gx, 13, none⟩ = some (.slice (some ⟨g, 0, none⟩) L t.dk) ∧ V.cell? ⟨g, j, none⟩ = some (.int .u8 (x.toNat : Int)) ∧ V.frozen? ⟨g, j, none⟩ = false) [10] (by kernel_rfl) ?hs0 ?rg0
      case hs0 =>
        exact HT.out
      case rg0 =>
      intro hHeld
      refine wpAnyG_pure (i := 0) (oi := { dst := some 84, op := Op.fieldAddr 27 (Operand.tmp 6) 13, type := 0, pos := _, after := #[], guard := none }) (v := ?_) rfl (by kernel_rfl) (by kernel_rfl) (by kernel_rfl) (by kernel_rfl) (fun _ _ _ h => h) (Or.inl ⟨by rfl, ?_⟩) (fun _ => by assumption) ?_
      rotate_left
      · intro w hSw
        try dsimp only at hSw
        go_simp
        try with_reducible rfl
      try simp only [Act.put, List.setIfInBounds_toArray, List.set_cons_zero, List.set_cons_succ]
      refine wpAnyG_take (i := 1) (oi := { dst := some 85, op := Op.load 25 (Operand.tmp 84), type := 25, pos := _, after := #[{ on := 0, ground := Ground.data }], guard := none }) (v := ?_) rfl (by kernel_rfl) (by kernel_rfl) (by kernel_rfl) (by kernel_rfl) (fun _ _ _ h => h) (Or.inl ⟨by rfl, ?_⟩) (by assumption) ?_
      rotate_left
      · intro w hSw
        try dsimp only at hSw
        go_simp
        try with_reducible rfl
      try simp only [Act.put, List.setIfInBounds_toArray, List.set_cons_zero, List.set_cons_succ]
      refine wpAnyG_pure (i := 2) (oi := { dst := some 86, op := Op.move (Operand.tmp 15), type := 3, pos := _, after := #[], guard := none }) (v := ?_) rfl (by kernel_rfl) (by kernel_rfl) (by kernel_rfl) (by kernel_rfl) (fun _ _ _ h => h) (Or.inl ⟨by rfl, ?_⟩) (fun _ => by assumption) ?_
      rotate_left
      · intro w hSw
        try dsimp only at hSw
        go_simp
        try with_reducible rfl
      try simp only [Act.put, List.setIfInBounds_toArray, List.set_cons_zero, List.set_cons_succ]
      refine wpAnyG_pure (i := 3) (oi := { dst := some 87, op := Op.fieldAddr 27 (Operand.tmp 6) 13, type := 0, pos := _, after := #[], guard := none }) (v := ?_) rfl (by kernel_rfl) (by kernel_rfl) (by kernel_rfl) (by kernel_rfl) (fun _ _ _ h => h) (Or.inl ⟨by rfl, ?_⟩) (fun _ => by assumption) ?_
      rotate_left
      · intro w hSw
        try dsimp only at hSw
        go_simp
        try with_reducible rfl
      try simp only [Act.put, List.setIfInBounds_toArray, List.set_cons_zero, List.set_cons_succ]
      refine wpAnyG_take (i := 4) (oi := { dst := some 88, op := Op.load 25 (Operand.tmp 87), type := 25, pos := _, after := #[{ on := 3, ground := Ground.data }], guard := none }) (v := ?_) rfl (by kernel_rfl) (by kernel_rfl) (by kernel_rfl) (by kernel_rfl) (fun _ _ _ h => h) (Or.inl ⟨by rfl, ?_⟩) (by assumption) ?_
      rotate_left
      · intro w hSw
        try dsimp only at hSw
        go_simp
        try with_reducible rfl
      try simp only [Act.put, List.setIfInBounds_toArray, List.set_cons_zero, List.set_cons_succ]
      refine wpAnyG_pure (i := 5) (oi := { dst := some 89, op := Op.move (Operand.tmp 15), type := 3, pos := _, after := #[], guard := none }) (v := ?_) rfl (by kernel_rfl) (by kernel_rfl) (by kernel_rfl) (by kernel_rfl) (fun _ _ _ h => h) (Or.inl ⟨by rfl, ?_⟩) (fun _ => by assumption) ?_
      rotate_left
      · intro w hSw
        try dsimp only at hSw
        go_simp
        try with_reducible rfl
      try simp only [Act.put, List.setIfInBounds_toArray, List.set_cons_zero, List.set_cons_succ]
      refine wpAnyG_pure (i := 6) (oi := { dst := some 90, op := Op.indexAddr 25 (Operand.tmp 88) (Operand.tmp 89), type := 0, pos := _, after := #[{ on := 4, ground := Ground.data }, { on := 5, ground := Ground.data }], guard := none }) (v := ?_) rfl (by kernel_rfl) (by kernel_rfl) (by kernel_rfl) (by kernel_rfl) (fun _ _ _ h => h) (Or.inl ⟨by rfl, ?_⟩) (fun _ => by assumption) ?_
      rotate_left
      · intro w hSw
        try dsimp only at hSw
        go_simp
        try with_reducible rfl
      try simp only [Act.put, List.setIfInBounds_toArray, List.set_cons_zero, List.set_cons_succ]
      refine wpAnyG_take (i := 7) (oi := { dst := some 91, op := Op.load 5 (Operand.tmp 90), type := 5, pos := _, after := #[{ on := 6, ground := Ground.data }], guard := none }) (v := ?_) rfl (by kernel_rfl) (by kernel_rfl) (by kernel_rfl) (by kernel_rfl) (fun _ _ _ h => h) (Or.inl ⟨by rfl, ?_⟩) (by assumption) ?_
      rotate_left
      · intro w hSw
        try dsimp only at hSw
        go_simp
        try with_reducible rfl
      try simp only [Act.put, List.setIfInBounds_toArray, List.set_cons_zero, List.set_cons_succ]
      refine wpAnyG_pure (i := 8) (oi := { dst := some 92, op := Op.binOp BinOp.add 5 (Operand.tmp 91) (Operand.const (Value.int IntKind.u8 1)) 5, type := 5, pos := _, after := #[{ on := 7, ground := Ground.data }], guard := none }) (v := ?_) rfl (by kernel_rfl) (by kernel_rfl) (by kernel_rfl) (by kernel_rfl) (fun _ _ _ h => h) (Or.inl ⟨by rfl, ?_⟩) (fun _ => by assumption) ?_
      rotate_left
      · intro w hSw
        try dsimp only at hSw
        go_simp
        try with_reducible rfl
      try simp only [Act.put, List.setIfInBounds_toArray, List.set_cons_zero, List.set_cons_succ]
      refine wpAnyG_pure (i := 9) (oi := { dst := some 93, op := Op.indexAddr 25 (Operand.tmp 85) (Operand.tmp 86), type := 0, pos := _, after := #[{ on := 1, ground := Ground.data }, { on := 2, ground := Ground.data }, { on := 0, ground := Ground.phase }, { on := 1, ground := Ground.phase }, { on := 2, ground := Ground.phase }, { on := 3, ground := Ground.phase }, { on := 4, ground := Ground.phase }, { on := 5, ground := Ground.phase }, { on := 6, ground := Ground.phase }, { on := 7, ground := Ground.phase }, { on := 8, ground := Ground.phase }], guard := none }) (v := ?_) rfl (by kernel_rfl) (by kernel_rfl) (by kernel_rfl) (by kernel_rfl) (fun _ _ _ h => h) (Or.inl ⟨by rfl, ?_⟩) (fun _ => by assumption) ?_
      rotate_left
      · intro w hSw
        try dsimp only at hSw
        go_simp
        try with_reducible rfl
      try simp only [Act.put, List.setIfInBounds_toArray, List.set_cons_zero, List.set_cons_succ]
      refine wpAnyG_one (i := 10) (o := { dst := none, op := Op.store 5 (Operand.tmp 93) (Operand.tmp 92), type := 0, pos := _, after := #[{ on := 9, ground := Ground.data }, { on := 8, ground := Ground.data }, { on := 0, ground := Ground.phase }, { on := 1, ground := Ground.phase }, { on := 2, ground := Ground.phase }, { on := 3, ground := Ground.phase }, { on := 4, ground := Ground.phase }, { on := 5, ground := Ground.phase }, { on := 6, ground := Ground.phase }, { on := 7, ground := Ground.phase }, { on := 8, ground := Ground.phase }], guard := none }) (by kernel_rfl) rfl (fun K hK => ?_)
      have c0 : wr.drew.cell? ⟨g, j, none⟩ = some (.int .u8 (x.toNat : Int)) := HT.out.2.1
      have z0 : wr.drew.frozen? ⟨g, j, none⟩ = false := HT.out.2.2
      go_simp
      try dsimp only
      refine hK.out _ _ ?_ (fun hHeld => ?_)
      · exact fun h => (st_no (by kernel_rfl) h).elim
      clear hK K
      try simp only [Act.put, List.setIfInBounds_toArray, List.set_cons_zero, List.set_cons_succ]
      clear hHeld
      refine wpAnyG_done (by kernel_rfl) ?_ _
      refine NoPanic.normal ?_
      go_wp2_with fail
      go_roundw
      case rel =>
        rw [HW.out]
        exact ⟨j + 1, l1.set j (x + 1), by simp, by omega, by rw [List.length_set]; exact HL1.out, HR.out.keep (nextN (Mem.start _) 1), HN.out.1.keep (nextN (Mem.start _) 1), HN.out.2.keep (nextN (Mem.start _) 1)⟩
      case measure => simp [intOf]; omega
    · obtain rfl : j = L := by omega
      have H10 := Lib.hid HX.out.2.1
      have cm13 := H10.out.1.cell 13
      simp [mv] at cm13
      have es := run_str (P := Tryd.prog) wr 25 5 Tryd.underlying25 Tryd.underlying5 (HI.out.2.1.keep H10.out.2).data s.dk 9 Tryd.underlying9
      clear hL ho hl1
      by_cases hp : p1 = 0
      · have hp2 := HP.out hp
        clear HP
        subst hp
        subst hp2
        go_wp2_with fail
        refine (works_any wr (HI.out.1.keep H10.out.2)).mono ?_
        rintro e w11 ⟨rfl, hb⟩
        have H11 := Lib.hid (next H10.out.2 hb)
        clear hb
        go_wp2_with fail
        go_ret
        exact ⟨rfl, H11.out⟩
      · have dp : (p1 != 0) = true := by rw [bne_iff_ne]; exact hp
        clear hp HP
        go_wp2_with fail
        refine (works_any wr (HI.out.1.keep H10.out.2)).mono ?_
        rintro e w11 ⟨rfl, hb⟩
        have H11 := Lib.hid (next H10.out.2 hb)
        clear hb
        go_wp2_with fail
        go_ret
        exact ⟨rfl, H11.out⟩
set_option maxRecDepth 100000 in
set_option maxHeartbeats 16000000 in
theorem lies_c (w : World) (hT : HasT w) (m : Msg) (s : Sl) (hm : MIn0 w w.heap.size m s) (A : Option Addr) (b : List UInt8) (c : Nat) (hb : Bytes w w.heap.size A b) (hf : few m = true) (hbl : b.length ≤ 3000) (hk : ¬ m.kind = 9 ∧ ¬ m.kind = 20) :
    Calls Tryd.prog 7 #[.agg (mv m s), .slice A b.length c] w fun e w' => e = .returned (.bool true) ∧ Below w.heap.size w w' := by
  obtain ⟨bx, hbx⟩ : ∃ bx, w.heap.size = bx := ⟨_, rfl⟩
  obtain ⟨w1, hw1⟩ : ∃ x : World, w.alloc (.cells (mv m s) 27) = x := ⟨_, rfl⟩
  have hb1 : Below w.heap.size w w1 := by rw [← hw1]; exact nextA (Mem.start w) _
  have H1 := Lib.hid (show Bx w bx m s w1 by
    rw [← hw1, ← hbx]
    exact ⟨Blk.new w _ _, nextA (Mem.start w) _⟩)
  have HI := Lib.hid (And.intro hT (And.intro hm hb))
  have HF := Lib.hid (And.intro hf hbl)
  have HM := Lib.hid (hm.small hf)
  have HK := Lib.hid (show tells m.kind = false ∧ lie m b = m by
    have h1 : tells m.kind = false := by simp [tells, *]
    exact ⟨h1, by unfold lie; rw [h1]; rfl⟩)
  obtain ⟨p1, hp1⟩ : ∃ p1, pe m = p1 := ⟨_, rfl⟩
  obtain ⟨p2, hp2⟩ : ∃ p2, pe (m) = p2 := ⟨_, rfl⟩
  have HPe := Lib.hid (And.intro hp1 hp2)
  have HP := Lib.hid (show p1 = 0 → p2 = 0 by
    have h := may_lie m b hbl
    first
    | (rw [HK.out.2, hp1, hp2] at h; exact h)
    | (intro h0; rw [← hp2, hp1]; exact h0))
  clear hp1 hp2
  have HD := Lib.hid (show m.data.length ≤ 3000 from ((few_iff m).1 hf).2.2.1)
  have e9 : ((m.kind : Int) == 9) = false := by rw [beq_eq_false_iff_ne]; omega
  have e20 : ((m.kind : Int) == 20) = false := by rw [beq_eq_false_iff_ne]; omega
  have dl : decide ((3000 : Int) < ((b.length : Nat) : Int)) = false := decide_eq_false (by omega)
  have ca0 := H1.out.1.cell 0
  have ca1 := H1.out.1.cell 1
  have ca2 := H1.out.1.cell 2
  have ca3 := H1.out.1.cell 3
  have ca4 := H1.out.1.cell 4
  have ca5 := H1.out.1.cell 5
  have ca6 := H1.out.1.cell 6
  have ca7 := H1.out.1.cell 7
  have ca8 := H1.out.1.cell 8
  have ca9 := H1.out.1.cell 9
  have ca10 := H1.out.1.cell 10
  have ca11 := H1.out.1.cell 11
  have ca12 := H1.out.1.cell 12
  have ca13 := H1.out.1.cell 13
  simp [mv] at ca0 ca1 ca2 ca3 ca4 ca5 ca6 ca7 ca8 ca9 ca10 ca11 ca12 ca13
  clear hT hm hb hb1 hf hbl hk
  go_enter Tryd.func7, Tryd.ntmps7
  go_wp2_with fail
  refine (few_any w1 m s (HI.out.2.1.keep H1.out.2)).mono ?_
  rintro e w2 ⟨rfl, hb⟩
  rw [HF.out.1]
  have H2 := Lib.hid (H1.out.keep hb)
  have HB2 := Lib.hid (HI.out.2.1.keep H2.out.2).data
  have es := run_str (P := Tryd.prog) w2 25 5 Tryd.underlying25 Tryd.underlying5 HB2.out s.dk 9 Tryd.underlying9
  clear hb ca0 ca1 ca2 ca3 ca4 ca5 ca6 ca7 ca8 ca9 ca10 ca11 ca12 ca13 hw1 hbx
  have cb0 := H2.out.1.cell 0
  have cb1 := H2.out.1.cell 1
  have cb2 := H2.out.1.cell 2
  have cb3 := H2.out.1.cell 3
  have cb4 := H2.out.1.cell 4
  have cb5 := H2.out.1.cell 5
  have cb6 := H2.out.1.cell 6
  have cb7 := H2.out.1.cell 7
  have cb8 := H2.out.1.cell 8
  have cb9 := H2.out.1.cell 9
  have cb10 := H2.out.1.cell 10
  have cb11 := H2.out.1.cell 11
  have cb12 := H2.out.1.cell 12
  have cb13 := H2.out.1.cell 13
  simp [mv] at cb0 cb1 cb2 cb3 cb4 cb5 cb6 cb7 cb8 cb9 cb10 cb11 cb12 cb13
  go_wp2_with fail
  refine (lie_any w2 m s (HM.out.keep H2.out.2) A b b.length c rfl (by have := HF.out.2; omega) ((HI.out.2.2.below H2.out.2).up H2.out.2.size)).mono ?_
  rintro e w3 ⟨t, rfl, hM, ho, hb⟩
  rw [HK.out.2] at hM ho ⊢
  have H3 := Lib.hid (And.intro (H2.out.keep hb) (And.intro hM ho))
  clear hM ho hb es cb0 cb1 cb2 cb3 cb4 cb5 cb6 cb7 cb8 cb9 cb10 cb11 cb12 cb13
  go_wp2_with ((with_reducible show wpList _ _ _ ((⟨none, .store 27 (.tmp 6) (.tmp 30), _, _, _, _⟩ : Oper) :: _) _ _); refine wpList_store_msg w3 rfl (.tmp 6) (.tmp 30) rfl (m) t rfl rfl ?_; intro w4 hb4 hw4; have H4 := Lib.hid (And.intro (H3.out.1.keep hw4) (And.intro (H3.out.2.1.keep hw4) (And.intro (H3.out.2.2.keep hw4) hb4))); clear hb4 hw4; obtain ⟨gx, hgx⟩ : ∃ x, w3.heap.size = x := ⟨_, rfl⟩; rw [hgx] at H4 ⊢; have HG := Lib.hid hgx; clear hgx; have c0 := H4.out.1.1.cell 0; simp [mv] at c0)
  refine (tells_any w4 m.kind).mono ?_
  rintro e w5 ⟨rfl, rfl⟩
  rw [HK.out.1]
  have cc0 := H4.out.1.1.cell 0
  have cc1 := H4.out.1.1.cell 1
  have cc2 := H4.out.1.1.cell 2
  have cc3 := H4.out.1.1.cell 3
  have cc4 := H4.out.1.1.cell 4
  have cc5 := H4.out.1.1.cell 5
  have cc6 := H4.out.1.1.cell 6
  have cc7 := H4.out.1.1.cell 7
  have cc8 := H4.out.1.1.cell 8
  have cc9 := H4.out.1.1.cell 9
  have cc10 := H4.out.1.1.cell 10
  have cc11 := H4.out.1.1.cell 11
  have cc12 := H4.out.1.1.cell 12
  have cc13 := H4.out.1.1.cell 13
  simp [mv] at cc0 cc1 cc2 cc3 cc4 cc5 cc6 cc7 cc8 cc9 cc10 cc11 cc12 cc13
  have cx13 := H4.out.2.2.2.cell 13
  simp [mv] at cx13
  have es := run_str (P := Tryd.prog) w4 25 5 Tryd.underlying25 Tryd.underlying5 (HI.out.2.1.keep H4.out.1.2).data s.dk 9 Tryd.underlying9
  have eb := run_str (P := Tryd.prog) w4 25 5 Tryd.underlying25 Tryd.underlying5 (HI.out.2.2.below H4.out.1.2) c 9 Tryd.underlying9
  have ex := run_str (P := Tryd.prog) w4 25 5 Tryd.underlying25 Tryd.underlying5 H4.out.2.1.data t.dk 9 Tryd.underlying9
  go_wp2_with fail
  have K := put_e w4 m s (HI.out.1.keep H4.out.1.2) (HM.out.keep H4.out.1.2)
  rw [HPe.out.1] at K
  refine K.mono ?_
  clear K
  rintro e w5 ⟨A5, n5, c5, rfl, hb⟩
  have H5 := Lib.hid (And.intro (H4.out.1.keep hb) (And.intro (H4.out.2.1.keep hb) (And.intro (H4.out.2.2.1.keep hb) (H4.out.2.2.2.keep hb))))
  clear hb cc0 cc1 cc2 cc3 cc4 cc5 cc6 cc7 cc8 cc9 cc10 cc11 cc12 cc13 cx13 es eb ex
  have cx0 := H5.out.2.2.2.cell 0
  have cx1 := H5.out.2.2.2.cell 1
  have cx2 := H5.out.2.2.2.cell 2
  have cx3 := H5.out.2.2.2.cell 3
  have cx4 := H5.out.2.2.2.cell 4
  have cx5 := H5.out.2.2.2.cell 5
  have cx6 := H5.out.2.2.2.cell 6
  have cx7 := H5.out.2.2.2.cell 7
  have cx8 := H5.out.2.2.2.cell 8
  have cx9 := H5.out.2.2.2.cell 9
  have cx10 := H5.out.2.2.2.cell 10
  have cx11 := H5.out.2.2.2.cell 11
  have cx12 := H5.out.2.2.2.cell 12
  have cx13 := H5.out.2.2.2.cell 13
  simp [mv] at cx0 cx1 cx2 cx3 cx4 cx5 cx6 cx7 cx8 cx9 cx10 cx11 cx12 cx13
  go_wp2_with fail
  have K := put_e w5 (m) t (HI.out.1.keep H5.out.1.2) H5.out.2.1
  rw [HPe.out.2] at K
  refine K.mono ?_
  clear K
  rintro e w6 ⟨A6, n6, c6, rfl, hb⟩
  have H6 := Lib.hid (And.intro (H5.out.1.keep hb) (And.intro (H5.out.2.1.keep hb) (And.intro (H5.out.2.2.1.keep hb) (H5.out.2.2.2.keep hb))))
  clear hb cx0 cx1 cx2 cx3 cx4 cx5 cx6 cx7 cx8 cx9 cx10 cx11 cx12 cx13
  have cy0 := H6.out.2.2.2.cell 0
  have cy1 := H6.out.2.2.2.cell 1
  have cy2 := H6.out.2.2.2.cell 2
  have cy3 := H6.out.2.2.2.cell 3
  have cy4 := H6.out.2.2.2.cell 4
  have cy5 := H6.out.2.2.2.cell 5
  have cy6 := H6.out.2.2.2.cell 6
  have cy7 := H6.out.2.2.2.cell 7
  have cy8 := H6.out.2.2.2.cell 8
  have cy9 := H6.out.2.2.2.cell 9
  have cy10 := H6.out.2.2.2.cell 10
  have cy11 := H6.out.2.2.2.cell 11
  have cy12 := H6.out.2.2.2.cell 12
  have cy13 := H6.out.2.2.2.cell 13
  simp [mv] at cy0 cy1 cy2 cy3 cy4 cy5 cy6 cy7 cy8 cy9 cy10 cy11 cy12 cy13
  go_wp2_with ((with_reducible show wpList _ _ _ ((⟨none, .store 27 (.tmp 13) (.tmp 70), _, _, _, _⟩ : Oper) :: _) _ _); refine wpList_store_msg w6 rfl (.tmp 13) (.tmp 70) rfl (m) t rfl rfl ?_; intro w7 hb7 hw7; have hw8 : Below w6.heap.size w6 (w7.setCell ⟨w6.heap.size, 13, none⟩ (.slice s.da m.data.length s.dk)) := hw7.trans ((Fr.setCell (S := fun k => k = w6.heap.size) (Fr.refl _ w7) (p := ⟨w6.heap.size, 13, none⟩) (fun _ => rfl) _).below hw7.size fun k hk => by omega); have H7 := Lib.hid (And.intro (H6.out.1.keep hw7) hb7); have H8 := Lib.hid (show Bx w bx m s (w7.setCell ⟨w6.heap.size, 13, none⟩ (.slice s.da m.data.length s.dk)) ∧ MIn (w7.setCell ⟨w6.heap.size, 13, none⟩ (.slice s.da m.data.length s.dk)) (w7.setCell ⟨w6.heap.size, 13, none⟩ (.slice s.da m.data.length s.dk)).heap.size (m) t ∧ Mem.Own (w7.setCell ⟨w6.heap.size, 13, none⟩ (.slice s.da m.data.length s.dk)) w2.heap.size 5 t.da t.dk ((m : Msg).data.map u8v) ∧ Blk (w7.setCell ⟨w6.heap.size, 13, none⟩ (.slice s.da m.data.length s.dk)) gx 27 (mv (m) t) ∧ Blk (w7.setCell ⟨w6.heap.size, 13, none⟩ (.slice s.da m.data.length s.dk)) w6.heap.size 27 (mv m ⟨t.ia, t.ic, t.na, t.nc, s.da, s.dk⟩) from ⟨H6.out.1.keep hw8, H6.out.2.1.keep hw8, H6.out.2.2.1.keep hw8, H6.out.2.2.2.keep hw8, hb7.set_ 13 _⟩); clear hb7 hw7 hw8 cy0 cy1 cy2 cy3 cy4 cy5 cy6 cy7 cy8 cy9 cy10 cy11 cy12 cy13; obtain ⟨gy, hgy⟩ : ∃ x, w6.heap.size = x := ⟨_, rfl⟩; rw [hgy] at H7 H8 ⊢; clear hgy; have cm13 := H7.out.1.1.cell 13; have cv13 := H7.out.2.cell 13; have zy := H7.out.2.frozen 13; simp [mv] at cm13 cv13; have cz0 := H8.out.2.2.2.2.cell 0; have cz1 := H8.out.2.2.2.2.cell 1; have cz2 := H8.out.2.2.2.2.cell 2; have cz3 := H8.out.2.2.2.2.cell 3; have cz4 := H8.out.2.2.2.2.cell 4; have cz5 := H8.out.2.2.2.2.cell 5; have cz6 := H8.out.2.2.2.2.cell 6; have cz7 := H8.out.2.2.2.2.cell 7; have cz8 := H8.out.2.2.2.2.cell 8; have cz9 := H8.out.2.2.2.2.cell 9; have cz10 := H8.out.2.2.2.2.cell 10; have cz11 := H8.out.2.2.2.2.cell 11; have cz12 := H8.out.2.2.2.2.cell 12; have cz13 := H8.out.2.2.2.2.cell 13; simp [mv] at cz0 cz1 cz2 cz3 cz4 cz5 cz6 cz7 cz8 cz9 cz10 cz11 cz12 cz13; have cu0 := H8.out.1.1.cell 0; have cu1 := H8.out.1.1.cell 1; have cu2 := H8.out.1.1.cell 2; have cu3 := H8.out.1.1.cell 3; have cu4 := H8.out.1.1.cell 4; have cu5 := H8.out.1.1.cell 5; have cu6 := H8.out.1.1.cell 6; have cu7 := H8.out.1.1.cell 7; have cu8 := H8.out.1.1.cell 8; have cu9 := H8.out.1.1.cell 9; have cu10 := H8.out.1.1.cell 10; have cu11 := H8.out.1.1.cell 11; have cu12 := H8.out.1.1.cell 12; have cu13 := H8.out.1.1.cell 13; simp [mv] at cu0 cu1 cu2 cu3 cu4 cu5 cu6 cu7 cu8 cu9 cu10 cu11 cu12 cu13)
  have h8 := H8.out
  clear cm13 cv13 zy cz0 cz1 cz2 cz3 cz4 cz5 cz6 cz7 cz8 cz9 cz10 cz11 cz12 cz13 cu0 cu1 cu2 cu3 cu4 cu5 cu6 cu7 cu8 cu9 cu10 cu11 cu12 cu13
  obtain ⟨w8, hw8⟩ : ∃ x, w7.setCell ⟨gy, 13, none⟩ (.slice s.da m.data.length s.dk) = x := ⟨_, rfl⟩
  rw [hw8] at h8 ⊢
  refine (same_any w8 m m ⟨t.ia, t.ic, t.na, t.nc, s.da, s.dk⟩ s (by
    have h1 := HM.out.keep h8.1.2
    exact ⟨h8.2.1.ids, h8.2.1.nodes, h1.data, h1.kind, h1.lk, h1.li, h1.ln, h1.ld, h1.lik⟩) (HM.out.keep h8.1.2)).mono ?_
  rintro e w9 ⟨rfl, hb⟩
  rw [same_refl]
  have H9 := Lib.hid (And.intro (h8.1.keep hb) (And.intro (h8.2.2.1.keep hb) (h8.2.2.2.1.keep hb)))
  clear hb h8 hw8 H8 H7 H6 H5 H4
  go_wp2_with fail
  obtain ⟨L, hL⟩ : ∃ L, (m : Msg).data.length = L := ⟨_, rfl⟩
  have HL := Lib.hid hL
  go_loopw [15] (fun i wq => ∃ (j : Nat) (l1 : List UInt8), i = .int .i64 (j : Int) ∧ j ≤ L ∧ l1.length = L ∧ Mem.Own wq w2.heap.size 5 t.da t.dk (l1.map u8v) ∧ Blk wq gx 27 (mv (m) t) ∧ Bx w bx m s wq) (fun i _ => L - (intOf i).toNat)
  case atStart => exact ⟨0, _, rfl, Nat.zero_le _, hL, H9.out.2.1, H9.out.2.2, H9.out.1⟩
  case round =>
    clear H9
    obtain ⟨j, l1, rfl, hj, hl1, ho, hx, hB⟩ := hrel
    have HX := Lib.hid (And.intro hx (And.intro hB ho))
    have HL1 := Lib.hid hl1
    have cx13 := hx.cell 13
    simp [mv] at cx13
    rw [HL.out] at cx13
    clear hx hB
    by_cases hjl : j < L
    · have hii : (j : Int) < (L : Int) := by omega
      have h0 : (0 : Int) ≤ (j : Int) := by omega
      obtain ⟨g, e, hbg, hlt, hc', hz, hset⟩ := ho.at_ (k := j) (by rw [List.length_map]; omega)
      obtain ⟨x, hx⟩ : ∃ x, l1[j]'(by omega) = x := ⟨_, rfl⟩
      have hc : wr.cell? ⟨g, j, none⟩ = some (.int .u8 (x.toNat : Int)) := by rw [hc', List.getElem_map, hx]; rfl
      have hw : IntKind.u8.wrap ((x.toNat : Int) + 1) = ((x + 1).toNat : Int) := by
        have := x.toNat_lt
        rw [UInt8.toNat_add]
        show ((x.toNat : Int) + 1) % 256 = (((x.toNat + 1) % 256 : Nat) : Int)
        omega
      have HR := Lib.hid (show Mem.Own (wr.setCell ⟨g, j, none⟩ (.int .u8 ((x + 1).toNat : Int))) w2.heap.size 5 t.da t.dk ((l1.set j (x + 1)).map u8v) from by rw [List.map_set]; exact hset _)
      have hfr : Fr (fun k => k = g) wr (wr.setCell ⟨g, j, none⟩ (.int .u8 ((x + 1).toNat : Int))) := (Fr.refl (fun k => k = g) wr).setCell (p := ⟨g, j, none⟩) (fun _ => rfl) _
      have hg2 : bx < w2.heap.size := H2.out.1.lt
      have HN := Lib.hid (show Blk (wr.setCell ⟨g, j, none⟩ (.int .u8 ((x + 1).toNat : Int))) gx 27 (mv (m) t) ∧ Bx w bx m s (wr.setCell ⟨g, j, none⟩ (.int .u8 ((x + 1).toNat : Int))) from
        ⟨HX.out.1.fr hfr (fun h => HX.out.1.ne_own ho (by decide) g e h.symm), HX.out.2.1.1.fr hfr (by omega), HX.out.2.1.2.trans (hfr.below HX.out.2.1.2.size fun k hk => by have := H2.out.2.size; omega)⟩)
      rw [e] at cx13
      clear hc' hset hx hlt ho hl1 hfr hg2 hL e
      have HT := Lib.hid (And.intro cx13 (And.intro hc hz))
      have HW := Lib.hid (show ((x.toNat : Int) + 1) % 256 = ((x + 1).toNat : Int) from hw)
      have hL3 : L ≤ 3000 := by rw [← HL.out]; first | exact HF.out.2 | exact HD.out
      have hL3 : (L : Int) ≤ 3000 := by omega
      go_wp2_with fail
      refine wp_region_noPanic ?_
      refine wp_heldG (fun V => V.cell? ⟨gx, 13, none⟩ = some (.slice (some ⟨g, 0, none⟩) L t.dk) ∧ V.cell? ⟨g, j, none⟩ = some (.int .u8 (x.toNat : Int)) ∧ V.frozen? ⟨g, j, none⟩ = false) [10] (by kernel_rfl) ?hs0 ?rg0
      case hs0 =>
        exact HT.out
      case rg0 =>
      intro hHeld
      refine wpAnyG_pure (i := 0) (oi := { dst := some 84, op := Op.fieldAddr 27 (Operand.tmp 6) 13, type := 0, pos := _, after := #[], guard := none }) (v := ?_) rfl (by kernel_rfl) (by kernel_rfl) (by kernel_rfl) (by kernel_rfl) (fun _ _ _ h => h) (Or.inl ⟨by rfl, ?_⟩) (fun _ => by assumption) ?_
      rotate_left
      · intro w hSw
        try dsimp only at hSw
        go_simp
        try with_reducible rfl
      try simp only [Act.put, List.setIfInBounds_toArray, List.set_cons_zero, List.set_cons_succ]
      refine wpAnyG_take (i := 1) (oi := { dst := some 85, op := Op.load 25 (Operand.tmp 84), type := 25, pos := _, after := #[{ on := 0, ground := Ground.data }], guard := none }) (v := ?_) rfl (by kernel_rfl) (by kernel_rfl) (by kernel_rfl) (by kernel_rfl) (fun _ _ _ h => h) (Or.inl ⟨by rfl, ?_⟩) (by assumption) ?_
      rotate_left
      · intro w hSw
        try dsimp only at hSw
        go_simp
        try with_reducible rfl
      try simp only [Act.put, List.setIfInBounds_toArray, List.set_cons_zero, List.set_cons_succ]
      refine wpAnyG_pure (i := 2) (oi := { dst := some 86, op := Op.move (Operand.tmp 15), type := 3, pos := _, after := #[], guard := none }) (v := ?_) rfl (by kernel_rfl) (by kernel_rfl) (by kernel_rfl) (by kernel_rfl) (fun _ _ _ h => h) (Or.inl ⟨by rfl, ?_⟩) (fun _ => by assumption) ?_
      rotate_left
      · intro w hSw
        try dsimp only at hSw
        go_simp
        try with_reducible rfl
      try simp only [Act.put, List.setIfInBounds_toArray, List.set_cons_zero, List.set_cons_succ]
      refine wpAnyG_pure (i := 3) (oi := { dst := some 87, op := Op.fieldAddr 27 (Operand.tmp 6) 13, type := 0, pos := _, after := #[], guard := none }) (v := ?_) rfl (by kernel_rfl) (by kernel_rfl) (by kernel_rfl) (by kernel_rfl) (fun _ _ _ h => h) (Or.inl ⟨by rfl, ?_⟩) (fun _ => by assumption) ?_
      rotate_left
      · intro w hSw
        try dsimp only at hSw
        go_simp
        try with_reducible rfl
      try simp only [Act.put, List.setIfInBounds_toArray, List.set_cons_zero, List.set_cons_succ]
      refine wpAnyG_take (i := 4) (oi := { dst := some 88, op := Op.load 25 (Operand.tmp 87), type := 25, pos := _, after := #[{ on := 3, ground := Ground.data }], guard := none }) (v := ?_) rfl (by kernel_rfl) (by kernel_rfl) (by kernel_rfl) (by kernel_rfl) (fun _ _ _ h => h) (Or.inl ⟨by rfl, ?_⟩) (by assumption) ?_
      rotate_left
      · intro w hSw
        try dsimp only at hSw
        go_simp
        try with_reducible rfl
      try simp only [Act.put, List.setIfInBounds_toArray, List.set_cons_zero, List.set_cons_succ]
      refine wpAnyG_pure (i := 5) (oi := { dst := some 89, op := Op.move (Operand.tmp 15), type := 3, pos := _, after := #[], guard := none }) (v := ?_) rfl (by kernel_rfl) (by kernel_rfl) (by kernel_rfl) (by kernel_rfl) (fun _ _ _ h => h) (Or.inl ⟨by rfl, ?_⟩) (fun _ => by assumption) ?_
      rotate_left
      · intro w hSw
        try dsimp only at hSw
        go_simp
        try with_reducible rfl
      try simp only [Act.put, List.setIfInBounds_toArray, List.set_cons_zero, List.set_cons_succ]
      refine wpAnyG_pure (i := 6) (oi := { dst := some 90, op := Op.indexAddr 25 (Operand.tmp 88) (Operand.tmp 89), type := 0, pos := _, after := #[{ on := 4, ground := Ground.data }, { on := 5, ground := Ground.data }], guard := none }) (v := ?_) rfl (by kernel_rfl) (by kernel_rfl) (by kernel_rfl) (by kernel_rfl) (fun _ _ _ h => h) (Or.inl ⟨by rfl, ?_⟩) (fun _ => by assumption) ?_
      rotate_left
      · intro w hSw
        try dsimp only at hSw
        go_simp
        try with_reducible rfl
      try simp only [Act.put, List.setIfInBounds_toArray, List.set_cons_zero, List.set_cons_succ]
      refine wpAnyG_take (i := 7) (oi := { dst := some 91, op := Op.load 5 (Operand.tmp 90), type := 5, pos := _, after := #[{ on := 6, ground := Ground.data }], guard := none }) (v := ?_) rfl (by kernel_rfl) (by kernel_rfl) (by kernel_rfl) (by kernel_rfl) (fun _ _ _ h => h) (Or.inl ⟨by rfl, ?_⟩) (by assumption) ?_
      rotate_left
      · intro w hSw
        try dsimp only at hSw
        go_simp
        try with_reducible rfl
      try simp only [Act.put, List.setIfInBounds_toArray, List.set_cons_zero, List.set_cons_succ]
      refine wpAnyG_pure (i := 8) (oi := { dst := some 92, op := Op.binOp BinOp.add 5 (Operand.tmp 91) (Operand.const (Value.int IntKind.u8 1)) 5, type := 5, pos := _, after := #[{ on := 7, ground := Ground.data }], guard := none }) (v := ?_) rfl (by kernel_rfl) (by kernel_rfl) (by kernel_rfl) (by kernel_rfl) (fun _ _ _ h => h) (Or.inl ⟨by rfl, ?_⟩) (fun _ => by assumption) ?_
      rotate_left
      · intro w hSw
        try dsimp only at hSw
        go_simp
        try with_reducible rfl
      try simp only [Act.put, List.setIfInBounds_toArray, List.set_cons_zero, List.set_cons_succ]
      refine wpAnyG_pure (i := 9) (oi := { dst := some 93, op := Op.indexAddr 25 (Operand.tmp 85) (Operand.tmp 86), type := 0, pos := _, after := #[{ on := 1, ground := Ground.data }, { on := 2, ground := Ground.data }, { on := 0, ground := Ground.phase }, { on := 1, ground := Ground.phase }, { on := 2, ground := Ground.phase }, { on := 3, ground := Ground.phase }, { on := 4, ground := Ground.phase }, { on := 5, ground := Ground.phase }, { on := 6, ground := Ground.phase }, { on := 7, ground := Ground.phase }, { on := 8, ground := Ground.phase }], guard := none }) (v := ?_) rfl (by kernel_rfl) (by kernel_rfl) (by kernel_rfl) (by kernel_rfl) (fun _ _ _ h => h) (Or.inl ⟨by rfl, ?_⟩) (fun _ => by assumption) ?_
      rotate_left
      · intro w hSw
        try dsimp only at hSw
        go_simp
        try with_reducible rfl
      try simp only [Act.put, List.setIfInBounds_toArray, List.set_cons_zero, List.set_cons_succ]
      refine wpAnyG_one (i := 10) (o := { dst := none, op := Op.store 5 (Operand.tmp 93) (Operand.tmp 92), type := 0, pos := _, after := #[{ on := 9, ground := Ground.data }, { on := 8, ground := Ground.data }, { on := 0, ground := Ground.phase }, { on := 1, ground := Ground.phase }, { on := 2, ground := Ground.phase }, { on := 3, ground := Ground.phase }, { on := 4, ground := Ground.phase }, { on := 5, ground := Ground.phase }, { on := 6, ground := Ground.phase }, { on := 7, ground := Ground.phase }, { on := 8, ground := Ground.phase }], guard := none }) (by kernel_rfl) rfl (fun K hK => ?_)
      have c0 : wr.drew.cell? ⟨g, j, none⟩ = some (.int .u8 (x.toNat : Int)) := HT.out.2.1
      have z0 : wr.drew.frozen? ⟨g, j, none⟩ = false := HT.out.2.2
      go_simp
      try dsimp only
      refine hK.out _ _ ?_ (fun hHeld => ?_)
      · exact fun h => (st_no (by kernel_rfl) h).elim
      clear hK K
      try simp only [Act.put, List.setIfInBounds_toArray, List.set_cons_zero, List.set_cons_succ]
      clear hHeld
      refine wpAnyG_done (by kernel_rfl) ?_ _
      refine NoPanic.normal ?_
      go_wp2_with fail
      go_roundw
      case rel =>
        rw [HW.out]
        exact ⟨j + 1, l1.set j (x + 1), by simp, by omega, by rw [List.length_set]; exact HL1.out, HR.out.keep (nextN (Mem.start _) 1), HN.out.1.keep (nextN (Mem.start _) 1), HN.out.2.keep (nextN (Mem.start _) 1)⟩
      case measure => simp [intOf]; omega
    · obtain rfl : j = L := by omega
      have H10 := Lib.hid HX.out.2.1
      have cm13 := H10.out.1.cell 13
      simp [mv] at cm13
      have es := run_str (P := Tryd.prog) wr 25 5 Tryd.underlying25 Tryd.underlying5 (HI.out.2.1.keep H10.out.2).data s.dk 9 Tryd.underlying9
      clear hL ho hl1
      by_cases hp : p1 = 0
      · have hp2 := HP.out hp
        clear HP
        subst hp
        subst hp2
        go_wp2_with fail
        refine (works_any wr (HI.out.1.keep H10.out.2)).mono ?_
        rintro e w11 ⟨rfl, hb⟩
        have H11 := Lib.hid (next H10.out.2 hb)
        clear hb
        go_wp2_with fail
        go_ret
        exact ⟨rfl, H11.out⟩
      · have dp : (p1 != 0) = true := by rw [bne_iff_ne]; exact hp
        clear hp HP
        go_wp2_with fail
        refine (works_any wr (HI.out.1.keep H10.out.2)).mono ?_
        rintro e w11 ⟨rfl, hb⟩
        have H11 := Lib.hid (next H10.out.2 hb)
        clear hb
        go_wp2_with fail
        go_ret
        exact ⟨rfl, H11.out⟩
theorem lies_law (w : World) (hT : HasT w) (m : Msg) (s : Sl) (hm : MIn0 w w.heap.size m s) (A : Option Addr) (b : List UInt8) (c : Nat) (hle : b.length ≤ c) (hmx : c ≤ maxLen) (hb : Bytes w w.heap.size A b) :
    Calls Tryd.prog 7 #[.agg (mv m s), .slice A b.length c] w fun e w' => e = .returned (.bool true) ∧ Below w.heap.size w w' := by
  by_cases hg : few m = true ∧ b.length ≤ 3000
  · by_cases h9 : m.kind = 9
    · exact lies_a w hT m s hm A b c hb hg.1 hg.2 h9
    · by_cases h20 : m.kind = 20
      · exact lies_b w hT m s hm A b c hb hg.1 hg.2 h20
      · exact lies_c w hT m s hm A b c hb hg.1 hg.2 ⟨h9, h20⟩
  · obtain ⟨bx, hbx⟩ : ∃ bx, w.heap.size = bx := ⟨_, rfl⟩
    obtain ⟨w1, hw1⟩ : ∃ x : World, w.alloc (.cells (mv m s) 27) = x := ⟨_, rfl⟩
    have H1 := Lib.hid (show Bx w bx m s w1 by
      rw [← hw1, ← hbx]
      exact ⟨Blk.new w _ _, nextA (Mem.start w) _⟩)
    have HI := Lib.hid (And.intro hT hm)
    have ca0 := H1.out.1.cell 0
    have ca1 := H1.out.1.cell 1
    have ca2 := H1.out.1.cell 2
    have ca3 := H1.out.1.cell 3
    have ca4 := H1.out.1.cell 4
    have ca5 := H1.out.1.cell 5
    have ca6 := H1.out.1.cell 6
    have ca7 := H1.out.1.cell 7
    have ca8 := H1.out.1.cell 8
    have ca9 := H1.out.1.cell 9
    have ca10 := H1.out.1.cell 10
    have ca11 := H1.out.1.cell 11
    have ca12 := H1.out.1.cell 12
    have ca13 := H1.out.1.cell 13
    simp [mv] at ca0 ca1 ca2 ca3 ca4 ca5 ca6 ca7 ca8 ca9 ca10 ca11 ca12 ca13
    clear hT hm hb hle
    cases hf : few m
    · have HF := Lib.hid hf
      clear hf hg
      go_enter Tryd.func7, Tryd.ntmps7
      go_wp2_with fail
      refine (few_any w1 m s (HI.out.2.keep H1.out.2)).mono ?_
      rintro e w2 ⟨rfl, hb⟩
      rw [HF.out]
      have H2 := Lib.hid (H1.out.keep hb)
      clear hb ca0 ca1 ca2 ca3 ca4 ca5 ca6 ca7 ca8 ca9 ca10 ca11 ca12 ca13 hw1 hbx
      go_wp2_with fail
      refine (works_any w2 (HI.out.1.keep H2.out.2)).mono ?_
      rintro e w3 ⟨rfl, hb⟩
      have H3 := Lib.hid (next H2.out.2 hb)
      clear hb
      go_wp2_with fail
      go_ret
      exact ⟨rfl, H3.out⟩
    · have HF := Lib.hid hf
      have hl : ¬ b.length ≤ 3000 := fun h => hg ⟨hf, h⟩
      have dl : decide ((3000 : Int) < ((b.length : Nat) : Int)) = true := decide_eq_true (by omega)
      clear hf hg hl
      go_enter Tryd.func7, Tryd.ntmps7
      go_wp2_with fail
      refine (few_any w1 m s (HI.out.2.keep H1.out.2)).mono ?_
      rintro e w2 ⟨rfl, hb⟩
      rw [HF.out]
      have H2 := Lib.hid (H1.out.keep hb)
      clear hb ca0 ca1 ca2 ca3 ca4 ca5 ca6 ca7 ca8 ca9 ca10 ca11 ca12 ca13 hw1 hbx
      go_wp2_with fail
      refine (works_any w2 (HI.out.1.keep H2.out.2)).mono ?_
      rintro e w3 ⟨rfl, hb⟩
      have H3 := Lib.hid (next H2.out.2 hb)
      clear hb
      go_wp2_with fail
      go_ret
      exact ⟨rfl, H3.out⟩
end Go.Proofs.YtebdmfmadbikaaaDoor.WiW
