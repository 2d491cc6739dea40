/- Texts of a claim, one behind another. -/
import Derived.Test.YtebdmfmadbikaaaDoorSq
import Derived.Test.YtebdmfmadbikaaaDoorWrFew
import Derived.Test.YtebdmfmadbikaaaDoorWrGet
import Derived.Test.YtebdmfmadbikaaaDoorMk
import Derived.Deep.DeepCutAuto
import Derived.Deep.CutBlock
import Derived.Lib.SlBytesConst
import Derived.Test.YtebdmfmadbikaaaDoorWb
import Derived.Test.YtebdmfmadbikaaaDoorWrPut
import Derived.Test.YtebdmfmadbikaaaDoorWrPlain
import Derived.Test.YtebdmfmadbikaaaDoorWrRSame
import Derived.Test.YtebdmfmadbikaaaDoorChain3
import Derived.Test.YtebdmfmadbikaaaDoorWrLie
/- A message's box: a new one, stored to; what came before. -/
namespace Go.Proofs.YtebdmfmadbikaaaDoor.WiW
open Go.RowKit Go.Shelf Mem Fds FdW Wi Rng
set_option linter.unusedVariables false
set_option linter.unusedSimpArgs false

theorem mrow {w : World} {g : Nat} {T : TypeId} {old : Array Value} (h : Blk w g T old) (cs : Array Value) : Blk (w.setRow g cs) g T cs := setRow_heap w g old cs T (0, 0) h
/-- A whole message that is new, stored to. -/
theorem wpList_store_msg {ops : Array Oper} {rest : List Oper} {o : Oper} {a : Act} {Q : Exit → Act → World → Prop} (w : World) (hgd : o.guard = none) (x y : Operand) (ho : o.op = .store 27 x y) (m : Msg) (s : Sl)
    (hx : a.eval x = .pointer (some ⟨w.heap.size, 0, none⟩)) (hy : a.eval y = .agg (mv m s))
    (h : ∀ w', Blk w' w.heap.size 27 (mv m s) → Below w.heap.size w w' → wpList Tryd.prog ops Q rest (a.put o.dst undef) w') : wpList Tryd.prog ops Q (o :: rest) a (w.alloc (.cells #[.int .u8 0, .int .i64 0, .int .i64 0, .int .i64 0, .string { data := #[] }, .int .i64 0, .int .i64 0, .int .i64 0, .int .i64 0, .int .i64 0, .bool false, .slice none 0 0, .slice none 0 0, .slice none 0 0] 27)) := by
  refine wpList_store_row hgd 27 x y ho w.heap.size (mv m s) hx hy 27 #[.int .u8 0, .int .i64 0, .int .i64 0, .int .i64 0, .string { data := #[] }, .int .i64 0, .int .i64 0, .int .i64 0, .int .i64 0, .int .i64 0, .bool false, .slice none 0 0, .slice none 0 0, .slice none 0 0] (new_heap w _) minfo rfl (mv_one m s) (h _ (mrow (Blk.new w 27 #[.int .u8 0, .int .i64 0, .int .i64 0, .int .i64 0, .string { data := #[] }, .int .i64 0, .int .i64 0, .int .i64 0, .int .i64 0, .int .i64 0, .bool false, .slice none 0 0, .slice none 0 0, .slice none 0 0]) (mv m s)) ?_)
  refine ⟨rfl, rfl, rfl, ?_, fun k hk => ?_⟩
  · unfold World.setRow; simp
  · have hne : w.heap.size ≠ k := by omega
    have : ((w.alloc (.cells #[.int .u8 0, .int .i64 0, .int .i64 0, .int .i64 0, .string { data := #[] }, .int .i64 0, .int .i64 0, .int .i64 0, .int .i64 0, .int .i64 0, .bool false, .slice none 0 0, .slice none 0 0, .slice none 0 0] 27)).setRow w.heap.size (mv m s)).heap[k]? = (w.alloc (.cells #[.int .u8 0, .int .i64 0, .int .i64 0, .int .i64 0, .string { data := #[] }, .int .i64 0, .int .i64 0, .int .i64 0, .int .i64 0, .int .i64 0, .bool false, .slice none 0 0, .slice none 0 0, .slice none 0 0] 27)).heap[k]? := by unfold World.setRow; simp [Array.getElem?_modify, hne]
    exact this.trans ((nextA (Mem.start w) (.cells #[.int .u8 0, .int .i64 0, .int .i64 0, .int .i64 0, .string { data := #[] }, .int .i64 0, .int .i64 0, .int .i64 0, .int .i64 0, .int .i64 0, .bool false, .slice none 0 0, .slice none 0 0, .slice none 0 0] 27)).block k hk)
/-- The message's box, and what came before. -/
def Bx (w : World) (bx : Nat) (m : Msg) (s : Sl) (V : World) : Prop := Blk V bx 27 (mv m s) ∧ Below w.heap.size w V
theorem Bx.keep {w V V' : World} {bx : Nat} {m : Msg} {s : Sl} (h : Bx w bx m s V) (hb : Below V.heap.size V V') : Bx w bx m s V' := ⟨h.1.keep hb, next h.2 hb⟩
/-- Two boxes, and what came before. -/
def Two (w : World) (bx : Nat) (m : Msg) (s : Sl) (n : Msg) (t : Sl) (V : World) : Prop := Blk V bx 27 (mv m s) ∧ Blk V (bx + 1) 27 (mv n t) ∧ Below w.heap.size w V
theorem Two.keep {w V V' : World} {bx : Nat} {m n : Msg} {s t : Sl} (h : Two w bx m s n t V) (hb : Below V.heap.size V V') : Two w bx m s n t V' := ⟨h.1.keep hb, h.2.1.keep hb, next h.2.2 hb⟩
end Go.Proofs.YtebdmfmadbikaaaDoor.WiW
/- The law's bent: whatever the number, a message comes back. Printed by genwbent.py (raw numbers of the seat). -/
namespace Go.Proofs.YtebdmfmadbikaaaDoor.WiW
open Go.RowKit Go.Shelf Go.Lib Mem Fds FdW Wi Rng
set_option linter.unusedVariables false
set_option linter.unusedSimpArgs false

/-- Some message comes back, below the world's end. -/
def BentR (w : World) (e : Ending) (w' : World) : Prop := ∃ m s, e = .returned (.agg (mv m s)) ∧ MIn0 w' w'.heap.size m s ∧ Below w.heap.size w w'
/-- Blocks q and q + 1. -/
def QQ (q : Nat) : Nat → Prop := fun k => k = q ∨ k = q + 1
/-- The message in its box at q, the answer's box behind it. -/
def BnI (w : World) (q : Nat) (V : World) : Prop := (∃ m s, Blk V q 27 (mv m s) ∧ ∀ V', Fr (QQ q) V V' → MIn0 V' V'.heap.size m s) ∧ Blk V (q + 1) 27 #[.int .u8 0, .int .i64 0, .int .i64 0, .int .i64 0, .string { data := #[] }, .int .i64 0, .int .i64 0, .int .i64 0, .int .i64 0, .int .i64 0, .bool false, .slice none 0 0, .slice none 0 0, .slice none 0 0] ∧ Below q w V
theorem qqB {V V' : World} {q : Nat} (h : Fr (QQ q) V V') (hq : q ≤ V.heap.size) : Below q V V' := h.below hq fun k hk => by rcases hk with h | h <;> omega
theorem qqS {V : World} {q i : Nat} {u : Value} : Fr (QQ q) V (V.setCell ⟨q, i, none⟩ u) := (Fr.refl (QQ q) V).setCell (p := ⟨q, i, none⟩) (fun _ => .inl rfl) u
theorem BnI.set {w V : World} {q : Nat} {m m' : Msg} {s s' : Sl} (h1 : Blk V q 27 (mv m s)) (h2 : Blk V (q + 1) 27 #[.int .u8 0, .int .i64 0, .int .i64 0, .int .i64 0, .string { data := #[] }, .int .i64 0, .int .i64 0, .int .i64 0, .int .i64 0, .int .i64 0, .bool false, .slice none 0 0, .slice none 0 0, .slice none 0 0]) (h3 : Below q w V) (i : Nat) (u : Value) (he : (mv m s).setIfInBounds i u = mv m' s') (hI : ∀ V', Fr (QQ q) V V' → MIn0 V' V'.heap.size m' s') : BnI w q (V.setCell ⟨q, i, none⟩ u) := by
  refine ⟨⟨m', s', ?_, fun V' h => hI V' (qqS.trans h fun _ _ h => h)⟩, h2.far (by simp) u, h3.trans (qqB qqS (Nat.le_of_lt h1.lt))⟩
  have := h1.set_ i u
  rw [he] at this; exact this
theorem min0S {V V' : World} {q : Nat} {m : Msg} {s : Sl} (h : MIn0 V q m s) (hq : q ≤ V.heap.size) (hF : Fr (QQ q) V V') : MIn0 V' V'.heap.size m s := (h.below (qqB hF hq)).up (Nat.le_trans hq hF.size)
theorem cells_far {V V' : World} {q g : Nat} {xs : List Value} (h : Cells V V.heap.size (some ⟨g, 0, none⟩) xs) (hg : q + 1 < g) (hF : Fr (QQ q) V V') : Cells V' V'.heap.size (some ⟨g, 0, none⟩) xs := fun hl => by
  obtain ⟨b, off, e, hb, hc⟩ := h hl
  injection e with e
  injection e with e1 e2
  subst e1; subst e2
  exact ⟨g, 0, rfl, Nat.lt_of_lt_of_le hb hF.size, fun k v hk => by rw [← hc k v hk]; exact World.cell?_of_block (hF.block g hb (by rintro (h | h) <;> omega))⟩
theorem cells_made (w : World) (cs : Array Value) (T : TypeId) (fz : Nat × Nat) : Cells (w.alloc (.cells cs T fz)) (w.alloc (.cells cs T fz)).heap.size (some ⟨w.heap.size, 0, none⟩) cs.toList := fun _ =>
  ⟨w.heap.size, 0, rfl, by simp, fun k v hk => by rw [Nat.zero_add, new_cell, ← hk, Array.getElem?_toList]⟩
theorem u8inf18 : (Tryd.prog.info? 5).map (fun i => (i.zero, i.size, i.bytes)) = some (some (.int .u8 0), 1, 1) := by kernel_rfl
theorem i64inf18 : (Tryd.prog.info? 3).map (fun i => (i.zero, i.size, i.bytes)) = some (some (.int .i64 0), 1, 8) := by kernel_rfl
theorem idinfo18 : (Tryd.prog.info? 50).map (fun i => (i.zero, i.size, i.bytes)) = some (some (.agg #[.string (str []), .int .i64 0]), 2, 24) := by kernel_rfl
/-- make of so many bytes. -/
def nz (n : Nat) : List UInt8 := List.replicate n 0
theorem nz_len (n : Nat) : (nz n).length = n := List.length_replicate
theorem nz_v (n : Nat) : (nz n).map u8v = List.replicate n (.int .u8 0) := by unfold nz; rw [List.map_replicate]; rfl
theorem wpList_mkB {ops : Array Oper} {rest : List Oper} {o : Oper} {a : Act} {Q : Exit → Act → World → Prop} (w : World) (hg : o.guard = none) (l c : Operand) (hop : o.op = Op.makeSlice 25 l c) (n : Nat) (N : Int) (hl : a.eval l = .int .i64 N) (hc : a.eval c = .int .i64 N) (hN : N = (n : Int)) (hn : n ≤ 1000000)
    (h : ∀ w', Mem.Own w' w.heap.size 5 (some ⟨w.heap.size, 0, none⟩) n ((nz n).map u8v) → Below w.heap.size w w' → wpList Tryd.prog ops Q rest (a.put o.dst (.slice (some ⟨w.heap.size, 0, none⟩) n n)) w') : wpList Tryd.prog ops Q (o :: rest) a w := by
  obtain ⟨i0, hi0, hz0, hz1, hz2⟩ := info_parts u8inf18
  refine wpList_mk hg l c _ hop 5 i0 1 (.int .u8 0) Tryd.underlying25 hi0 hz0 hz1 hz2 rfl N n hl hc hN (by omega) (by unfold maxLen; omega) n rfl (h _ ?_ (nextA (Mem.start w) _))
  rw [nz_v]
  exact own_mk w n _ _ (by unfold maxLen; omega) (Nat.le_refl _)
theorem wpList_mkI {ops : Array Oper} {rest : List Oper} {o : Oper} {a : Act} {Q : Exit → Act → World → Prop} (w : World) (hg : o.guard = none) (l c : Operand) (hop : o.op = Op.makeSlice 24 l c) (n : Nat) (N : Int) (hl : a.eval l = .int .i64 N) (hc : a.eval c = .int .i64 N) (hN : N = (n : Int)) (hn : n ≤ 1000000)
    (h : ∀ w', Cells w' w'.heap.size (some ⟨w.heap.size, 0, none⟩) ((List.replicate n (0 : Int)).map iv) → Below w.heap.size w w' → wpList Tryd.prog ops Q rest (a.put o.dst (.slice (some ⟨w.heap.size, 0, none⟩) n n)) w') : wpList Tryd.prog ops Q (o :: rest) a w := by
  obtain ⟨i0, hi0, hz0, hz1, hz2⟩ := info_parts i64inf18
  refine wpList_mk hg l c _ hop 3 i0 8 (.int .i64 0) Tryd.underlying24 hi0 hz0 hz1 hz2 rfl N n hl hc hN (by omega) (by unfold maxLen; omega) n rfl (h _ ?_ (nextA (Mem.start w) _))
  have e := cells_made w (Array.replicate n (.int .i64 0)) 3 (0, 0)
  rw [Array.toList_replicate] at e
  rw [List.map_replicate]
  exact e
theorem mk_ids (n : Nat) : (madeCells #[.string (str []), .int .i64 0] (n * 2)).toList = (List.replicate n (([] : List UInt8), (0 : Int))).flatMap dc := by
  have h : ∀ n : Nat, (List.range (n * 2)).map (fun i => (#[Value.string (str []), .int .i64 0])[i % 2]!) = (List.replicate n (([] : List UInt8), (0 : Int))).flatMap dc := by
    intro n
    induction n with
    | zero => rfl
    | succ n ih =>
      rw [show (n + 1) * 2 = n * 2 + 1 + 1 by omega, List.range_succ, List.range_succ, List.map_append, List.map_append, ih, List.replicate_succ', List.flatMap_append, List.append_assoc]
      congr 1
      simp [dc, show (n * 2 + 1) % 2 = 1 by omega]
  unfold madeCells
  rw [Array.toList_map, Array.toList_range]
  exact h n
theorem wpList_mkD {ops : Array Oper} {rest : List Oper} {o : Oper} {a : Act} {Q : Exit → Act → World → Prop} (w : World) (hg : o.guard = none) (l c : Operand) (hop : o.op = Op.makeSlice 23 l c) (n : Nat) (N : Int) (hl : a.eval l = .int .i64 N) (hc : a.eval c = .int .i64 N) (hN : N = (n : Int)) (hn : n ≤ 1000000)
    (h : ∀ w', Cells w' w'.heap.size (some ⟨w.heap.size, 0, none⟩) ((List.replicate n (([] : List UInt8), (0 : Int))).flatMap dc) → Below w.heap.size w w' → wpList Tryd.prog ops Q rest (a.put o.dst (.slice (some ⟨w.heap.size, 0, none⟩) n n)) w') : wpList Tryd.prog ops Q (o :: rest) a w := by
  obtain ⟨i0, hi0, hz0, hz1, hz2⟩ := info_parts idinfo18
  subst hN
  have hrun := run_make (P := Tryd.prog) w 23 50 i0 _ Tryd.underlying23 hi0 hz0 .i64 .i64 (n : Int) (n : Int) (by omega) (by omega) (by rw [hz2, ← Int.natCast_mul]; omega) (by omega)
  rw [hz1, Int.toNat_natCast] at hrun
  refine wpList_plain hg fun K hK' => ?_
  unfold Oper.wp
  simp only [execOp, hop, hl, hc, Sem.run_bind, Sem.run_pure, hrun, Result.andThen_ok]
  refine hK' _ _ (h _ ?_ (nextA (Mem.start w) _))
  rw [← mk_ids]
  exact cells_made w _ _ (0, 0)

set_option maxRecDepth 100000 in
set_option maxHeartbeats 16000000 in
theorem bent_any (w : World) (m : Msg) (s : Sl) (n : Nat) (hn : n < 23) (hI : MIn0 w w.heap.size m s) : Calls Tryd.prog 21 #[.agg (mv m s), .int .i64 (n : Int)] w (BentR w) := by
  obtain ⟨q, hq⟩ : ∃ q, w.heap.size = q := ⟨_, rfl⟩
  obtain ⟨w1, hw1⟩ : ∃ x : World, (w.alloc (.cells (mv m s) 27)).alloc (.cells #[.int .u8 0, .int .i64 0, .int .i64 0, .int .i64 0, .string { data := #[] }, .int .i64 0, .int .i64 0, .int .i64 0, .int .i64 0, .int .i64 0, .bool false, .slice none 0 0, .slice none 0 0, .slice none 0 0] 27) = x := ⟨_, rfl⟩
  have HX := Lib.hid (show Blk w1 q 27 (mv m s) ∧ Blk w1 (q + 1) 27 #[.int .u8 0, .int .i64 0, .int .i64 0, .int .i64 0, .string { data := #[] }, .int .i64 0, .int .i64 0, .int .i64 0, .int .i64 0, .int .i64 0, .bool false, .slice none 0 0, .slice none 0 0, .slice none 0 0] ∧ Below q w w1 ∧ q ≤ w1.heap.size from by
    rw [← hw1, ← hq]
    refine ⟨(Blk.new w _ _).keep (nextA (Mem.start _) _), ?_, nextA (nextA (Mem.start w) _) _, by simp; omega⟩
    have := Blk.new (w.alloc (.cells (mv m s) 27)) 27 #[.int .u8 0, .int .i64 0, .int .i64 0, .int .i64 0, .string { data := #[] }, .int .i64 0, .int .i64 0, .int .i64 0, .int .i64 0, .int .i64 0, .bool false, .slice none 0 0, .slice none 0 0, .slice none 0 0]
    rw [World.size_alloc] at this; exact this)
  have HI := Lib.hid (show MIn0 w1 q m s by rw [hq] at hI; exact hI.below HX.out.2.2.1)
  have HQ := Lib.hid hq
  clear hI
  go_enter Tryd.func21, Tryd.ntmps21
  go_upto_block 0 with fail
  clear hw1 hq
  go_cut [] (fun wx => BnI w q wx)
  case first =>
    obtain rfl | rfl | rfl | rfl | rfl | rfl | rfl | rfl | rfl | rfl | rfl | rfl | rfl | rfl | rfl | rfl | rfl | rfl | rfl | rfl | rfl | rfl | rfl : n = 0 ∨ n = 1 ∨ n = 2 ∨ n = 3 ∨ n = 4 ∨ n = 5 ∨ n = 6 ∨ n = 7 ∨ n = 8 ∨ n = 9 ∨ n = 10 ∨ n = 11 ∨ n = 12 ∨ n = 13 ∨ n = 14 ∨ n = 15 ∨ n = 16 ∨ n = 17 ∨ n = 18 ∨ n = 19 ∨ n = 20 ∨ n = 21 ∨ n = 22 := by omega
    · clear hn
      have c0 := HX.out.1.cell 0
      have c1 := HX.out.1.frozen 0
      simp [mv] at c0
      go_wp2_with fail
      go_meet
      refine BnI.set HX.out.1 HX.out.2.1 HX.out.2.2.1 0 _ (m' := { m with kind := 0 }) (s' := s) rfl fun V' hF => ?_
      have K := min0S HI.out HX.out.2.2.2 hF
      exact ⟨K.ids, K.nodes, K.data, (show (0 : Nat) < 256 by decide), K.lk, K.li, K.ln, K.ld, K.lik⟩
    · clear hn
      have c0 := HX.out.1.cell 0
      have c1 := HX.out.1.frozen 0
      simp [mv] at c0
      go_wp2_with fail
      go_meet
      refine BnI.set HX.out.1 HX.out.2.1 HX.out.2.2.1 0 _ (m' := { m with kind := 21 }) (s' := s) rfl fun V' hF => ?_
      have K := min0S HI.out HX.out.2.2.2 hF
      exact ⟨K.ids, K.nodes, K.data, (show (21 : Nat) < 256 by decide), K.lk, K.li, K.ln, K.ld, K.lik⟩
    · clear hn
      have c0 := HX.out.1.cell 1
      have c1 := HX.out.1.frozen 1
      simp [mv] at c0
      go_wp2_with fail
      go_meet
      refine BnI.set HX.out.1 HX.out.2.1 HX.out.2.2.1 1 _ (m' := { m with frm := 65536 }) (s' := s) rfl fun V' hF => ?_
      have K := min0S HI.out HX.out.2.2.2 hF
      exact ⟨K.ids, K.nodes, K.data, K.kind, K.lk, K.li, K.ln, K.ld, K.lik⟩
    · clear hn
      have c0 := HX.out.1.cell 2
      have c1 := HX.out.1.frozen 2
      simp [mv] at c0
      go_wp2_with fail
      go_meet
      refine BnI.set HX.out.1 HX.out.2.1 HX.out.2.2.1 2 _ (m' := { m with to_ := -1 }) (s' := s) rfl fun V' hF => ?_
      have K := min0S HI.out HX.out.2.2.2 hF
      exact ⟨K.ids, K.nodes, K.data, K.kind, K.lk, K.li, K.ln, K.ld, K.lik⟩
    · clear hn
      have c0 := HX.out.1.cell 3
      have c1 := HX.out.1.frozen 3
      simp [mv] at c0
      go_wp2_with fail
      go_meet
      refine BnI.set HX.out.1 HX.out.2.1 HX.out.2.2.1 3 _ (m' := { m with req := 4611686018427387905 }) (s' := s) rfl fun V' hF => ?_
      have K := min0S HI.out HX.out.2.2.2 hF
      exact ⟨K.ids, K.nodes, K.data, K.kind, K.lk, K.li, K.ln, K.ld, K.lik⟩
    · clear hn
      have c0 := HX.out.1.cell 5
      have c1 := HX.out.1.frozen 5
      simp [mv] at c0
      go_wp2_with fail
      go_meet
      refine BnI.set HX.out.1 HX.out.2.1 HX.out.2.2.1 5 _ (m' := { m with ver := -1 }) (s' := s) rfl fun V' hF => ?_
      have K := min0S HI.out HX.out.2.2.2 hF
      exact ⟨K.ids, K.nodes, K.data, K.kind, K.lk, K.li, K.ln, K.ld, K.lik⟩
    · clear hn
      have c0 := HX.out.1.cell 6
      have c1 := HX.out.1.frozen 6
      simp [mv] at c0
      go_wp2_with fail
      go_meet
      refine BnI.set HX.out.1 HX.out.2.1 HX.out.2.2.1 6 _ (m' := { m with inc := 1 }) (s' := s) rfl fun V' hF => ?_
      have K := min0S HI.out HX.out.2.2.2 hF
      exact ⟨K.ids, K.nodes, K.data, K.kind, K.lk, K.li, K.ln, K.ld, K.lik⟩
    · clear hn
      have c0 := HX.out.1.cell 7
      have c1 := HX.out.1.frozen 7
      simp [mv] at c0
      go_wp2_with fail
      go_meet
      refine BnI.set HX.out.1 HX.out.2.1 HX.out.2.2.1 7 _ (m' := { m with size := 2147483648 }) (s' := s) rfl fun V' hF => ?_
      have K := min0S HI.out HX.out.2.2.2 hF
      exact ⟨K.ids, K.nodes, K.data, K.kind, K.lk, K.li, K.ln, K.ld, K.lik⟩
    · clear hn
      have c0 := HX.out.1.cell 8
      have c1 := HX.out.1.frozen 8
      simp [mv] at c0
      go_wp2_with fail
      go_meet
      refine BnI.set HX.out.1 HX.out.2.1 HX.out.2.2.1 8 _ (m' := { m with code := 65536 }) (s' := s) rfl fun V' hF => ?_
      have K := min0S HI.out HX.out.2.2.2 hF
      exact ⟨K.ids, K.nodes, K.data, K.kind, K.lk, K.li, K.ln, K.ld, K.lik⟩
    · clear hn
      have c0 := HX.out.1.cell 9
      have c1 := HX.out.1.frozen 9
      simp [mv] at c0
      go_wp2_with fail
      go_meet
      refine BnI.set HX.out.1 HX.out.2.1 HX.out.2.2.1 9 _ (m' := { m with node := 255 }) (s' := s) rfl fun V' hF => ?_
      have K := min0S HI.out HX.out.2.2.2 hF
      exact ⟨K.ids, K.nodes, K.data, K.kind, K.lk, K.li, K.ln, K.ld, K.lik⟩
    · clear hn
      have c0 := HX.out.1.cell 10
      have c1 := HX.out.1.frozen 10
      simp [mv] at c0
      go_wp2_with fail
      go_meet
      refine BnI.set HX.out.1 HX.out.2.1 HX.out.2.2.1 10 _ (m' := { m with back := true }) (s' := s) rfl fun V' hF => ?_
      have K := min0S HI.out HX.out.2.2.2 hF
      exact ⟨K.ids, K.nodes, K.data, K.kind, K.lk, K.li, K.ln, K.ld, K.lik⟩
    · clear hn
      obtain ⟨w2, hw2⟩ : ∃ x : World, w1.alloc (.cells #[.string { data := #[107] }, .int .i64 1] 50 ) = x := ⟨_, rfl⟩
      have HN := Lib.hid (show Cells w2 w2.heap.size (some ⟨w1.heap.size, 0, none⟩) (#[.string { data := #[107] }, .int .i64 1] : Array Value).toList ∧ Below w1.heap.size w1 w2 from by rw [← hw2]; exact ⟨cells_made _ _ _ _, nextA (Mem.start w1) _⟩)
      have HW := Lib.hid (And.intro (HX.out.1.keep HN.out.2) (And.intro (HX.out.2.1.keep HN.out.2) (HX.out.2.2.1.trans ((HN.out.2).mono HX.out.2.2.2))))
      have HM := Lib.hid (HI.out.below ((HN.out.2).mono HX.out.2.2.2))
      have HZ := Lib.hid (Nat.le_trans HX.out.2.2.2 (HN.out.2).size)
      have c0 := HW.out.1.cell 11
      have c1 := HW.out.1.frozen 11
      simp [mv] at c0
      go_wp2_with fail
      go_meet
      refine BnI.set HW.out.1 HW.out.2.1 HW.out.2.2 11 _ (m' := { m with ids := [([107], 1)] }) (s' := { s with ia := some ⟨w1.heap.size, 0, none⟩, ic := 1 }) rfl fun V' hF => ?_
      have K := min0S HM.out HZ.out hF
      exact ⟨cells_far HN.out.1 HX.out.2.1.lt hF, K.nodes, K.data, K.kind, K.lk, (by simp), K.ln, K.ld, (fun x hx => by simp at hx; subst hx; simp [nz])⟩
    · clear hn
      go_wp2_with ((with_reducible show wpList _ _ _ ((⟨some 46, _, _, _, _, _⟩ : Oper) :: _) _ _); refine wpList_mkD w1 rfl _ _ rfl 65 65 rfl rfl rfl (by decide) ?_; intro w2 hc hb2; have HN := Lib.hid (And.intro hc hb2); clear hc hb2; have HW := Lib.hid (And.intro (HX.out.1.keep HN.out.2) (And.intro (HX.out.2.1.keep HN.out.2) (HX.out.2.2.1.trans (HN.out.2.mono HX.out.2.2.2)))); have HM := Lib.hid (HI.out.below (HN.out.2.mono HX.out.2.2.2)); have HZ := Lib.hid (Nat.le_trans HX.out.2.2.2 HN.out.2.size); have c0 := HW.out.1.cell 11; have c1 := HW.out.1.frozen 11; simp [mv] at c0)
      go_meet
      refine BnI.set HW.out.1 HW.out.2.1 HW.out.2.2 11 _ (m' := { m with ids := List.replicate 65 ([], 0) }) (s' := { s with ia := some ⟨w1.heap.size, 0, none⟩, ic := 65 }) (by simp [mv]) fun V' hF => ?_
      have K := min0S HM.out HZ.out hF
      exact ⟨cells_far HN.out.1 HX.out.2.1.lt hF, K.nodes, K.data, K.kind, K.lk, (by simp), K.ln, K.ld, (fun x hx => by rw [List.eq_of_mem_replicate hx]; simp)⟩
    · clear hn
      obtain ⟨w2, hw2⟩ : ∃ x : World, w1.alloc (.cells #[.int .i64 254] 3 ) = x := ⟨_, rfl⟩
      have HN := Lib.hid (show Cells w2 w2.heap.size (some ⟨w1.heap.size, 0, none⟩) (#[.int .i64 254] : Array Value).toList ∧ Below w1.heap.size w1 w2 from by rw [← hw2]; exact ⟨cells_made _ _ _ _, nextA (Mem.start w1) _⟩)
      have HW := Lib.hid (And.intro (HX.out.1.keep HN.out.2) (And.intro (HX.out.2.1.keep HN.out.2) (HX.out.2.2.1.trans ((HN.out.2).mono HX.out.2.2.2))))
      have HM := Lib.hid (HI.out.below ((HN.out.2).mono HX.out.2.2.2))
      have HZ := Lib.hid (Nat.le_trans HX.out.2.2.2 (HN.out.2).size)
      have c0 := HW.out.1.cell 12
      have c1 := HW.out.1.frozen 12
      simp [mv] at c0
      go_wp2_with fail
      go_meet
      refine BnI.set HW.out.1 HW.out.2.1 HW.out.2.2 12 _ (m' := { m with nodes := [254] }) (s' := { s with na := some ⟨w1.heap.size, 0, none⟩, nc := 1 }) rfl fun V' hF => ?_
      have K := min0S HM.out HZ.out hF
      exact ⟨K.ids, cells_far HN.out.1 HX.out.2.1.lt hF, K.data, K.kind, K.lk, K.li, (by simp), K.ld, K.lik⟩
    · clear hn
      obtain ⟨w2, hw2⟩ : ∃ x : World, w1.alloc (.cells #[.int .i64 255] 3 ) = x := ⟨_, rfl⟩
      have HN := Lib.hid (show Cells w2 w2.heap.size (some ⟨w1.heap.size, 0, none⟩) (#[.int .i64 255] : Array Value).toList ∧ Below w1.heap.size w1 w2 from by rw [← hw2]; exact ⟨cells_made _ _ _ _, nextA (Mem.start w1) _⟩)
      have HW := Lib.hid (And.intro (HX.out.1.keep HN.out.2) (And.intro (HX.out.2.1.keep HN.out.2) (HX.out.2.2.1.trans ((HN.out.2).mono HX.out.2.2.2))))
      have HM := Lib.hid (HI.out.below ((HN.out.2).mono HX.out.2.2.2))
      have HZ := Lib.hid (Nat.le_trans HX.out.2.2.2 (HN.out.2).size)
      have c0 := HW.out.1.cell 12
      have c1 := HW.out.1.frozen 12
      simp [mv] at c0
      go_wp2_with fail
      go_meet
      refine BnI.set HW.out.1 HW.out.2.1 HW.out.2.2 12 _ (m' := { m with nodes := [255] }) (s' := { s with na := some ⟨w1.heap.size, 0, none⟩, nc := 1 }) rfl fun V' hF => ?_
      have K := min0S HM.out HZ.out hF
      exact ⟨K.ids, cells_far HN.out.1 HX.out.2.1.lt hF, K.data, K.kind, K.lk, K.li, (by simp), K.ld, K.lik⟩
    · clear hn
      go_wp2_with ((with_reducible show wpList _ _ _ ((⟨some 58, _, _, _, _, _⟩ : Oper) :: _) _ _); refine wpList_mkI w1 rfl _ _ rfl 256 256 rfl rfl rfl (by decide) ?_; intro w2 hc hb2; have HN := Lib.hid (And.intro hc hb2); clear hc hb2; have HW := Lib.hid (And.intro (HX.out.1.keep HN.out.2) (And.intro (HX.out.2.1.keep HN.out.2) (HX.out.2.2.1.trans (HN.out.2.mono HX.out.2.2.2)))); have HM := Lib.hid (HI.out.below (HN.out.2.mono HX.out.2.2.2)); have HZ := Lib.hid (Nat.le_trans HX.out.2.2.2 HN.out.2.size); have c0 := HW.out.1.cell 12; have c1 := HW.out.1.frozen 12; simp [mv] at c0)
      go_meet
      refine BnI.set HW.out.1 HW.out.2.1 HW.out.2.2 12 _ (m' := { m with nodes := List.replicate 256 0 }) (s' := { s with na := some ⟨w1.heap.size, 0, none⟩, nc := 256 }) (by simp [mv]) fun V' hF => ?_
      have K := min0S HM.out HZ.out hF
      exact ⟨K.ids, cells_far HN.out.1 HX.out.2.1.lt hF, K.data, K.kind, K.lk, K.li, (by simp), K.ld, K.lik⟩
    · clear hn
      obtain ⟨w2, hw2⟩ : ∃ x : World, w1.alloc (.cells #[.int .u8 100] 5 (1, 2)) = x := ⟨_, rfl⟩
      have HN := Lib.hid (show Cells w2 w2.heap.size (some ⟨w1.heap.size, 0, none⟩) (#[.int .u8 100] : Array Value).toList ∧ Below w1.heap.size w1 w2 from by rw [← hw2]; exact ⟨cells_made _ _ _ _, nextA (Mem.start w1) _⟩)
      have HW := Lib.hid (And.intro (HX.out.1.keep HN.out.2) (And.intro (HX.out.2.1.keep HN.out.2) (HX.out.2.2.1.trans ((HN.out.2).mono HX.out.2.2.2))))
      have HM := Lib.hid (HI.out.below ((HN.out.2).mono HX.out.2.2.2))
      have HZ := Lib.hid (Nat.le_trans HX.out.2.2.2 (HN.out.2).size)
      have c0 := HW.out.1.cell 13
      have c1 := HW.out.1.frozen 13
      simp [mv] at c0
      have hcv : (convert 25 25 (.slice (some ⟨w1.heap.size, 0, none⟩) 1 1)).run Tryd.prog (w1.alloc (.cells #[.int .u8 100] 5)) = .ok (.slice (some ⟨w1.heap.size, 0, none⟩) 1 1) w2 := by rw [← hw2]; exact Lib.run_convert_bytes_const w1 25 5 #[.int .u8 100] 1 1 Tryd.underlying25 Tryd.underlying5
      clear hw2
      go_wp2_with fail
      go_meet
      refine BnI.set HW.out.1 HW.out.2.1 HW.out.2.2 13 _ (m' := { m with data := [100] }) (s' := { s with da := some ⟨w1.heap.size, 0, none⟩, dk := 1 }) rfl fun V' hF => ?_
      have K := min0S HM.out HZ.out hF
      exact ⟨K.ids, K.nodes, cells_far HN.out.1 HX.out.2.1.lt hF, K.kind, K.lk, K.li, K.ln, (by simp), K.lik⟩
    · clear hn
      go_wp2_with ((with_reducible show wpList _ _ _ ((⟨some 67, _, _, _, _, _⟩ : Oper) :: _) _ _); refine wpList_mkB w1 rfl _ _ rfl 65 65 rfl rfl rfl (by decide) ?_; intro w2 hc hb2; have es := run_str (P := Tryd.prog) w2 25 5 Tryd.underlying25 Tryd.underlying5 hc.bytes 65 9 Tryd.underlying9; rw [nz_len] at es; have HN := Lib.hid (And.intro hc hb2); clear hc hb2; have HW := Lib.hid (And.intro (HX.out.1.keep HN.out.2) (And.intro (HX.out.2.1.keep HN.out.2) (HX.out.2.2.1.trans (HN.out.2.mono HX.out.2.2.2)))); have HM := Lib.hid (HI.out.below (HN.out.2.mono HX.out.2.2.2)); have HZ := Lib.hid (Nat.le_trans HX.out.2.2.2 HN.out.2.size); have c0 := HW.out.1.cell 4; have c1 := HW.out.1.frozen 4; simp [mv] at c0)
      go_meet
      refine BnI.set HW.out.1 HW.out.2.1 HW.out.2.2 4 _ (m' := { m with key := nz 65 }) (s' := s) rfl fun V' hF => ?_
      have K := min0S HM.out HZ.out hF
      exact ⟨K.ids, K.nodes, K.data, K.kind, (by rw [nz_len]; decide), K.li, K.ln, K.ld, K.lik⟩
    · clear hn
      go_wp2_with ((with_reducible show wpList _ _ _ ((⟨some 72, _, _, _, _, _⟩ : Oper) :: _) _ _); refine wpList_mkB w1 rfl _ _ rfl 64 64 rfl rfl rfl (by decide) ?_; intro w2 hc hb2; have es := run_str (P := Tryd.prog) w2 25 5 Tryd.underlying25 Tryd.underlying5 hc.bytes 64 9 Tryd.underlying9; rw [nz_len] at es; have HN := Lib.hid (And.intro hc hb2); clear hc hb2; have HW := Lib.hid (And.intro (HX.out.1.keep HN.out.2) (And.intro (HX.out.2.1.keep HN.out.2) (HX.out.2.2.1.trans (HN.out.2.mono HX.out.2.2.2)))); have HM := Lib.hid (HI.out.below (HN.out.2.mono HX.out.2.2.2)); have HZ := Lib.hid (Nat.le_trans HX.out.2.2.2 HN.out.2.size); have c0 := HW.out.1.cell 4; have c1 := HW.out.1.frozen 4; simp [mv] at c0)
      go_meet
      refine BnI.set HW.out.1 HW.out.2.1 HW.out.2.2 4 _ (m' := { m with key := nz 64 }) (s' := s) rfl fun V' hF => ?_
      have K := min0S HM.out HZ.out hF
      exact ⟨K.ids, K.nodes, K.data, K.kind, (by rw [nz_len]; decide), K.li, K.ln, K.ld, K.lik⟩
    · clear hn
      go_wp2_with ((with_reducible show wpList _ _ _ ((⟨some 77, _, _, _, _, _⟩ : Oper) :: _) _ _); refine wpList_mkB w1 rfl _ _ rfl 65 65 rfl rfl rfl (by decide) ?_; intro w3 hc hb2; have es := run_str (P := Tryd.prog) w3 25 5 Tryd.underlying25 Tryd.underlying5 hc.bytes 65 9 Tryd.underlying9; rw [nz_len] at es; have HN3 := Lib.hid (And.intro hc hb2); clear hc hb2; obtain ⟨w2, hw2⟩ : ∃ x : World, w3.alloc (.cells #[.string (str (nz 65)), .int .i64 0] 50) = x := ⟨_, rfl⟩; have HN := Lib.hid (show Cells w2 w2.heap.size (some ⟨w3.heap.size, 0, none⟩) (#[.string (str (nz 65)), .int .i64 0] : Array Value).toList ∧ Below w1.heap.size w1 w2 from by rw [← hw2]; exact ⟨cells_made _ _ _ _, nextA HN3.out.2 _⟩); have HS3 := Lib.hid (show q + 1 < w3.heap.size from Nat.lt_of_lt_of_le HX.out.2.1.lt HN3.out.2.size); have HW := Lib.hid (And.intro (HX.out.1.keep HN.out.2) (And.intro (HX.out.2.1.keep HN.out.2) (HX.out.2.2.1.trans (HN.out.2.mono HX.out.2.2.2)))); have HM := Lib.hid (HI.out.below (HN.out.2.mono HX.out.2.2.2)); have HZ := Lib.hid (Nat.le_trans HX.out.2.2.2 HN.out.2.size); have c0 := HW.out.1.cell 11; have c1 := HW.out.1.frozen 11; simp [mv] at c0)
      go_meet
      refine BnI.set HW.out.1 HW.out.2.1 HW.out.2.2 11 _ (m' := { m with ids := [(nz 65, 0)] }) (s' := { s with ia := some ⟨w3.heap.size, 0, none⟩, ic := 1 }) rfl fun V' hF => ?_
      have K := min0S HM.out HZ.out hF
      exact ⟨cells_far HN.out.1 HS3.out hF, K.nodes, K.data, K.kind, K.lk, (by simp), K.ln, K.ld, (fun x hx => by simp at hx; subst hx; simp [nz])⟩
    · clear hn
      have c0 := HX.out.1.cell 3
      have c1 := HX.out.1.frozen 3
      simp [mv] at c0
      go_wp2_with fail
      go_meet
      refine BnI.set HX.out.1 HX.out.2.1 HX.out.2.2.1 3 _ (m' := { m with req := 1 }) (s' := s) rfl fun V' hF => ?_
      have K := min0S HI.out HX.out.2.2.2 hF
      exact ⟨K.ids, K.nodes, K.data, K.kind, K.lk, K.li, K.ln, K.ld, K.lik⟩
    · clear hn
      have c0 := HX.out.1.cell 8
      have c1 := HX.out.1.frozen 8
      simp [mv] at c0
      go_wp2_with fail
      go_meet
      refine BnI.set HX.out.1 HX.out.2.1 HX.out.2.2.1 8 _ (m' := { m with code := -1 }) (s' := s) rfl fun V' hF => ?_
      have K := min0S HI.out HX.out.2.2.2 hF
      exact ⟨K.ids, K.nodes, K.data, K.kind, K.lk, K.li, K.ln, K.ld, K.lik⟩
    · clear hn
      have c0 := HX.out.1.cell 7
      have c1 := HX.out.1.frozen 7
      simp [mv] at c0
      go_wp2_with fail
      go_meet
      refine BnI.set HX.out.1 HX.out.2.1 HX.out.2.2.1 7 _ (m' := { m with size := -1 }) (s' := s) rfl fun V' hF => ?_
      have K := min0S HI.out HX.out.2.2.2 hF
      exact ⟨K.ids, K.nodes, K.data, K.kind, K.lk, K.li, K.ln, K.ld, K.lik⟩
  case rest =>
    obtain ⟨⟨m', s', h1, h2⟩, h3, h4⟩ := hcut
    have HB := Lib.hid (And.intro h1 (And.intro h2 (And.intro h3 h4)))
    clear h1 h2 h3 h4
    go_wp2_with ((with_reducible show wpList _ _ _ ((⟨some 91, _, _, _, _, _⟩ : Oper) :: _) _ _); refine wpList_load_mid rfl 27 (.tmp 2) rfl q 0 rfl (mv m' s').toList _ (range_of HB.out.1) Tryd.underlying27 rfl minfo ?_; refine wpList_store_mid rfl 27 (.tmp 4) (.tmp 91) rfl (q + 1) 0 (mv m' s') rfl rfl (there_of HB.out.2.2.1) minfo (mv_one _ _) ?_)
    have hF := set14_fr wc (q + 1) m' s'
    have hB := set14 HB.out.2.2.1 m' s'
    obtain ⟨w9, hw9⟩ : ∃ x, World.setCells wc (q + 1) 0 (mv m' s').toList = x := ⟨_, rfl⟩
    rw [hw9] at hF hB ⊢
    clear hw9
    have hb9 : Below q w w9 := HB.out.2.2.2.trans (hF.below (Nat.le_of_lt HB.out.1.lt) fun k hk => by omega)
    refine bodyPost_ret (v := .agg (mv m' s')) ?_ rfl ?_
    · have e0 := hB.cell 0
      have e1 := hB.cell 1
      have e2 := hB.cell 2
      have e3 := hB.cell 3
      have e4 := hB.cell 4
      have e5 := hB.cell 5
      have e6 := hB.cell 6
      have e7 := hB.cell 7
      have e8 := hB.cell 8
      have e9 := hB.cell 9
      have e10 := hB.cell 10
      have e11 := hB.cell 11
      have e12 := hB.cell 12
      have e13 := hB.cell 13
      simp [mv] at e0 e1 e2 e3 e4 e5 e6 e7 e8 e9 e10 e11 e12 e13
      simp [results, Tryd.results21, go_sem, e0, e1, e2, e3, e4, e5, e6, e7, e8, e9, e10, e11, e12, e13]
      rfl
    · exact ⟨m', s', rfl, HB.out.2.1 _ (hF.mono fun k _ hk => .inr hk), by rw [HQ.out]; exact hb9⟩
end Go.Proofs.YtebdmfmadbikaaaDoor.WiW
/- The messages of WireKnown, and what is known of them. Plain. Printed by genwknown.py. -/
namespace Go.Proofs.YtebdmfmadbikaaaDoor.WiW
open Fds Wi

/-- A message of a kind, with all fields. -/
def full (k : Nat) : Msg := ⟨k, 65535, 256, 4611686018427387904, [107, 101, 121], 7, 9, 2147483647, 65535, 254, true, [([97], 4611686018427387904), ([], 0)], [0, 254], [100, 97, 116, 97]⟩
/-- One with none. -/
def small (k : Nat) : Msg := ⟨k, 65535, 256, 0, [], 0, 0, 0, 0, 0, false, [], [], []⟩
/-- Served, with so much data. -/
def servd (n : Nat) : Msg := ⟨9, 0, 0, 0, [], 0, 0, 0, 0, 0, false, [], [], nz n⟩
def offer : Msg := ⟨16, 0, 3, 0, [], 0, 7, 0, 0, 0, false, [], [], []⟩
theorem fb_keep (m : Msg) (fs : List Nat) (f : Nat) (h : f ∈ fs) : fb (keep m fs) f = fb m f := by
  match f with
  | 0 | 1 | 2 | 3 | 4 | 5 | 6 | 7 | 8 | 9 | 10 => simp only [fb, keep, if_pos h]
  | f + 11 => rfl
theorem bytes_keep (m : Msg) : Wi.bytes (keep m (flds m.kind)) = Wi.bytes m := by
  have h : ∀ (fs gs : List Nat), (∀ f ∈ gs, f ∈ fs) → gs.flatMap (fb (keep m fs)) = gs.flatMap (fb m) := by
    intro fs gs hg
    induction gs with
    | nil => rfl
    | cons f r ih => rw [List.flatMap_cons, List.flatMap_cons, fb_keep m fs f (hg f (.head _)), ih fun f hf => hg f (.tail _ hf)]
  unfold Wi.bytes
  exact congrArg (head m ++ ·) (h _ _ fun _ h => h)
theorem fk_may (k : Nat) (h1 : 1 ≤ k) (h2 : k ≤ 20) : may (keep (full k) (flds k)) = true := by
  have : ∀ k < 21, 1 ≤ k → may (keep (full k) (flds k)) = true := by decide +kernel
  exact this k (by omega) h1
theorem full_get (k : Nat) (h1 : 1 ≤ k) (h2 : k ≤ 20) : Wi.get (Wi.bytes (full k)) = some (keep (full k) (flds k)) := by
  rw [← bytes_keep]; exact get_put (fk_may k h1 h2)
theorem full_mayB (k : Nat) (h1 : 1 ≤ k) (h2 : k ≤ 20) : MayB (full k) where
  kind := ⟨h1, h2⟩
  frm := by simp [full]
  to_ := by simp [full]
  code := by simp [full]
  req := by simp [full]
  ver := by simp [full]
  inc := by simp [full]
  size := by simp [full]
  node := by simp [full]
  key := by show (3 : Nat) ≤ 64; decide
  ids := by show (2 : Nat) ≤ 64; decide
  nodes := by show (2 : Nat) ≤ 255; decide
  data := by show (4 : Nat) ≤ 65536; decide
  id := by intro x hx; simp [full] at hx; rcases hx with rfl | rfl <;> decide
  nd := by intro x hx; simp [full] at hx; rcases hx with rfl | rfl <;> decide
theorem servd_may (n : Nat) (hn : n ≤ 65536) : may (servd n) = true := by
  refine (may_iff _).2 ⟨by show 1 ≤ 9 ∧ 9 ≤ 20; decide, rfl, by simp [servd], by simp [servd], by simp [servd], by simp [servd], by simp [servd], by simp [servd], by simp [servd], by simp [servd], by simp [servd], by simp [servd], by simp [servd], ?_, fun x hx => (by cases hx), fun x hx => (by cases hx)⟩
  show (nz n).length ≤ 65536
  rw [nz_len]; exact hn
theorem servd_bad (n : Nat) (hn : 65536 < n) : may (servd n) = false := by
  cases h : may (servd n) with
  | false => rfl
  | true =>
    have h1 : (nz n).length ≤ 65536 := ((may_iff _).1 h).data
    rw [nz_len] at h1; omega
theorem offer_may : may offer = true := by decide +kernel
theorem offer_bytes : Wi.bytes offer = [16, 0, 0, 0, 3, 0, 0, 0, 0, 0, 0, 0, 7] := by decide +kernel
end Go.Proofs.YtebdmfmadbikaaaDoor.WiW
/- The document's has, in and long. Printed by genwdoc1.py. -/
namespace Go.Proofs.YtebdmfmadbikaaaDoor.WiW
open Go.RowKit Go.Shelf Mem Fds FdW Wi Rng
set_option linter.unusedVariables false
set_option linter.unusedSimpArgs false

/-- The letters of the fields. -/
def letters : List UInt8 := [82, 75, 86, 73, 83, 67, 78, 66, 68, 76, 80]
def letter (f : Nat) : UInt8 := letters.getD f 0
/-- What has tells. -/
def hasS (k : Nat) : List UInt8 := if isK k then 32 :: (flds k).map letter else []
theorem hasS_len (k : Nat) : (hasS k).length ≤ 6 := by
  by_cases h : k < 21
  · have : ∀ k < 21, (hasS k).length ≤ 6 := by decide
    exact this k h
  · unfold hasS; rw [if_neg (by simp [isK]; omega)]; simp
theorem hasS_in (k f : Nat) (hf : f < 11) : (hasS k).any (fun c => c == letter f) = decide (f ∈ flds k) := by
  by_cases h : k < 21
  · have : ∀ k < 21, ∀ f < 11, (hasS k).any (fun c => c == letter f) = decide (f ∈ flds k) := by decide +kernel
    exact this k h f hf
  · have h1 : isK k = false := by simp [isK]; omega
    unfold hasS; rw [if_neg (by rw [h1]; simp), flds_over h1]; rfl
set_option maxHeartbeats 4000000 in
theorem has_any (w : World) (k : Nat) (hk : k < 256) : Calls Tryd.prog 22 #[.int .u8 (k : Int)] w fun e w' => e = .returned (.string (str (hasS k))) ∧ w = w' := by
  by_cases hk2 : k < 21
  · have : k = 0 ∨ k = 1 ∨ k = 2 ∨ k = 3 ∨ k = 4 ∨ k = 5 ∨ k = 6 ∨ k = 7 ∨ k = 8 ∨ k = 9 ∨ k = 10 ∨ k = 11 ∨ k = 12 ∨ k = 13 ∨ k = 14 ∨ k = 15 ∨ k = 16 ∨ k = 17 ∨ k = 18 ∨ k = 19 ∨ k = 20 := by omega
    rcases this with rfl | rfl | rfl | rfl | rfl | rfl | rfl | rfl | rfl | rfl | rfl | rfl | rfl | rfl | rfl | rfl | rfl | rfl | rfl | rfl | rfl
    · go_enter Tryd.func22, Tryd.ntmps22
      go_wp2_with fail
      go_ret
      exact ⟨rfl, rfl⟩
    · go_enter Tryd.func22, Tryd.ntmps22
      go_wp2_with fail
      go_ret
      exact ⟨rfl, rfl⟩
    · go_enter Tryd.func22, Tryd.ntmps22
      go_wp2_with fail
      go_ret
      exact ⟨rfl, rfl⟩
    · go_enter Tryd.func22, Tryd.ntmps22
      go_wp2_with fail
      go_ret
      exact ⟨rfl, rfl⟩
    · go_enter Tryd.func22, Tryd.ntmps22
      go_wp2_with fail
      go_ret
      exact ⟨rfl, rfl⟩
    · go_enter Tryd.func22, Tryd.ntmps22
      go_wp2_with fail
      go_ret
      exact ⟨rfl, rfl⟩
    · go_enter Tryd.func22, Tryd.ntmps22
      go_wp2_with fail
      go_ret
      exact ⟨rfl, rfl⟩
    · go_enter Tryd.func22, Tryd.ntmps22
      go_wp2_with fail
      go_ret
      exact ⟨rfl, rfl⟩
    · go_enter Tryd.func22, Tryd.ntmps22
      go_wp2_with fail
      go_ret
      exact ⟨rfl, rfl⟩
    · go_enter Tryd.func22, Tryd.ntmps22
      go_wp2_with fail
      go_ret
      exact ⟨rfl, rfl⟩
    · go_enter Tryd.func22, Tryd.ntmps22
      go_wp2_with fail
      go_ret
      exact ⟨rfl, rfl⟩
    · go_enter Tryd.func22, Tryd.ntmps22
      go_wp2_with fail
      go_ret
      exact ⟨rfl, rfl⟩
    · go_enter Tryd.func22, Tryd.ntmps22
      go_wp2_with fail
      go_ret
      exact ⟨rfl, rfl⟩
    · go_enter Tryd.func22, Tryd.ntmps22
      go_wp2_with fail
      go_ret
      exact ⟨rfl, rfl⟩
    · go_enter Tryd.func22, Tryd.ntmps22
      go_wp2_with fail
      go_ret
      exact ⟨rfl, rfl⟩
    · go_enter Tryd.func22, Tryd.ntmps22
      go_wp2_with fail
      go_ret
      exact ⟨rfl, rfl⟩
    · go_enter Tryd.func22, Tryd.ntmps22
      go_wp2_with fail
      go_ret
      exact ⟨rfl, rfl⟩
    · go_enter Tryd.func22, Tryd.ntmps22
      go_wp2_with fail
      go_ret
      exact ⟨rfl, rfl⟩
    · go_enter Tryd.func22, Tryd.ntmps22
      go_wp2_with fail
      go_ret
      exact ⟨rfl, rfl⟩
    · go_enter Tryd.func22, Tryd.ntmps22
      go_wp2_with fail
      go_ret
      exact ⟨rfl, rfl⟩
    · go_enter Tryd.func22, Tryd.ntmps22
      go_wp2_with fail
      go_ret
      exact ⟨rfl, rfl⟩
  · have hs : hasS k = [] := by unfold hasS; rw [if_neg (by simp [isK]; omega)]
    rw [hs]
    have e1 : ((k : Int) == 1) = false := by rw [beq_eq_false_iff_ne]; omega
    have e2 : ((k : Int) == 2) = false := by rw [beq_eq_false_iff_ne]; omega
    have e3 : ((k : Int) == 3) = false := by rw [beq_eq_false_iff_ne]; omega
    have e4 : ((k : Int) == 4) = false := by rw [beq_eq_false_iff_ne]; omega
    have e5 : ((k : Int) == 5) = false := by rw [beq_eq_false_iff_ne]; omega
    have e6 : ((k : Int) == 6) = false := by rw [beq_eq_false_iff_ne]; omega
    have e7 : ((k : Int) == 7) = false := by rw [beq_eq_false_iff_ne]; omega
    have e8 : ((k : Int) == 8) = false := by rw [beq_eq_false_iff_ne]; omega
    have e9 : ((k : Int) == 9) = false := by rw [beq_eq_false_iff_ne]; omega
    have e10 : ((k : Int) == 10) = false := by rw [beq_eq_false_iff_ne]; omega
    have e11 : ((k : Int) == 11) = false := by rw [beq_eq_false_iff_ne]; omega
    have e12 : ((k : Int) == 12) = false := by rw [beq_eq_false_iff_ne]; omega
    have e13 : ((k : Int) == 13) = false := by rw [beq_eq_false_iff_ne]; omega
    have e14 : ((k : Int) == 14) = false := by rw [beq_eq_false_iff_ne]; omega
    have e15 : ((k : Int) == 15) = false := by rw [beq_eq_false_iff_ne]; omega
    have e16 : ((k : Int) == 16) = false := by rw [beq_eq_false_iff_ne]; omega
    have e17 : ((k : Int) == 17) = false := by rw [beq_eq_false_iff_ne]; omega
    have e18 : ((k : Int) == 18) = false := by rw [beq_eq_false_iff_ne]; omega
    have e19 : ((k : Int) == 19) = false := by rw [beq_eq_false_iff_ne]; omega
    have e20 : ((k : Int) == 20) = false := by rw [beq_eq_false_iff_ne]; omega
    clear hs hk hk2
    go_enter Tryd.func22, Tryd.ntmps22
    go_wp2_with fail
    go_ret
    exact ⟨rfl, rfl⟩
theorem any_take (l : List UInt8) (c : UInt8) (j : Nat) (h : j < l.length) : (l.take (j + 1)).any (fun x => x == c) = ((l.take j).any (fun x => x == c) || (l[j] == c)) := by
  rw [List.take_succ_eq_append_getElem h, List.any_append]; simp
theorem str_get (l : List UInt8) (j : Nat) (h : j < l.length) (h2 : j < (str l).size) : (str l)[j] = l[j] := rfl
set_option maxHeartbeats 4000000 in
theorem in_any (w : World) (k : Nat) (hk : k < 256) (f : Nat) (hf : f < 11) (c : Nat) (hc : (letter f).toNat = c) : Calls Tryd.prog 26 #[.int .u8 (k : Int), .int .u8 (c : Int)] w fun e w' => e = .returned (.bool (decide (f ∈ flds k))) ∧ w = w' := by
  rw [← hasS_in k f hf]
  obtain ⟨l, hl⟩ : ∃ l, hasS k = l := ⟨_, rfl⟩
  obtain ⟨C, hC⟩ : ∃ C, letter f = C := ⟨_, rfl⟩
  obtain ⟨n, hn⟩ : ∃ n, l.length = n := ⟨_, rfl⟩
  have hn6 : n ≤ 6 := by have := hasS_len k; rw [hl, hn] at this; exact this
  rw [hC] at hc
  rw [hl, hC]
  have HL := Lib.hid (And.intro hl (And.intro hn (And.intro hc hk)))
  have hz : (str l).size = n := by rw [str_size, hn]
  have h6 : (n : Int) ≤ 6 := by omega
  clear hl hC hn hc hk hf
  go_enter Tryd.func26, Tryd.ntmps26
  go_wp2_with fail
  refine (has_any w k HL.out.2.2.2).mono ?_
  rintro e w1 ⟨rfl, rfl⟩
  rw [HL.out.1]
  go_wp2_with fail
  go_loop [6] (fun i => ∃ j : Nat, i = .int .i64 (j : Int) ∧ j ≤ n ∧ (l.take j).any (fun x => x == C) = false) (fun i => n - (intOf i).toNat)
  case atStart => exact ⟨0, rfl, Nat.zero_le _, rfl⟩
  case round =>
    obtain ⟨j, rfl, hj, ha⟩ := hrel
    have HA := Lib.hid ha
    by_cases hjn : j < n
    · have hjl : j < l.length := by rw [HL.out.2.1]; exact hjn
      have h1 : (j : Int) < (n : Int) := by omega
      have h0 : (0 : Int) ≤ (j : Int) := by omega
      have hjs : j < (str l).size := by rw [str_size, HL.out.2.1]; exact hjn
      have hg := str_get l j hjl hjs
      obtain ⟨x, hx⟩ : ∃ x, l[j] = x := ⟨_, rfl⟩
      rw [hx] at hg
      have HT := Lib.hid (show (l.take (j + 1)).any (fun x => x == C) = (x == C) by rw [any_take l C j hjl, HA.out, ← hx]; rfl)
      have HJ := Lib.hid (And.intro hjn (And.intro hjl hx))
      clear hx ha
      by_cases hxc : x = C
      · have hb : ((x.toNat : Int) == (c : Int)) = true := by rw [hxc, beq_iff_eq, HL.out.2.2.1]
        have HF := Lib.hid (show l.any (fun x => x == C) = true by
          rw [List.any_eq_true]
          have hm : l[j]'HJ.out.2.1 ∈ l := List.getElem_mem _
          have hx2 : l[j]'HJ.out.2.1 = x := HJ.out.2.2
          rw [hx2] at hm
          exact ⟨x, hm, by rw [hxc]; simp⟩)
        clear hxc
        go_wp2_with fail
        go_ret
        exact ⟨congrArg (fun b => Ending.returned (.bool b)) HF.out.symm, rfl⟩
      · have hb : ((x.toNat : Int) == (c : Int)) = false := by
          rw [beq_eq_false_iff_ne]; intro h
          have : x.toNat = C.toNat := by rw [HL.out.2.2.1]; omega
          exact hxc (UInt8.toNat_inj.1 this)
        have HF := Lib.hid (show (l.take (j + 1)).any (fun x => x == C) = false by rw [HT.out, beq_eq_false_iff_ne]; exact hxc)
        clear hxc
        go_wp2_with fail
        go_round
        case rel => exact ⟨j + 1, by go_num, HJ.out.1, HF.out⟩
        case measure => simp [intOf]; have := HJ.out.1; omega
    · obtain rfl : j = n := by omega
      have h1 : ¬ (j : Int) < (j : Int) := by omega
      rw [List.take_of_length_le (by rw [HL.out.2.1]; exact Nat.le_refl _)] at HA
      clear ha hjn
      go_wp2_with fail
      go_ret
      exact ⟨congrArg (fun b => Ending.returned (.bool b)) HA.out.symm, rfl⟩
/-- Is a number from 0 to 2^62? -/
theorem rlong_any (w : World) (n : Int) : Calls Tryd.prog 24 #[.int .i64 n] w fun e w' => e = .returned (.bool (wi long n)) ∧ w = w' := by
  by_cases h1 : 0 ≤ n
  · have hr : wi long n = decide (n ≤ 4611686018427387904) := by unfold wi; rw [decide_eq_true h1]; rfl
    rw [hr]
    have d1 : decide (0 ≤ n) = true := decide_eq_true h1
    clear hr
    obtain ⟨d, hd⟩ : ∃ d, decide (n ≤ 4611686018427387904) = d := ⟨_, rfl⟩
    rw [hd]
    go_enter Tryd.func24, Tryd.ntmps24
    go_wp2_with fail
    go_ret
    exact ⟨rfl, rfl⟩
  · have hr : wi long n = false := by simp [wi, h1]
    rw [hr]
    have d1 : decide (0 ≤ n) = false := decide_eq_false h1
    clear hr
    go_enter Tryd.func24, Tryd.ntmps24
    go_wp2_with fail
    go_ret
    exact ⟨rfl, rfl⟩
end Go.Proofs.YtebdmfmadbikaaaDoor.WiW
/- The document's bare. Printed by genwdoc2.py (raw numbers of the seat). -/
namespace Go.Proofs.YtebdmfmadbikaaaDoor.WiW
open Go.RowKit Go.Shelf Mem Fds FdW Wi Rng
set_option linter.unusedVariables false
set_option linter.unusedSimpArgs false

theorem in_wp {Q : Exit → Act → World → Prop} (w : World) (k : Nat) (hk : k < 256) (f : Nat) (hf : f < 11) (c : Nat) (hc : (letter f).toNat = c) (b : Act) (K : Act → World → Prop) (x d : Nat) (ty : TypeId) (ps : String) (af : Array Edge) (gd : Option (Nat × Bool)) (hx : b.eval (.tmp x) = .int .u8 (k : Int))
    (hK : K (b.put (some d) (.bool (decide (f ∈ flds k)))) w) : Oper.wp Tryd.prog ⟨some d, .call { callee := .value (.func 26), args := #[.tmp x, .const (.int .u8 (c : Int))], argTypes := #[5, 5] }, ty, ps, af, gd⟩ b w K Q := by
  have h2 := hx
  simp [Act.eval] at h2
  unfold Oper.wp
  simp [execOp, h2, go_sem]
  refine (in_any w k hk f hf c hc).mono ?_
  rintro e w1 ⟨rfl, rfl⟩
  exact hK
theorem eql_wp {Q : Exit → Act → World → Prop} (w : World) (T TR : TypeId) (b : Act) (K : Act → World → Prop) (x d : Nat) (z v : Value) (r : Bool) (ty : TypeId) (ps : String) (af : Array Edge) (gd : Option (Nat × Bool)) (hx : b.eval (.tmp x) = v)
    (hq : ∀ o1 o2, (do eqGuard .eql T o1 o2 v z; binOp .eql T v z : Sem Value).run Tryd.prog w = .ok (.bool r) w) (hK : K (b.put (some d) (.bool r)) w) : Oper.wp Tryd.prog ⟨some d, .binOp .eql T (.tmp x) (.const z) TR, ty, ps, af, gd⟩ b w K Q := by
  refine Chain.op_wp (v := .bool r) ?_ hK
  have q := hq (.tmp x) (.const z)
  have hz : b.eval (.const z) = z := rfl
  simp only [execOp, hx, hz]
  rw [Sem.run_bind, q]; rfl
theorem not_wp {Q : Exit → Act → World → Prop} (w : World) (b : Act) (K : Act → World → Prop) (x d : Nat) (r : Bool) (ty : TypeId) (ps : String) (af : Array Edge) (gd : Option (Nat × Bool)) (hx : b.eval (.tmp x) = .bool r)
    (hK : K (b.put (some d) (.bool (!r))) w) : Oper.wp Tryd.prog ⟨some d, .unOp .not 4 (.tmp x), ty, ps, af, gd⟩ b w K Q := by
  refine Chain.op_wp (v := .bool (!r)) ?_ hK
  have h2 := hx
  simp [Act.eval] at h2
  simp [execOp, h2, go_sem]
/-- Has a message only what its kind has? -/
def bareB (m : Msg) : Bool := same m (keep m (flds m.kind))
theorem bare_eq (m : Msg) : (((((((((((decide (0 ∈ flds m.kind) || (m.req == 0)) && (decide (1 ∈ flds m.kind) || ((str m.key).toList == (str []).toList))) && (decide (2 ∈ flds m.kind) || (m.ver == 0))) && (decide (3 ∈ flds m.kind) || (m.inc == 0))) && (decide (4 ∈ flds m.kind) || (m.size == 0))) && (decide (5 ∈ flds m.kind) || (m.code == 0))) && (decide (6 ∈ flds m.kind) || (m.node == 0))) && (decide (7 ∈ flds m.kind) || (!m.back))) && (decide (8 ∈ flds m.kind) || (((m.ids.length : Nat) : Int) == 0))) && (decide (9 ∈ flds m.kind) || (((m.nodes.length : Nat) : Int) == 0))) && (decide (10 ∈ flds m.kind) || ((str m.data).toList == (str []).toList))) = bareB m := by
  unfold bareB
  rw [Bool.eq_iff_iff, same_iff]
  simp only [Bool.and_eq_true, Bool.or_eq_true, decide_eq_true_eq, beq_iff_eq, Bool.not_eq_true', str_toList]
  obtain ⟨k, f, t, r, ky, v, i, sz, cd, nd, bk, ids, ns, dt⟩ := m
  simp only [keep, Msg.mk.injEq, true_and]
  have e : ∀ {α : Type} (c : Prop) [Decidable c] (x y : α), x = (if c then x else y) ↔ (c ∨ x = y) := fun c _ x y => by
    by_cases h : c <;> simp [h]
  simp only [e, and_assoc]
  have l1 : ((ids.length : Int) = 0) ↔ ids = [] := by rw [Int.natCast_eq_zero, List.length_eq_zero_iff]
  have l2 : ((ns.length : Int) = 0) ↔ ns = [] := by rw [Int.natCast_eq_zero, List.length_eq_zero_iff]
  rw [l1, l2]
set_option maxRecDepth 100000 in
set_option maxHeartbeats 16000000 in
theorem rbare_any (w : World) (m : Msg) (A : Option Addr) (c : Nat) (na : Option Addr) (nc : Nat) (hk : m.kind < 256) :
    Calls Tryd.prog 23 #[.agg (pv m A c na nc)] w fun e w' => e = .returned (.bool (bareB m)) ∧ Below w.heap.size w w' := by
  obtain ⟨bx, hbx⟩ : ∃ bx, w.heap.size = bx := ⟨_, rfl⟩
  obtain ⟨w1, hw1⟩ : ∃ x : World, w.alloc (.cells (pv m A c na nc) 33) = x := ⟨_, rfl⟩
  have hb1 : Below w.heap.size w w1 := by rw [← hw1]; exact nextA (Mem.start w) _
  have HB1 := Lib.hid hb1
  have HX := Lib.hid (show Blk w1 bx 33 (pv m A c na nc) by rw [← hw1, ← hbx]; exact Blk.new w _ _)
  have ca0 := HX.out.cell 0
  simp [pv, pvk] at ca0
  have HK := Lib.hid hk
  have HR := Lib.hid (bare_eq m)
  clear hb1 hk
  go_enter Tryd.func23, Tryd.ntmps23
  refine cut1 fun C' hC => ?_
  have HC := Lib.hid hC
  clear hC
  go_wp2_with fail
  refine HC.out _ _ ?_
  clear HC
  refine cut1 fun C' hC => ?_
  have HC := Lib.hid hC
  clear hC
  go_wp2_with fail
  refine HC.out _ _ ?_
  clear HC
  refine wp_seq ?_
  refine wp_region_lit ?_
  refine Chain.step_on (d := 6) rfl (by simp [Region.wanted]) (v := .int .u8 ((m.kind : Nat) : Int)) (by simp [execOp, Act.eval]) ?_; simp only [Act.put, List.setIfInBounds_toArray, List.set_cons_zero, List.set_cons_succ]
  refine Chain.step_wp (by simp [Region.wanted]) (in_wp _ m.kind HK.out 0 (by decide) 82 rfl _ _ 6 7 _ _ _ _ rfl ?_); simp only [Act.put, List.setIfInBounds_toArray, List.set_cons_zero, List.set_cons_succ]
  refine Chain.or1 105 7 2 3 bx 33 2 (decide (0 ∈ flds m.kind)) (m.req == 0) (.int .i64 m.req) (by decide) (by decide) (by rfl) (by rfl) (by rfl) (by rfl) (dfld3 _ _) (ld _ _ Tryd.isAgg2 (by have := HX.out.cell 3; simpa [pv, pvk] using this)) (fun b K hb hK => eql_wp _ _ _ b K _ _ (.int .i64 0) _ (m.req == 0) _ _ _ _ hb (fun o1 o2 => meq2 o1 o2 _ _ _ rfl _) hK) ?_; intro j2 j3 j4; simp only [Act.put, List.setIfInBounds_toArray, List.set_cons_zero, List.set_cons_succ]
  refine Chain.and1 105 12 7 10 4 bx m.kind 33 9 (decide (0 ∈ flds m.kind) || (m.req == 0)) (decide (1 ∈ flds m.kind)) ((str m.key).toList == (str []).toList) (.string (str m.key)) (by decide) (by decide) (by rfl) (by rfl) (by rfl) (by rfl) (by rfl) (by rfl) (dfld4 _ _) (ld _ _ Tryd.isAgg9 (by have := HX.out.cell 4; simpa [pv, pvk] using this)) (fun b K hb hK => in_wp _ m.kind HK.out 1 (by decide) 75 rfl b K _ _ _ _ _ _ hb hK) (fun b K hb hK => eql_wp _ _ _ b K _ _ (.string (str [])) _ ((str m.key).toList == (str []).toList) _ _ _ _ hb (fun o1 o2 => meq9 o1 o2 _ _ _ rfl _) hK) ?_; intro j2 j3 j4 j5 j6 j7 j8; simp only [Act.put, List.setIfInBounds_toArray, List.set_cons_zero, List.set_cons_succ]
  refine Chain.and1 105 21 16 19 5 bx m.kind 33 2 ((decide (0 ∈ flds m.kind) || (m.req == 0)) && (decide (1 ∈ flds m.kind) || ((str m.key).toList == (str []).toList))) (decide (2 ∈ flds m.kind)) (m.ver == 0) (.int .i64 m.ver) (by decide) (by decide) (by rfl) (by rfl) (by rfl) (by rfl) (by rfl) (by rfl) (dfld5 _ _) (ld _ _ Tryd.isAgg2 (by have := HX.out.cell 5; simpa [pv, pvk] using this)) (fun b K hb hK => in_wp _ m.kind HK.out 2 (by decide) 86 rfl b K _ _ _ _ _ _ hb hK) (fun b K hb hK => eql_wp _ _ _ b K _ _ (.int .i64 0) _ (m.ver == 0) _ _ _ _ hb (fun o1 o2 => meq2 o1 o2 _ _ _ rfl _) hK) ?_; intro j2 j3 j4 j5 j6 j7 j8; simp only [Act.put, List.setIfInBounds_toArray, List.set_cons_zero, List.set_cons_succ]
  refine Chain.and1 105 30 25 28 6 bx m.kind 33 2 (((decide (0 ∈ flds m.kind) || (m.req == 0)) && (decide (1 ∈ flds m.kind) || ((str m.key).toList == (str []).toList))) && (decide (2 ∈ flds m.kind) || (m.ver == 0))) (decide (3 ∈ flds m.kind)) (m.inc == 0) (.int .i64 m.inc) (by decide) (by decide) (by rfl) (by rfl) (by rfl) (by rfl) (by rfl) (by rfl) (dfld6 _ _) (ld _ _ Tryd.isAgg2 (by have := HX.out.cell 6; simpa [pv, pvk] using this)) (fun b K hb hK => in_wp _ m.kind HK.out 3 (by decide) 73 rfl b K _ _ _ _ _ _ hb hK) (fun b K hb hK => eql_wp _ _ _ b K _ _ (.int .i64 0) _ (m.inc == 0) _ _ _ _ hb (fun o1 o2 => meq2 o1 o2 _ _ _ rfl _) hK) ?_; intro j2 j3 j4 j5 j6 j7 j8; simp only [Act.put, List.setIfInBounds_toArray, List.set_cons_zero, List.set_cons_succ]
  refine Chain.and1 105 39 34 37 7 bx m.kind 33 3 ((((decide (0 ∈ flds m.kind) || (m.req == 0)) && (decide (1 ∈ flds m.kind) || ((str m.key).toList == (str []).toList))) && (decide (2 ∈ flds m.kind) || (m.ver == 0))) && (decide (3 ∈ flds m.kind) || (m.inc == 0))) (decide (4 ∈ flds m.kind)) (m.size == 0) (.int .i64 m.size) (by decide) (by decide) (by rfl) (by rfl) (by rfl) (by rfl) (by rfl) (by rfl) (dfld7 _ _) (ld _ _ Tryd.isAgg3 (by have := HX.out.cell 7; simpa [pv, pvk] using this)) (fun b K hb hK => in_wp _ m.kind HK.out 4 (by decide) 83 rfl b K _ _ _ _ _ _ hb hK) (fun b K hb hK => eql_wp _ _ _ b K _ _ (.int .i64 0) _ (m.size == 0) _ _ _ _ hb (fun o1 o2 => meq3 o1 o2 _ _ _ rfl _) hK) ?_; intro j2 j3 j4 j5 j6 j7 j8; simp only [Act.put, List.setIfInBounds_toArray, List.set_cons_zero, List.set_cons_succ]
  refine Chain.and1 105 48 43 46 8 bx m.kind 33 3 (((((decide (0 ∈ flds m.kind) || (m.req == 0)) && (decide (1 ∈ flds m.kind) || ((str m.key).toList == (str []).toList))) && (decide (2 ∈ flds m.kind) || (m.ver == 0))) && (decide (3 ∈ flds m.kind) || (m.inc == 0))) && (decide (4 ∈ flds m.kind) || (m.size == 0))) (decide (5 ∈ flds m.kind)) (m.code == 0) (.int .i64 m.code) (by decide) (by decide) (by rfl) (by rfl) (by rfl) (by rfl) (by rfl) (by rfl) (dfld8 _ _) (ld _ _ Tryd.isAgg3 (by have := HX.out.cell 8; simpa [pv, pvk] using this)) (fun b K hb hK => in_wp _ m.kind HK.out 5 (by decide) 67 rfl b K _ _ _ _ _ _ hb hK) (fun b K hb hK => eql_wp _ _ _ b K _ _ (.int .i64 0) _ (m.code == 0) _ _ _ _ hb (fun o1 o2 => meq3 o1 o2 _ _ _ rfl _) hK) ?_; intro j2 j3 j4 j5 j6 j7 j8; simp only [Act.put, List.setIfInBounds_toArray, List.set_cons_zero, List.set_cons_succ]
  refine Chain.and1 105 57 52 55 9 bx m.kind 33 3 ((((((decide (0 ∈ flds m.kind) || (m.req == 0)) && (decide (1 ∈ flds m.kind) || ((str m.key).toList == (str []).toList))) && (decide (2 ∈ flds m.kind) || (m.ver == 0))) && (decide (3 ∈ flds m.kind) || (m.inc == 0))) && (decide (4 ∈ flds m.kind) || (m.size == 0))) && (decide (5 ∈ flds m.kind) || (m.code == 0))) (decide (6 ∈ flds m.kind)) (m.node == 0) (.int .i64 m.node) (by decide) (by decide) (by rfl) (by rfl) (by rfl) (by rfl) (by rfl) (by rfl) (dfld9 _ _) (ld _ _ Tryd.isAgg3 (by have := HX.out.cell 9; simpa [pv, pvk] using this)) (fun b K hb hK => in_wp _ m.kind HK.out 6 (by decide) 78 rfl b K _ _ _ _ _ _ hb hK) (fun b K hb hK => eql_wp _ _ _ b K _ _ (.int .i64 0) _ (m.node == 0) _ _ _ _ hb (fun o1 o2 => meq3 o1 o2 _ _ _ rfl _) hK) ?_; intro j2 j3 j4 j5 j6 j7 j8; simp only [Act.put, List.setIfInBounds_toArray, List.set_cons_zero, List.set_cons_succ]
  refine Chain.and1 105 66 61 64 10 bx m.kind 33 4 (((((((decide (0 ∈ flds m.kind) || (m.req == 0)) && (decide (1 ∈ flds m.kind) || ((str m.key).toList == (str []).toList))) && (decide (2 ∈ flds m.kind) || (m.ver == 0))) && (decide (3 ∈ flds m.kind) || (m.inc == 0))) && (decide (4 ∈ flds m.kind) || (m.size == 0))) && (decide (5 ∈ flds m.kind) || (m.code == 0))) && (decide (6 ∈ flds m.kind) || (m.node == 0))) (decide (7 ∈ flds m.kind)) (!m.back) (.bool m.back) (by decide) (by decide) (by rfl) (by rfl) (by rfl) (by rfl) (by rfl) (by rfl) (dfld10 _ _) (ld _ _ Tryd.isAgg4 (by have := HX.out.cell 10; simpa [pv, pvk] using this)) (fun b K hb hK => in_wp _ m.kind HK.out 7 (by decide) 66 rfl b K _ _ _ _ _ _ hb hK) (fun b K hb hK => not_wp _ b K _ _ _ _ _ _ _ hb hK) ?_; intro j2 j3 j4 j5 j6 j7 j8; simp only [Act.put, List.setIfInBounds_toArray, List.set_cons_zero, List.set_cons_succ]
  refine Chain.and2 105 75 70 73 11 bx m.kind 33 31 ((((((((decide (0 ∈ flds m.kind) || (m.req == 0)) && (decide (1 ∈ flds m.kind) || ((str m.key).toList == (str []).toList))) && (decide (2 ∈ flds m.kind) || (m.ver == 0))) && (decide (3 ∈ flds m.kind) || (m.inc == 0))) && (decide (4 ∈ flds m.kind) || (m.size == 0))) && (decide (5 ∈ flds m.kind) || (m.code == 0))) && (decide (6 ∈ flds m.kind) || (m.node == 0))) && (decide (7 ∈ flds m.kind) || (!m.back))) (decide (8 ∈ flds m.kind)) (((m.ids.length : Nat) : Int) == 0) (.slice A m.ids.length c) (.int .i64 ((m.ids.length : Nat) : Int)) (by decide) (by decide) (by rfl) (by rfl) (by rfl) (by rfl) (by rfl) (by rfl) (dfld11 _ _) (ld _ _ Tryd.isAgg31 (by have := HX.out.cell 11; simpa [pv, pvk] using this)) (fun b K hb hK => in_wp _ m.kind HK.out 8 (by decide) 68 rfl b K _ _ _ _ _ _ hb hK) (fun b K hb hK => Chain.op_wp (dlen_ids (x := 0) _ _ _ _ _ _ _ hb) hK) (fun b K hb hK => eql_wp _ _ _ b K _ _ (.int .i64 0) _ (((m.ids.length : Nat) : Int) == 0) _ _ _ _ hb (fun o1 o2 => meq3 o1 o2 _ _ _ rfl _) hK) ?_; intro j2 j3 j4 j5 j6 j7 j8 j9; simp only [Act.put, List.setIfInBounds_toArray, List.set_cons_zero, List.set_cons_succ]
  refine Chain.and2 105 85 80 83 12 bx m.kind 33 24 (((((((((decide (0 ∈ flds m.kind) || (m.req == 0)) && (decide (1 ∈ flds m.kind) || ((str m.key).toList == (str []).toList))) && (decide (2 ∈ flds m.kind) || (m.ver == 0))) && (decide (3 ∈ flds m.kind) || (m.inc == 0))) && (decide (4 ∈ flds m.kind) || (m.size == 0))) && (decide (5 ∈ flds m.kind) || (m.code == 0))) && (decide (6 ∈ flds m.kind) || (m.node == 0))) && (decide (7 ∈ flds m.kind) || (!m.back))) && (decide (8 ∈ flds m.kind) || (((m.ids.length : Nat) : Int) == 0))) (decide (9 ∈ flds m.kind)) (((m.nodes.length : Nat) : Int) == 0) (.slice na m.nodes.length nc) (.int .i64 ((m.nodes.length : Nat) : Int)) (by decide) (by decide) (by rfl) (by rfl) (by rfl) (by rfl) (by rfl) (by rfl) (dfld12 _ _) (ld _ _ Tryd.isAgg24 (by have := HX.out.cell 12; simpa [pv, pvk] using this)) (fun b K hb hK => in_wp _ m.kind HK.out 9 (by decide) 76 rfl b K _ _ _ _ _ _ hb hK) (fun b K hb hK => Chain.op_wp (dlen_ints (x := 0) _ _ _ _ _ _ _ hb) hK) (fun b K hb hK => eql_wp _ _ _ b K _ _ (.int .i64 0) _ (((m.nodes.length : Nat) : Int) == 0) _ _ _ _ hb (fun o1 o2 => meq3 o1 o2 _ _ _ rfl _) hK) ?_; intro j2 j3 j4 j5 j6 j7 j8 j9; simp only [Act.put, List.setIfInBounds_toArray, List.set_cons_zero, List.set_cons_succ]
  refine Chain.and1 105 95 90 93 13 bx m.kind 33 9 ((((((((((decide (0 ∈ flds m.kind) || (m.req == 0)) && (decide (1 ∈ flds m.kind) || ((str m.key).toList == (str []).toList))) && (decide (2 ∈ flds m.kind) || (m.ver == 0))) && (decide (3 ∈ flds m.kind) || (m.inc == 0))) && (decide (4 ∈ flds m.kind) || (m.size == 0))) && (decide (5 ∈ flds m.kind) || (m.code == 0))) && (decide (6 ∈ flds m.kind) || (m.node == 0))) && (decide (7 ∈ flds m.kind) || (!m.back))) && (decide (8 ∈ flds m.kind) || (((m.ids.length : Nat) : Int) == 0))) && (decide (9 ∈ flds m.kind) || (((m.nodes.length : Nat) : Int) == 0))) (decide (10 ∈ flds m.kind)) ((str m.data).toList == (str []).toList) (.string (str m.data)) (by decide) (by decide) (by rfl) (by rfl) (by rfl) (by rfl) (by rfl) (by rfl) (dfld13 _ _) (ld _ _ Tryd.isAgg9 (by have := HX.out.cell 13; simpa [pv, pvk] using this)) (fun b K hb hK => in_wp _ m.kind HK.out 10 (by decide) 80 rfl b K _ _ _ _ _ _ hb hK) (fun b K hb hK => eql_wp _ _ _ b K _ _ (.string (str [])) _ ((str m.data).toList == (str []).toList) _ _ _ _ hb (fun o1 o2 => meq9 o1 o2 _ _ _ rfl _) hK) ?_; intro j2 j3 j4 j5 j6 j7 j8; simp only [Act.put, List.setIfInBounds_toArray, List.set_cons_zero, List.set_cons_succ]
  rw [HR.out]
  refine Chain.step_on (d := 2) rfl (by simp [Region.wanted]) (v := .bool (bareB m)) (by simp [execOp, Act.eval]) ?_; simp only [Act.put, List.setIfInBounds_toArray, List.set_cons_zero, List.set_cons_succ]
  refine wpList_nil ?_
  simp only [Exit.then]
  go_wp2_with fail
  go_ret
  exact ⟨rfl, HB1.out⟩
end Go.Proofs.YtebdmfmadbikaaaDoor.WiW
/- The document's May. Printed by genwdoc3.py (raw numbers of the seat). -/
namespace Go.Proofs.YtebdmfmadbikaaaDoor.WiW
open Go.RowKit Go.Shelf Mem Fds FdW Wi Rng
set_option linter.unusedVariables false
set_option linter.unusedSimpArgs false

theorem bin_wp {Q : Exit → Act → World → Prop} (bo : BinOp) (w : World) (T TR : TypeId) (b : Act) (K : Act → World → Prop) (x d : Nat) (z v : Value) (r : Bool) (ty : TypeId) (ps : String) (af : Array Edge) (gd : Option (Nat × Bool)) (hx : b.eval (.tmp x) = v)
    (hq : ∀ o1 o2, (do eqGuard bo T o1 o2 v z; binOp bo T v z : Sem Value).run Tryd.prog w = .ok (.bool r) w) (hK : K (b.put (some d) (.bool r)) w) : Oper.wp Tryd.prog ⟨some d, .binOp bo T (.tmp x) (.const z) TR, ty, ps, af, gd⟩ b w K Q := by
  refine Chain.op_wp (v := .bool r) ?_ hK
  have q := hq (.tmp x) (.const z)
  have hz : b.eval (.const z) = z := rfl
  simp only [execOp, hx, hz]
  rw [Sem.run_bind, q]; rfl
theorem long_wp {Q : Exit → Act → World → Prop} (w : World) (n : Int) (b : Act) (K : Act → World → Prop) (x d : Nat) (ty : TypeId) (ps : String) (af : Array Edge) (gd : Option (Nat × Bool)) (hx : b.eval (.tmp x) = .int .i64 n)
    (hK : K (b.put (some d) (.bool (wi long n))) w) : Oper.wp Tryd.prog ⟨some d, .call { callee := .value (.func 24), args := #[.tmp x], argTypes := #[2] }, ty, ps, af, gd⟩ b w K Q := by
  have h2 := hx
  simp [Act.eval] at h2
  unfold Oper.wp
  simp [execOp, h2, go_sem]
  refine (rlong_any w n).mono ?_
  rintro e w1 ⟨rfl, rfl⟩
  exact hK
theorem has_wp {Q : Exit → Act → World → Prop} (w : World) (k : Nat) (hk : k < 256) (b : Act) (K : Act → World → Prop) (x d : Nat) (ty : TypeId) (ps : String) (af : Array Edge) (gd : Option (Nat × Bool)) (hx : b.eval (.tmp x) = .int .u8 (k : Int))
    (hK : K (b.put (some d) (.string (str (hasS k)))) w) : Oper.wp Tryd.prog ⟨some d, .call { callee := .value (.func 22), args := #[.tmp x], argTypes := #[5] }, ty, ps, af, gd⟩ b w K Q := by
  have h2 := hx
  simp [Act.eval] at h2
  unfold Oper.wp
  simp [execOp, h2, go_sem]
  refine (has_any w k hk).mono ?_
  rintro e w1 ⟨rfl, rfl⟩
  exact hK
theorem bare_wp {Q : Exit → Act → World → Prop} (w : World) (m : Msg) (A : Option Addr) (c : Nat) (na : Option Addr) (nc : Nat) (hk : m.kind < 256) (b : Act) (K : Act → World → Prop) (x d : Nat) (ty : TypeId) (ps : String) (af : Array Edge) (gd : Option (Nat × Bool)) (hx : b.eval (.tmp x) = .agg (pv m A c na nc))
    (hK : ∀ w2, Below w.heap.size w w2 → K (b.put (some d) (.bool (bareB m))) w2) : Oper.wp Tryd.prog ⟨some d, .call { callee := .value (.func 23), args := #[.tmp x], argTypes := #[33] }, ty, ps, af, gd⟩ b w K Q := by
  have h2 := hx
  simp [Act.eval] at h2
  unfold Oper.wp
  simp [execOp, h2, go_sem]
  refine (rbare_any w m A c na nc hk).mono ?_
  rintro e w1 ⟨rfl, hb⟩
  exact hK w1 hb
theorem load_pv {w : World} {b : Nat} {m : Msg} {A : Option Addr} {c : Nat} {na : Option Addr} {nc : Nat} (h : Blk w b 33 (pv m A c na nc)) : (Instr.loadAt 33 (.pointer (some ⟨b, 0, none⟩))).run Tryd.prog w = .ok (.agg (pv m A c na nc)) w := by
  have := run_loadAt_mid (P := Tryd.prog) w b 0 33 (pv m A c na nc).toList _ (range_of h) Tryd.underlying33 rfl pinfo
  exact this
theorem dlen_str {b : Act} {s : ByteArray} (k j : Nat) (t : TypeId) (ps : String) (f : Array Edge) (g : Option (Nat × Bool)) (w : World) (h : b.eval (.tmp j) = .string s) : (execOp b.eval ⟨some k, .call { callee := .builtin .len, args := #[.tmp j], argTypes := #[9] }, t, ps, f, g⟩).run Tryd.prog w = .ok (.value (.int .i64 ((s.size : Nat) : Int))) w := by
  have h2 := h
  simp [Act.eval] at h2
  simp [execOp, h2, go_sem]
theorem mlss3 (o1 o2 : Operand) (a z : Int) (w : World) : (do eqGuard .lss 3 o1 o2 (.int .i64 a) (.int .i64 z); binOp .lss 3 (.int .i64 a) (.int .i64 z) : Sem Value).run Tryd.prog w = .ok (.bool (decide (a < z))) w := by
  simp [go_sem, eqGuard]
theorem mgtr3 (o1 o2 : Operand) (a z : Int) (w : World) : (do eqGuard .gtr 3 o1 o2 (.int .i64 a) (.int .i64 z); binOp .gtr 3 (.int .i64 a) (.int .i64 z) : Sem Value).run Tryd.prog w = .ok (.bool (decide (z < a))) w := by
  simp [go_sem, eqGuard]
theorem mgeq3 (o1 o2 : Operand) (a z : Int) (w : World) : (do eqGuard .geq 3 o1 o2 (.int .i64 a) (.int .i64 z); binOp .geq 3 (.int .i64 a) (.int .i64 z) : Sem Value).run Tryd.prog w = .ok (.bool (decide (z ≤ a))) w := by
  simp [go_sem, eqGuard]
theorem want_of {ops : Array Oper} {a : Act} {o : Oper} {g m : Nat} {b : Bool} (ho : o.guard = some (g, b)) (hg : (ops[g]?).bind (·.dst) = some m) (hm : m < a.tmps.size) (h : a.eval (.tmp m) = .bool b) : Region.wanted o (yielded ops a.tmps) = true := by
  have := Chain.yielded_bool (ops := ops) (a := a) hg hm h
  simp only [Region.wanted, ho, this]
  cases b <;> rfl
theorem unwant_of {ops : Array Oper} {a : Act} {o : Oper} {g m : Nat} {b : Bool} (ho : o.guard = some (g, b)) (hg : (ops[g]?).bind (·.dst) = some m) (hm : m < a.tmps.size) (h : a.eval (.tmp m) = .bool (!b)) : Region.wanted o (yielded ops a.tmps) = false := by
  have := Chain.yielded_bool (ops := ops) (a := a) hg hm h
  simp only [Region.wanted, ho, this]
  cases b <;> rfl
theorem hasS_nil (k : Nat) : ((str (hasS k)).toList == (str []).toList) = !(isK k) := by
  rw [str_toList, str_toList]
  unfold hasS
  cases isK k <;> rfl
theorem may_eq (m : Msg) : may m = (isK m.kind && !(((((((((!(bareB m)) || decide (m.frm < 0)) || decide ((65535 : Int) < m.frm)) || decide (m.to_ < 0)) || decide ((65535 : Int) < m.to_)) || (!(wi long m.req))) || (!(wi long m.ver))) || (!(wi long m.inc)))) && !(((((((((((decide ((64 : Int) < (((str m.key).size : Nat) : Int))) || decide (m.size < 0)) || decide ((2147483647 : Int) < m.size)) || decide (m.code < 0)) || decide ((65535 : Int) < m.code)) || decide (m.node < 0)) || decide ((255 : Int) ≤ m.node)) || decide ((64 : Int) < ((m.ids.length : Nat) : Int))) || decide ((255 : Int) < ((m.nodes.length : Nat) : Int))) || decide ((65536 : Int) < (((str m.data).size : Nat) : Int)))) && m.ids.all idOk && m.nodes.all (wi 254)) := by
  unfold may bareB
  rw [Bool.eq_iff_iff]
  simp only [Bool.and_eq_true, Bool.not_eq_true', Bool.or_eq_false_iff, Bool.not_eq_false', decide_eq_false_iff_not, decide_eq_true_eq, wi]
  have hsk : (str m.key).size = m.key.length := rfl
  have hsd : (str m.data).size = m.data.length := rfl
  constructor
  · rintro ⟨⟨⟨⟨⟨⟨⟨⟨⟨⟨⟨h1, h2⟩, ⟨h3, h4⟩, h5⟩, ⟨h6, h7⟩, h8⟩, h9⟩, h10⟩, h11⟩, h12⟩, h13⟩, h14⟩, h15⟩, h16⟩
    refine ⟨⟨⟨⟨h1, ⟨⟨⟨⟨⟨⟨⟨h2, by omega⟩, by omega⟩, by omega⟩, by omega⟩, h6⟩, h7⟩, h8⟩⟩, ⟨⟨⟨⟨⟨⟨⟨⟨⟨by omega, by omega⟩, by omega⟩, by omega⟩, by omega⟩, by omega⟩, by omega⟩, by omega⟩, by omega⟩, by omega⟩⟩, h15⟩, h16⟩
  · rintro ⟨⟨⟨⟨h1, ⟨⟨⟨⟨⟨⟨⟨h2, a1⟩, a2⟩, a3⟩, a4⟩, h6⟩, h7⟩, h8⟩⟩, ⟨⟨⟨⟨⟨⟨⟨⟨⟨b0, b1⟩, b2⟩, b3⟩, b4⟩, b5⟩, b6⟩, b7⟩, b8⟩, b9⟩⟩, h15⟩, h16⟩
    exact ⟨⟨⟨⟨⟨⟨⟨⟨⟨⟨⟨h1, h2⟩, ⟨⟨by omega, by omega⟩, by omega, by omega⟩, by omega, by omega⟩, ⟨h6, h7⟩, h8⟩, by omega, by omega⟩, by omega, by omega⟩, by omega⟩, by omega⟩, by omega⟩, by omega⟩, h15⟩, h16⟩
set_option maxRecDepth 100000 in
set_option maxHeartbeats 16000000 in
theorem rmay_no (w : World) (m : Msg) (A : Option Addr) (c : Nat) (na : Option Addr) (nc : Nat) (hI : PIn w w.heap.size m A na) (hK : isK m.kind = false) :
    Calls Tryd.prog 11 #[.agg (pv m A c na nc)] w fun e w' => e = .returned (.bool false) ∧ Below w.heap.size w w' := by
  obtain ⟨bx, hbx⟩ : ∃ bx, w.heap.size = bx := ⟨_, rfl⟩
  obtain ⟨w1, hw1⟩ : ∃ x : World, w.alloc (.cells (pv m A c na nc) 33) = x := ⟨_, rfl⟩
  have hb1 : Below w.heap.size w w1 := by rw [← hw1]; exact nextA (Mem.start w) _
  have HB1 := Lib.hid hb1
  have HX1 := Lib.hid (show Blk w1 bx 33 (pv m A c na nc) by rw [← hw1, ← hbx]; exact Blk.new w _ _)
  have HK := Lib.hid hI.kind
  have HKN := Lib.hid hK
  clear hb1 hI hK
  go_enter Tryd.func11, Tryd.ntmps11
  refine cut1 fun C' hC => ?_
  have HC := Lib.hid hC
  clear hC
  go_wp2_with fail
  refine HC.out _ _ ?_
  clear HC
  refine wp_seq ?_
  refine wp_seq ?_
  refine wp_region_lit ?_
  refine Chain.step_on (d := 5) rfl (by simp [Region.wanted]) (v := .pointer (some ⟨bx, 0, none⟩)) (by simp [execOp, Act.eval, dfld0]) ?_; simp only [Act.put, List.setIfInBounds_toArray, List.set_cons_zero, List.set_cons_succ]
  refine Chain.step_on (d := 6) rfl (by simp [Region.wanted]) (v := .int .u8 ((m.kind : Nat) : Int)) (exec_load 5 (.tmp 5) rfl _ rfl _ (ld _ _ Tryd.isAgg5 (by have := HX1.out.cell 0; simpa [pv, pvk] using this))) ?_; simp only [Act.put, List.setIfInBounds_toArray, List.set_cons_zero, List.set_cons_succ]
  refine Chain.step_wp (by simp [Region.wanted]) (has_wp _ m.kind HK.out _ _ 6 7 _ _ _ _ rfl ?_); simp only [Act.put, List.setIfInBounds_toArray, List.set_cons_zero, List.set_cons_succ]
  refine Chain.step_wp (by simp [Region.wanted]) (bin_wp .eql _ 9 _ _ _ 7 8 (.string (str [])) (.string (str (hasS m.kind))) _ _ _ _ _ rfl (fun o1 o2 => meq9 o1 o2 _ _ _ (hasS_nil _) _) ?_); simp only [Act.put, List.setIfInBounds_toArray, List.set_cons_zero, List.set_cons_succ]
  rw [HKN.out, Bool.not_false]
  refine Chain.step_on (d := 9) rfl (by simp [Region.wanted]) (v := .bool true) (by simp [execOp, Act.eval]) ?_; simp only [Act.put, List.setIfInBounds_toArray, List.set_cons_zero, List.set_cons_succ]
  refine Chain.step_off (d := 10) rfl (unwant_of (g := 4) (m := 9) rfl (by rfl) (show 9 < 150 by decide) (by rfl)) ?_; simp only [Act.put, List.setIfInBounds_toArray, List.set_cons_zero, List.set_cons_succ]
  refine Chain.step_off (d := 11) rfl (unwant_of (g := 4) (m := 9) rfl (by rfl) (show 9 < 150 by decide) (by rfl)) ?_; simp only [Act.put, List.setIfInBounds_toArray, List.set_cons_zero, List.set_cons_succ]
  refine Chain.step_off (d := 12) rfl (unwant_of (g := 4) (m := 9) rfl (by rfl) (show 9 < 150 by decide) (by rfl)) ?_; simp only [Act.put, List.setIfInBounds_toArray, List.set_cons_zero, List.set_cons_succ]
  refine Chain.step_on (d := 13) rfl (by simp [Region.wanted]) (v := .bool true) (by simp [execOp, Act.eval]; rfl) ?_; simp only [Act.put, List.setIfInBounds_toArray, List.set_cons_zero, List.set_cons_succ]
  refine Chain.or1 150 13 9 1 bx 33 3 true (decide (m.frm < 0)) (.int .i64 m.frm) (by decide) (by decide) (by rfl) (by rfl) (by rfl) (by rfl) (dfld1 _ _) (ld _ _ Tryd.isAgg3 (by have := HX1.out.cell 1; simpa [pv, pvk] using this)) (fun b K hb hK => bin_wp .lss _ _ _ b K _ _ (.int .i64 0) _ _ _ _ _ _ hb (fun o1 o2 => mlss3 o1 o2 _ _ _) hK) ?_; intro j2 j3 j4; simp only [Act.put, List.setIfInBounds_toArray, List.set_cons_zero, List.set_cons_succ]
  refine Chain.or1 150 18 14 1 bx 33 3 (true || decide (m.frm < 0)) (decide ((65535 : Int) < m.frm)) (.int .i64 m.frm) (by decide) (by decide) (by rfl) (by rfl) (by rfl) (by rfl) (dfld1 _ _) (ld _ _ Tryd.isAgg3 (by have := HX1.out.cell 1; simpa [pv, pvk] using this)) (fun b K hb hK => bin_wp .gtr _ _ _ b K _ _ (.int .i64 65535) _ _ _ _ _ _ hb (fun o1 o2 => mgtr3 o1 o2 _ _ _) hK) ?_; intro j2 j3 j4; simp only [Act.put, List.setIfInBounds_toArray, List.set_cons_zero, List.set_cons_succ]
  refine Chain.or1 150 23 19 2 bx 33 3 ((true || decide (m.frm < 0)) || decide ((65535 : Int) < m.frm)) (decide (m.to_ < 0)) (.int .i64 m.to_) (by decide) (by decide) (by rfl) (by rfl) (by rfl) (by rfl) (dfld2 _ _) (ld _ _ Tryd.isAgg3 (by have := HX1.out.cell 2; simpa [pv, pvk] using this)) (fun b K hb hK => bin_wp .lss _ _ _ b K _ _ (.int .i64 0) _ _ _ _ _ _ hb (fun o1 o2 => mlss3 o1 o2 _ _ _) hK) ?_; intro j2 j3 j4; simp only [Act.put, List.setIfInBounds_toArray, List.set_cons_zero, List.set_cons_succ]
  refine Chain.or1 150 28 24 2 bx 33 3 (((true || decide (m.frm < 0)) || decide ((65535 : Int) < m.frm)) || decide (m.to_ < 0)) (decide ((65535 : Int) < m.to_)) (.int .i64 m.to_) (by decide) (by decide) (by rfl) (by rfl) (by rfl) (by rfl) (dfld2 _ _) (ld _ _ Tryd.isAgg3 (by have := HX1.out.cell 2; simpa [pv, pvk] using this)) (fun b K hb hK => bin_wp .gtr _ _ _ b K _ _ (.int .i64 65535) _ _ _ _ _ _ hb (fun o1 o2 => mgtr3 o1 o2 _ _ _) hK) ?_; intro j2 j3 j4; simp only [Act.put, List.setIfInBounds_toArray, List.set_cons_zero, List.set_cons_succ]
  refine Chain.or2 150 33 29 3 bx 33 2 ((((true || decide (m.frm < 0)) || decide ((65535 : Int) < m.frm)) || decide (m.to_ < 0)) || decide ((65535 : Int) < m.to_)) ((!(wi long m.req))) (.int .i64 m.req) (.bool (wi long m.req)) (by decide) (by decide) (by rfl) (by rfl) (by rfl) (by rfl) (dfld3 _ _) (ld _ _ Tryd.isAgg2 (by have := HX1.out.cell 3; simpa [pv, pvk] using this)) (fun b K hb hK => long_wp _ _ b K _ _ _ _ _ _ hb hK) (fun b K hb hK => not_wp _ b K _ _ _ _ _ _ _ hb hK) ?_; intro j2 j3 j4 j5; simp only [Act.put, List.setIfInBounds_toArray, List.set_cons_zero, List.set_cons_succ]
  refine Chain.or2 150 39 35 5 bx 33 2 (((((true || decide (m.frm < 0)) || decide ((65535 : Int) < m.frm)) || decide (m.to_ < 0)) || decide ((65535 : Int) < m.to_)) || (!(wi long m.req))) ((!(wi long m.ver))) (.int .i64 m.ver) (.bool (wi long m.ver)) (by decide) (by decide) (by rfl) (by rfl) (by rfl) (by rfl) (dfld5 _ _) (ld _ _ Tryd.isAgg2 (by have := HX1.out.cell 5; simpa [pv, pvk] using this)) (fun b K hb hK => long_wp _ _ b K _ _ _ _ _ _ hb hK) (fun b K hb hK => not_wp _ b K _ _ _ _ _ _ _ hb hK) ?_; intro j2 j3 j4 j5; simp only [Act.put, List.setIfInBounds_toArray, List.set_cons_zero, List.set_cons_succ]
  refine Chain.or2 150 45 41 6 bx 33 2 ((((((true || decide (m.frm < 0)) || decide ((65535 : Int) < m.frm)) || decide (m.to_ < 0)) || decide ((65535 : Int) < m.to_)) || (!(wi long m.req))) || (!(wi long m.ver))) ((!(wi long m.inc))) (.int .i64 m.inc) (.bool (wi long m.inc)) (by decide) (by decide) (by rfl) (by rfl) (by rfl) (by rfl) (dfld6 _ _) (ld _ _ Tryd.isAgg2 (by have := HX1.out.cell 6; simpa [pv, pvk] using this)) (fun b K hb hK => long_wp _ _ b K _ _ _ _ _ _ hb hK) (fun b K hb hK => not_wp _ b K _ _ _ _ _ _ _ hb hK) ?_; intro j2 j3 j4 j5; simp only [Act.put, List.setIfInBounds_toArray, List.set_cons_zero, List.set_cons_succ]
  simp only [Bool.true_or]
  refine wpList_nil ?_
  simp only [Exit.then]
  go_wp2_with fail
  go_ret
  exact ⟨rfl, HB1.out⟩
set_option maxRecDepth 100000 in
set_option maxHeartbeats 16000000 in
theorem rmay_yes (w : World) (m : Msg) (A : Option Addr) (c : Nat) (na : Option Addr) (nc : Nat) (hI : PIn w w.heap.size m A na) (hK : isK m.kind = true) :
    Calls Tryd.prog 11 #[.agg (pv m A c na nc)] w fun e w' => e = .returned (.bool (may m)) ∧ Below w.heap.size w w' := by
  obtain ⟨bx, hbx⟩ : ∃ bx, w.heap.size = bx := ⟨_, rfl⟩
  obtain ⟨w1, hw1⟩ : ∃ x : World, w.alloc (.cells (pv m A c na nc) 33) = x := ⟨_, rfl⟩
  have hb1 : Below w.heap.size w w1 := by rw [← hw1]; exact nextA (Mem.start w) _
  have HB1 := Lib.hid hb1
  have HX1 := Lib.hid (show Blk w1 bx 33 (pv m A c na nc) by rw [← hw1, ← hbx]; exact Blk.new w _ _)
  have HI := Lib.hid hI
  have HK := Lib.hid hI.kind
  have HKN := Lib.hid hK
  obtain ⟨r1, hr1⟩ : ∃ r, ((((((((!(bareB m)) || decide (m.frm < 0)) || decide ((65535 : Int) < m.frm)) || decide (m.to_ < 0)) || decide ((65535 : Int) < m.to_)) || (!(wi long m.req))) || (!(wi long m.ver))) || (!(wi long m.inc))) = r := ⟨_, rfl⟩
  obtain ⟨r3, hr3⟩ : ∃ r, ((((((((((decide ((64 : Int) < (((str m.key).size : Nat) : Int))) || decide (m.size < 0)) || decide ((2147483647 : Int) < m.size)) || decide (m.code < 0)) || decide ((65535 : Int) < m.code)) || decide (m.node < 0)) || decide ((255 : Int) ≤ m.node)) || decide ((64 : Int) < ((m.ids.length : Nat) : Int))) || decide ((255 : Int) < ((m.nodes.length : Nat) : Int))) || decide ((65536 : Int) < (((str m.data).size : Nat) : Int))) = r := ⟨_, rfl⟩
  have HM := Lib.hid (show may m = (!r1 && !r3 && m.ids.all idOk && m.nodes.all (wi 254)) by rw [may_eq, hr1, hr3, hK]; rfl)
  have HR := Lib.hid (And.intro hr1 hr3)
  clear hb1 hI hK hr1 hr3
  go_enter Tryd.func11, Tryd.ntmps11
  refine cut1 fun C' hC => ?_
  have HC := Lib.hid hC
  clear hC
  go_wp2_with fail
  refine HC.out _ _ ?_
  clear HC
  refine wp_seq ?_
  refine wp_seq ?_
  refine wp_region_lit ?_
  refine Chain.step_on (d := 5) rfl (by simp [Region.wanted]) (v := .pointer (some ⟨bx, 0, none⟩)) (by simp [execOp, Act.eval, dfld0]) ?_; simp only [Act.put, List.setIfInBounds_toArray, List.set_cons_zero, List.set_cons_succ]
  refine Chain.step_on (d := 6) rfl (by simp [Region.wanted]) (v := .int .u8 ((m.kind : Nat) : Int)) (exec_load 5 (.tmp 5) rfl _ rfl _ (ld _ _ Tryd.isAgg5 (by have := HX1.out.cell 0; simpa [pv, pvk] using this))) ?_; simp only [Act.put, List.setIfInBounds_toArray, List.set_cons_zero, List.set_cons_succ]
  refine Chain.step_wp (by simp [Region.wanted]) (has_wp _ m.kind HK.out _ _ 6 7 _ _ _ _ rfl ?_); simp only [Act.put, List.setIfInBounds_toArray, List.set_cons_zero, List.set_cons_succ]
  refine Chain.step_wp (by simp [Region.wanted]) (bin_wp .eql _ 9 _ _ _ 7 8 (.string (str [])) (.string (str (hasS m.kind))) _ _ _ _ _ rfl (fun o1 o2 => meq9 o1 o2 _ _ _ (hasS_nil _) _) ?_); simp only [Act.put, List.setIfInBounds_toArray, List.set_cons_zero, List.set_cons_succ]
  rw [HKN.out, Bool.not_true]
  refine Chain.step_on (d := 9) rfl (by simp [Region.wanted]) (v := .bool false) (by simp [execOp, Act.eval]) ?_; simp only [Act.put, List.setIfInBounds_toArray, List.set_cons_zero, List.set_cons_succ]
  refine Chain.step_on (d := 10) rfl (want_of (g := 4) (m := 9) rfl (by rfl) (show 9 < 150 by decide) (by rfl)) (v := .agg (pv m A c na nc)) (exec_load 33 (.tmp 1) rfl _ rfl _ (load_pv HX1.out)) ?_; simp only [Act.put, List.setIfInBounds_toArray, List.set_cons_zero, List.set_cons_succ]
  refine Chain.step_wp (want_of (g := 4) (m := 9) rfl (by rfl) (show 9 < 150 by decide) (by rfl)) (bare_wp _ m A c na nc HK.out _ _ 10 11 _ _ _ _ rfl ?_)
  intro w2 hb2
  have HX2 := Lib.hid (HX1.out.keep hb2)
  have HB2 := Lib.hid (next HB1.out hb2)
  clear hb2
  simp only [Act.put, List.setIfInBounds_toArray, List.set_cons_zero, List.set_cons_succ]
  refine Chain.step_wp (want_of (g := 4) (m := 9) rfl (by rfl) (show 9 < 150 by decide) (by rfl)) (not_wp _ _ _ 11 12 _ _ _ _ _ rfl ?_); simp only [Act.put, List.setIfInBounds_toArray, List.set_cons_zero, List.set_cons_succ]
  refine Chain.step_on (d := 13) rfl (by simp [Region.wanted]) (v := .bool (!(bareB m))) (by simp [execOp, Act.eval]; rfl) ?_; simp only [Act.put, List.setIfInBounds_toArray, List.set_cons_zero, List.set_cons_succ]
  refine Chain.or1 150 13 9 1 bx 33 3 (!(bareB m)) (decide (m.frm < 0)) (.int .i64 m.frm) (by decide) (by decide) (by rfl) (by rfl) (by rfl) (by rfl) (dfld1 _ _) (ld _ _ Tryd.isAgg3 (by have := HX2.out.cell 1; simpa [pv, pvk] using this)) (fun b K hb hK => bin_wp .lss _ _ _ b K _ _ (.int .i64 0) _ _ _ _ _ _ hb (fun o1 o2 => mlss3 o1 o2 _ _ _) hK) ?_; intro j2 j3 j4; simp only [Act.put, List.setIfInBounds_toArray, List.set_cons_zero, List.set_cons_succ]
  refine Chain.or1 150 18 14 1 bx 33 3 ((!(bareB m)) || decide (m.frm < 0)) (decide ((65535 : Int) < m.frm)) (.int .i64 m.frm) (by decide) (by decide) (by rfl) (by rfl) (by rfl) (by rfl) (dfld1 _ _) (ld _ _ Tryd.isAgg3 (by have := HX2.out.cell 1; simpa [pv, pvk] using this)) (fun b K hb hK => bin_wp .gtr _ _ _ b K _ _ (.int .i64 65535) _ _ _ _ _ _ hb (fun o1 o2 => mgtr3 o1 o2 _ _ _) hK) ?_; intro j2 j3 j4; simp only [Act.put, List.setIfInBounds_toArray, List.set_cons_zero, List.set_cons_succ]
  refine Chain.or1 150 23 19 2 bx 33 3 (((!(bareB m)) || decide (m.frm < 0)) || decide ((65535 : Int) < m.frm)) (decide (m.to_ < 0)) (.int .i64 m.to_) (by decide) (by decide) (by rfl) (by rfl) (by rfl) (by rfl) (dfld2 _ _) (ld _ _ Tryd.isAgg3 (by have := HX2.out.cell 2; simpa [pv, pvk] using this)) (fun b K hb hK => bin_wp .lss _ _ _ b K _ _ (.int .i64 0) _ _ _ _ _ _ hb (fun o1 o2 => mlss3 o1 o2 _ _ _) hK) ?_; intro j2 j3 j4; simp only [Act.put, List.setIfInBounds_toArray, List.set_cons_zero, List.set_cons_succ]
  refine Chain.or1 150 28 24 2 bx 33 3 ((((!(bareB m)) || decide (m.frm < 0)) || decide ((65535 : Int) < m.frm)) || decide (m.to_ < 0)) (decide ((65535 : Int) < m.to_)) (.int .i64 m.to_) (by decide) (by decide) (by rfl) (by rfl) (by rfl) (by rfl) (dfld2 _ _) (ld _ _ Tryd.isAgg3 (by have := HX2.out.cell 2; simpa [pv, pvk] using this)) (fun b K hb hK => bin_wp .gtr _ _ _ b K _ _ (.int .i64 65535) _ _ _ _ _ _ hb (fun o1 o2 => mgtr3 o1 o2 _ _ _) hK) ?_; intro j2 j3 j4; simp only [Act.put, List.setIfInBounds_toArray, List.set_cons_zero, List.set_cons_succ]
  refine Chain.or2 150 33 29 3 bx 33 2 (((((!(bareB m)) || decide (m.frm < 0)) || decide ((65535 : Int) < m.frm)) || decide (m.to_ < 0)) || decide ((65535 : Int) < m.to_)) ((!(wi long m.req))) (.int .i64 m.req) (.bool (wi long m.req)) (by decide) (by decide) (by rfl) (by rfl) (by rfl) (by rfl) (dfld3 _ _) (ld _ _ Tryd.isAgg2 (by have := HX2.out.cell 3; simpa [pv, pvk] using this)) (fun b K hb hK => long_wp _ _ b K _ _ _ _ _ _ hb hK) (fun b K hb hK => not_wp _ b K _ _ _ _ _ _ _ hb hK) ?_; intro j2 j3 j4 j5; simp only [Act.put, List.setIfInBounds_toArray, List.set_cons_zero, List.set_cons_succ]
  refine Chain.or2 150 39 35 5 bx 33 2 ((((((!(bareB m)) || decide (m.frm < 0)) || decide ((65535 : Int) < m.frm)) || decide (m.to_ < 0)) || decide ((65535 : Int) < m.to_)) || (!(wi long m.req))) ((!(wi long m.ver))) (.int .i64 m.ver) (.bool (wi long m.ver)) (by decide) (by decide) (by rfl) (by rfl) (by rfl) (by rfl) (dfld5 _ _) (ld _ _ Tryd.isAgg2 (by have := HX2.out.cell 5; simpa [pv, pvk] using this)) (fun b K hb hK => long_wp _ _ b K _ _ _ _ _ _ hb hK) (fun b K hb hK => not_wp _ b K _ _ _ _ _ _ _ hb hK) ?_; intro j2 j3 j4 j5; simp only [Act.put, List.setIfInBounds_toArray, List.set_cons_zero, List.set_cons_succ]
  refine Chain.or2 150 45 41 6 bx 33 2 (((((((!(bareB m)) || decide (m.frm < 0)) || decide ((65535 : Int) < m.frm)) || decide (m.to_ < 0)) || decide ((65535 : Int) < m.to_)) || (!(wi long m.req))) || (!(wi long m.ver))) ((!(wi long m.inc))) (.int .i64 m.inc) (.bool (wi long m.inc)) (by decide) (by decide) (by rfl) (by rfl) (by rfl) (by rfl) (dfld6 _ _) (ld _ _ Tryd.isAgg2 (by have := HX2.out.cell 6; simpa [pv, pvk] using this)) (fun b K hb hK => long_wp _ _ b K _ _ _ _ _ _ hb hK) (fun b K hb hK => not_wp _ b K _ _ _ _ _ _ _ hb hK) ?_; intro j2 j3 j4 j5; simp only [Act.put, List.setIfInBounds_toArray, List.set_cons_zero, List.set_cons_succ]
  rw [HR.out.1]
  generalize (((((((!(bareB m)) || decide (m.frm < 0)) || decide ((65535 : Int) < m.frm)) || decide (m.to_ < 0)) || decide ((65535 : Int) < m.to_)) || (!(wi long m.req))) || (!(wi long m.ver))) = q6
  generalize ((((((!(bareB m)) || decide (m.frm < 0)) || decide ((65535 : Int) < m.frm)) || decide (m.to_ < 0)) || decide ((65535 : Int) < m.to_)) || (!(wi long m.req))) = q5
  generalize (((((!(bareB m)) || decide (m.frm < 0)) || decide ((65535 : Int) < m.frm)) || decide (m.to_ < 0)) || decide ((65535 : Int) < m.to_)) = q4
  generalize ((((!(bareB m)) || decide (m.frm < 0)) || decide ((65535 : Int) < m.frm)) || decide (m.to_ < 0)) = q3
  generalize (((!(bareB m)) || decide (m.frm < 0)) || decide ((65535 : Int) < m.frm)) = q2
  generalize ((!(bareB m)) || decide (m.frm < 0)) = q1
  generalize (!(bareB m)) = q0
  generalize bareB m = qb
  refine wpList_nil ?_
  simp only [Exit.then]
  cases r1
  case true =>
    go_wp2_with fail
    go_ret
    exact ⟨congrArg (fun b => Ending.returned (.bool b)) (by rw [HM.out]; rfl), HB2.out⟩
  case false =>
    refine wp_cond_false rfl ?_
    refine wp_skip ?_
    simp only [Exit.then]
    refine wp_seq ?_
    refine wp_seq ?_
    refine wp_region_lit ?_
    refine Chain.step_on (d := 52) rfl (by simp [Region.wanted]) (v := .pointer (some ⟨bx, 4, none⟩)) (by simp [execOp, Act.eval, dfld4]) ?_; simp only [Act.put, List.setIfInBounds_toArray, List.set_cons_zero, List.set_cons_succ]
    refine Chain.step_on (d := 53) rfl (by simp [Region.wanted]) (v := .string (str m.key)) (exec_load 9 (.tmp 52) rfl _ rfl _ (ld _ _ Tryd.isAgg9 (by have := HX2.out.cell 4; simpa [pv, pvk] using this))) ?_; simp only [Act.put, List.setIfInBounds_toArray, List.set_cons_zero, List.set_cons_succ]
    refine Chain.step_on (d := 54) rfl (by simp [Region.wanted]) (v := .int .i64 (((str m.key).size : Nat) : Int)) (dlen_str _ _ _ _ _ _ _ rfl) ?_; simp only [Act.put, List.setIfInBounds_toArray, List.set_cons_zero, List.set_cons_succ]
    refine Chain.step_wp (by simp [Region.wanted]) (bin_wp .gtr _ _ _ _ _ 54 55 (.int .i64 64) _ _ _ _ _ _ rfl (fun o1 o2 => mgtr3 o1 o2 _ _ _) ?_); simp only [Act.put, List.setIfInBounds_toArray, List.set_cons_zero, List.set_cons_succ]
    refine Chain.or1 150 55 4 7 bx 33 3 (decide ((64 : Int) < (((str m.key).size : Nat) : Int))) (decide (m.size < 0)) (.int .i64 m.size) (by decide) (by decide) (by rfl) (by rfl) (by rfl) (by rfl) (dfld7 _ _) (ld _ _ Tryd.isAgg3 (by have := HX2.out.cell 7; simpa [pv, pvk] using this)) (fun b K hb hK => bin_wp .lss _ _ _ b K _ _ (.int .i64 0) _ _ _ _ _ _ hb (fun o1 o2 => mlss3 o1 o2 _ _ _) hK) ?_; intro j2 j3 j4; simp only [Act.put, List.setIfInBounds_toArray, List.set_cons_zero, List.set_cons_succ]
    refine Chain.or1 150 60 9 7 bx 33 3 ((decide ((64 : Int) < (((str m.key).size : Nat) : Int))) || decide (m.size < 0)) (decide ((2147483647 : Int) < m.size)) (.int .i64 m.size) (by decide) (by decide) (by rfl) (by rfl) (by rfl) (by rfl) (dfld7 _ _) (ld _ _ Tryd.isAgg3 (by have := HX2.out.cell 7; simpa [pv, pvk] using this)) (fun b K hb hK => bin_wp .gtr _ _ _ b K _ _ (.int .i64 2147483647) _ _ _ _ _ _ hb (fun o1 o2 => mgtr3 o1 o2 _ _ _) hK) ?_; intro j2 j3 j4; simp only [Act.put, List.setIfInBounds_toArray, List.set_cons_zero, List.set_cons_succ]
    refine Chain.or1 150 65 14 8 bx 33 3 (((decide ((64 : Int) < (((str m.key).size : Nat) : Int))) || decide (m.size < 0)) || decide ((2147483647 : Int) < m.size)) (decide (m.code < 0)) (.int .i64 m.code) (by decide) (by decide) (by rfl) (by rfl) (by rfl) (by rfl) (dfld8 _ _) (ld _ _ Tryd.isAgg3 (by have := HX2.out.cell 8; simpa [pv, pvk] using this)) (fun b K hb hK => bin_wp .lss _ _ _ b K _ _ (.int .i64 0) _ _ _ _ _ _ hb (fun o1 o2 => mlss3 o1 o2 _ _ _) hK) ?_; intro j2 j3 j4; simp only [Act.put, List.setIfInBounds_toArray, List.set_cons_zero, List.set_cons_succ]
    refine Chain.or1 150 70 19 8 bx 33 3 ((((decide ((64 : Int) < (((str m.key).size : Nat) : Int))) || decide (m.size < 0)) || decide ((2147483647 : Int) < m.size)) || decide (m.code < 0)) (decide ((65535 : Int) < m.code)) (.int .i64 m.code) (by decide) (by decide) (by rfl) (by rfl) (by rfl) (by rfl) (dfld8 _ _) (ld _ _ Tryd.isAgg3 (by have := HX2.out.cell 8; simpa [pv, pvk] using this)) (fun b K hb hK => bin_wp .gtr _ _ _ b K _ _ (.int .i64 65535) _ _ _ _ _ _ hb (fun o1 o2 => mgtr3 o1 o2 _ _ _) hK) ?_; intro j2 j3 j4; simp only [Act.put, List.setIfInBounds_toArray, List.set_cons_zero, List.set_cons_succ]
    refine Chain.or1 150 75 24 9 bx 33 3 (((((decide ((64 : Int) < (((str m.key).size : Nat) : Int))) || decide (m.size < 0)) || decide ((2147483647 : Int) < m.size)) || decide (m.code < 0)) || decide ((65535 : Int) < m.code)) (decide (m.node < 0)) (.int .i64 m.node) (by decide) (by decide) (by rfl) (by rfl) (by rfl) (by rfl) (dfld9 _ _) (ld _ _ Tryd.isAgg3 (by have := HX2.out.cell 9; simpa [pv, pvk] using this)) (fun b K hb hK => bin_wp .lss _ _ _ b K _ _ (.int .i64 0) _ _ _ _ _ _ hb (fun o1 o2 => mlss3 o1 o2 _ _ _) hK) ?_; intro j2 j3 j4; simp only [Act.put, List.setIfInBounds_toArray, List.set_cons_zero, List.set_cons_succ]
    refine Chain.or1 150 80 29 9 bx 33 3 ((((((decide ((64 : Int) < (((str m.key).size : Nat) : Int))) || decide (m.size < 0)) || decide ((2147483647 : Int) < m.size)) || decide (m.code < 0)) || decide ((65535 : Int) < m.code)) || decide (m.node < 0)) (decide ((255 : Int) ≤ m.node)) (.int .i64 m.node) (by decide) (by decide) (by rfl) (by rfl) (by rfl) (by rfl) (dfld9 _ _) (ld _ _ Tryd.isAgg3 (by have := HX2.out.cell 9; simpa [pv, pvk] using this)) (fun b K hb hK => bin_wp .geq _ _ _ b K _ _ (.int .i64 255) _ _ _ _ _ _ hb (fun o1 o2 => mgeq3 o1 o2 _ _ _) hK) ?_; intro j2 j3 j4; simp only [Act.put, List.setIfInBounds_toArray, List.set_cons_zero, List.set_cons_succ]
    refine Chain.or2 150 85 34 11 bx 33 31 (((((((decide ((64 : Int) < (((str m.key).size : Nat) : Int))) || decide (m.size < 0)) || decide ((2147483647 : Int) < m.size)) || decide (m.code < 0)) || decide ((65535 : Int) < m.code)) || decide (m.node < 0)) || decide ((255 : Int) ≤ m.node)) (decide ((64 : Int) < ((m.ids.length : Nat) : Int))) (.slice A m.ids.length c) (.int .i64 ((m.ids.length : Nat) : Int)) (by decide) (by decide) (by rfl) (by rfl) (by rfl) (by rfl) (dfld11 _ _) (ld _ _ Tryd.isAgg31 (by have := HX2.out.cell 11; simpa [pv, pvk] using this)) (fun b K hb hK => Chain.op_wp (dlen_ids (x := 0) _ _ _ _ _ _ _ hb) hK) (fun b K hb hK => bin_wp .gtr _ _ _ b K _ _ (.int .i64 64) _ _ _ _ _ _ hb (fun o1 o2 => mgtr3 o1 o2 _ _ _) hK) ?_; intro j2 j3 j4 j5; simp only [Act.put, List.setIfInBounds_toArray, List.set_cons_zero, List.set_cons_succ]
    refine Chain.or2 150 91 40 12 bx 33 24 ((((((((decide ((64 : Int) < (((str m.key).size : Nat) : Int))) || decide (m.size < 0)) || decide ((2147483647 : Int) < m.size)) || decide (m.code < 0)) || decide ((65535 : Int) < m.code)) || decide (m.node < 0)) || decide ((255 : Int) ≤ m.node)) || decide ((64 : Int) < ((m.ids.length : Nat) : Int))) (decide ((255 : Int) < ((m.nodes.length : Nat) : Int))) (.slice na m.nodes.length nc) (.int .i64 ((m.nodes.length : Nat) : Int)) (by decide) (by decide) (by rfl) (by rfl) (by rfl) (by rfl) (dfld12 _ _) (ld _ _ Tryd.isAgg24 (by have := HX2.out.cell 12; simpa [pv, pvk] using this)) (fun b K hb hK => Chain.op_wp (dlen_ints (x := 0) _ _ _ _ _ _ _ hb) hK) (fun b K hb hK => bin_wp .gtr _ _ _ b K _ _ (.int .i64 255) _ _ _ _ _ _ hb (fun o1 o2 => mgtr3 o1 o2 _ _ _) hK) ?_; intro j2 j3 j4 j5; simp only [Act.put, List.setIfInBounds_toArray, List.set_cons_zero, List.set_cons_succ]
    refine Chain.or2 150 97 46 13 bx 33 9 (((((((((decide ((64 : Int) < (((str m.key).size : Nat) : Int))) || decide (m.size < 0)) || decide ((2147483647 : Int) < m.size)) || decide (m.code < 0)) || decide ((65535 : Int) < m.code)) || decide (m.node < 0)) || decide ((255 : Int) ≤ m.node)) || decide ((64 : Int) < ((m.ids.length : Nat) : Int))) || decide ((255 : Int) < ((m.nodes.length : Nat) : Int))) (decide ((65536 : Int) < (((str m.data).size : Nat) : Int))) (.string (str m.data)) (.int .i64 (((str m.data).size : Nat) : Int)) (by decide) (by decide) (by rfl) (by rfl) (by rfl) (by rfl) (dfld13 _ _) (ld _ _ Tryd.isAgg9 (by have := HX2.out.cell 13; simpa [pv, pvk] using this)) (fun b K hb hK => Chain.op_wp (dlen_str _ _ _ _ _ _ _ hb) hK) (fun b K hb hK => bin_wp .gtr _ _ _ b K _ _ (.int .i64 65536) _ _ _ _ _ _ hb (fun o1 o2 => mgtr3 o1 o2 _ _ _) hK) ?_; intro j2 j3 j4 j5; simp only [Act.put, List.setIfInBounds_toArray, List.set_cons_zero, List.set_cons_succ]
    rw [HR.out.2]
    generalize (((((((((decide ((64 : Int) < (((str m.key).size : Nat) : Int))) || decide (m.size < 0)) || decide ((2147483647 : Int) < m.size)) || decide (m.code < 0)) || decide ((65535 : Int) < m.code)) || decide (m.node < 0)) || decide ((255 : Int) ≤ m.node)) || decide ((64 : Int) < ((m.ids.length : Nat) : Int))) || decide ((255 : Int) < ((m.nodes.length : Nat) : Int))) = p8
    generalize ((((((((decide ((64 : Int) < (((str m.key).size : Nat) : Int))) || decide (m.size < 0)) || decide ((2147483647 : Int) < m.size)) || decide (m.code < 0)) || decide ((65535 : Int) < m.code)) || decide (m.node < 0)) || decide ((255 : Int) ≤ m.node)) || decide ((64 : Int) < ((m.ids.length : Nat) : Int))) = p7
    generalize (((((((decide ((64 : Int) < (((str m.key).size : Nat) : Int))) || decide (m.size < 0)) || decide ((2147483647 : Int) < m.size)) || decide (m.code < 0)) || decide ((65535 : Int) < m.code)) || decide (m.node < 0)) || decide ((255 : Int) ≤ m.node)) = p6
    generalize ((((((decide ((64 : Int) < (((str m.key).size : Nat) : Int))) || decide (m.size < 0)) || decide ((2147483647 : Int) < m.size)) || decide (m.code < 0)) || decide ((65535 : Int) < m.code)) || decide (m.node < 0)) = p5
    generalize (((((decide ((64 : Int) < (((str m.key).size : Nat) : Int))) || decide (m.size < 0)) || decide ((2147483647 : Int) < m.size)) || decide (m.code < 0)) || decide ((65535 : Int) < m.code)) = p4
    generalize ((((decide ((64 : Int) < (((str m.key).size : Nat) : Int))) || decide (m.size < 0)) || decide ((2147483647 : Int) < m.size)) || decide (m.code < 0)) = p3
    generalize (((decide ((64 : Int) < (((str m.key).size : Nat) : Int))) || decide (m.size < 0)) || decide ((2147483647 : Int) < m.size)) = p2
    generalize ((decide ((64 : Int) < (((str m.key).size : Nat) : Int))) || decide (m.size < 0)) = p1
    generalize (decide ((64 : Int) < (((str m.key).size : Nat) : Int))) = p0
    refine wpList_nil ?_
    simp only [Exit.then]
    cases r3
    case true =>
      go_wp2_with fail
      go_ret
      exact ⟨congrArg (fun b => Ending.returned (.bool b)) (by rw [HM.out]; rfl), HB2.out⟩
    case false =>
      have c11 := HX2.out.cell 11
      have c12 := HX2.out.cell 12
      simp [pv, pvk] at c11 c12
      have HI2 := Lib.hid (HI.out.below HB2.out)
      have hli : ((m.ids.length : Nat) : Int) ≤ 100000000 := by have := HI.out.li; omega
      have hln : ((m.nodes.length : Nat) : Int) ≤ 100000000 := by have := HI.out.ln; omega
      clear hbx hw1
      go_wp2_with fail
      go_loop [3] (fun i => ∃ j : Nat, i = .int .i64 (j : Int) ∧ j ≤ m.ids.length ∧ (m.ids.take j).all idOk = true) (fun i => m.ids.length - (intOf i).toNat)
      case atStart => exact ⟨0, rfl, Nat.zero_le _, rfl⟩
      case round =>
        obtain ⟨j, rfl, hj, ha⟩ := hrel
        have HA := Lib.hid ha
        clear ha
        by_cases hjl : j < m.ids.length
        · obtain ⟨b1, o1, e1, hb1, k1, k2⟩ := ids_at HI2.out.ids hjl
          rw [e1] at c11
          obtain ⟨⟨ky, vr⟩, hx⟩ : ∃ x, m.ids[j] = x := ⟨_, rfl⟩
          rw [hx] at k1 k2
          dsimp only at k1 k2
          have h1 : (j : Int) < ((m.ids.length : Nat) : Int) := by omega
          have h0 : (0 : Int) ≤ (j : Int) := by omega
          have hks : (str ky).size = ky.length := rfl
          have HS := Lib.hid (show (m.ids.take (j + 1)).all idOk = idOk (ky, vr) by rw [List.take_succ_eq_append_getElem hjl, List.all_append, HA.out, hx]; simp)
          have HJ := Lib.hid hjl
          have HNO := Lib.hid (show idOk (ky, vr) = false → may m = false by
            intro h
            have : m.ids.all idOk = false := by
              rw [List.all_eq_false]
              have hm : m.ids[j]'hjl ∈ m.ids := List.getElem_mem _
              rw [hx] at hm
              exact ⟨_, hm, by rw [h]; simp⟩
            rw [HM.out, this]; simp)
          clear e1 hb1 hx hj
          obtain ⟨kl, hkl⟩ : ∃ kl, ky.length = kl := ⟨_, rfl⟩
          have hid : idOk (ky, vr) = (decide (kl ≤ 64) && wi long vr) := by unfold idOk; rw [← hkl]
          rw [hkl] at hks
          rw [hid] at HS HNO
          clear hid
          by_cases h64 : kl ≤ 64
          · have dk : decide ((64 : Int) < (kl : Int)) = false := decide_eq_false (by omega)
            have hd64 : decide (kl ≤ 64) = true := decide_eq_true h64
            rw [hd64] at HS HNO
            clear h64 hkl hd64
            go_wp2_with fail
            refine (rlong_any _ vr).mono ?_
            rintro e w3 ⟨rfl, rfl⟩
            obtain ⟨lo, hlo⟩ : ∃ lo, wi long vr = lo := ⟨_, rfl⟩
            rw [hlo] at HS HNO ⊢
            clear hlo
            cases lo
            · have HNO2 := Lib.hid (HNO.out rfl)
              clear HNO
              go_wp2_with fail
              go_ret
              exact ⟨congrArg (fun b => Ending.returned (.bool b)) HNO2.out.symm, HB2.out⟩
            · clear HNO
              go_wp2_with fail
              go_round
              case rel => exact ⟨j + 1, by go_num, HJ.out, by rw [HS.out]; rfl⟩
              case measure => simp [intOf]; have := HJ.out; omega
          · have dk : decide ((64 : Int) < (kl : Int)) = true := decide_eq_true (by omega)
            have hd64 : decide (kl ≤ 64) = false := decide_eq_false h64
            rw [hd64] at HNO
            have HNO2 := Lib.hid (HNO.out rfl)
            clear h64 hkl hd64 HNO HS
            go_wp2_with fail
            go_ret
            exact ⟨congrArg (fun b => Ending.returned (.bool b)) HNO2.out.symm, HB2.out⟩
        · obtain rfl : j = m.ids.length := by omega
          have h1 : ¬ ((m.ids.length : Nat) : Int) < ((m.ids.length : Nat) : Int) := by omega
          rw [List.take_length] at HA
          clear hj hjl
          go_wp2_with fail
          go_loop [4] (fun i => ∃ j : Nat, i = .int .i64 (j : Int) ∧ j ≤ m.nodes.length ∧ (m.nodes.take j).all (wi 254) = true) (fun i => m.nodes.length - (intOf i).toNat)
          case atStart => exact ⟨0, rfl, Nat.zero_le _, rfl⟩
          case round =>
            obtain ⟨j, rfl, hj, ha⟩ := hrel
            have HA2 := Lib.hid ha
            clear ha h1
            by_cases hjl : j < m.nodes.length
            · obtain ⟨b1, o1, e1, hb1, k1⟩ := HI2.out.nodes.at_ (k := j) (by rw [List.length_map]; exact hjl)
              rw [List.getElem_map] at k1
              rw [e1] at c12
              obtain ⟨nd, hx⟩ : ∃ x, m.nodes[j] = x := ⟨_, rfl⟩
              rw [hx] at k1
              simp only [iv] at k1
              have h1 : (j : Int) < ((m.nodes.length : Nat) : Int) := by omega
              have h0 : (0 : Int) ≤ (j : Int) := by omega
              have HS := Lib.hid (show (m.nodes.take (j + 1)).all (wi 254) = wi 254 nd by rw [List.take_succ_eq_append_getElem hjl, List.all_append, HA2.out, hx]; simp)
              have HJ := Lib.hid hjl
              have HNO := Lib.hid (show wi 254 nd = false → may m = false by
                intro h
                have : m.nodes.all (wi 254) = false := by
                  rw [List.all_eq_false]
                  have hm : m.nodes[j]'hjl ∈ m.nodes := List.getElem_mem _
                  rw [hx] at hm
                  exact ⟨_, hm, by rw [h]; simp⟩
                rw [HM.out, this]; simp)
              clear e1 hb1 hx hj
              by_cases hn0 : 0 ≤ nd
              · have d0 : decide (nd < 0) = false := decide_eq_false (by omega)
                by_cases hn2 : nd ≤ 254
                · have d1 : decide ((255 : Int) ≤ nd) = false := decide_eq_false (by omega)
                  have hw : wi 254 nd = true := by unfold wi; rw [decide_eq_true hn0, decide_eq_true hn2]; rfl
                  rw [hw] at HS
                  clear hw HNO hn0 hn2
                  go_wp2_with fail
                  go_round
                  case rel => exact ⟨j + 1, by go_num, HJ.out, HS.out⟩
                  case measure => simp [intOf]; have := HJ.out; omega
                · have d1 : decide ((255 : Int) ≤ nd) = true := decide_eq_true (by omega)
                  have HNO2 := Lib.hid (HNO.out (by unfold wi; rw [decide_eq_false hn2, Bool.and_false]))
                  clear HNO HS hn0 hn2
                  go_wp2_with fail
                  go_ret
                  exact ⟨congrArg (fun b => Ending.returned (.bool b)) HNO2.out.symm, HB2.out⟩
              · have d0 : decide (nd < 0) = true := decide_eq_true (by omega)
                have HNO2 := Lib.hid (HNO.out (by unfold wi; rw [decide_eq_false hn0, Bool.false_and]))
                clear HNO HS hn0
                go_wp2_with fail
                go_ret
                exact ⟨congrArg (fun b => Ending.returned (.bool b)) HNO2.out.symm, HB2.out⟩
            · obtain rfl : j = m.nodes.length := by omega
              have h1 : ¬ ((m.nodes.length : Nat) : Int) < ((m.nodes.length : Nat) : Int) := by omega
              rw [List.take_length] at HA2
              have HY := Lib.hid (show may m = true by rw [HM.out, HA.out, HA2.out]; rfl)
              clear hj hjl
              go_wp2_with fail
              go_ret
              exact ⟨congrArg (fun b => Ending.returned (.bool b)) HY.out.symm, HB2.out⟩
theorem rmay_any (w : World) (m : Msg) (A : Option Addr) (c : Nat) (na : Option Addr) (nc : Nat) (hI : PIn w w.heap.size m A na) :
    Calls Tryd.prog 11 #[.agg (pv m A c na nc)] w fun e w' => e = .returned (.bool (may m)) ∧ Below w.heap.size w w' := by
  cases hK : isK m.kind with
  | true => exact rmay_yes w m A c na nc hI hK
  | false =>
    have h : may m = false := by rw [may_eq, hK]; rfl
    rw [h]; exact rmay_no w m A c na nc hI hK
end Go.Proofs.YtebdmfmadbikaaaDoor.WiW
/- The document's bytes of a number: 1, 2, 4 or 8 of them. A copy of XFieldsBytes over package wire. -/
namespace Go.Proofs.YtebdmfmadbikaaaDoor.FdW
open Go.RowKit Mem Fds
set_option linter.unusedVariables false
set_option linter.unusedSimpArgs false

theorem set_be (W j n : Nat) (hj : j < W) : (List.replicate (W - j) (0 : UInt8) ++ be j n).set (W - j - 1) (UInt8.ofNat (n / 256 ^ j)) = List.replicate (W - (j + 1)) 0 ++ be (j + 1) n := by
  obtain ⟨m, hm⟩ : ∃ m, W - j = m + 1 := ⟨W - j - 1, by omega⟩
  rw [hm, show W - (j + 1) = m by omega, Nat.add_sub_cancel, List.replicate_succ', be, List.append_assoc, List.set_append_right _ _ (by simp)]
  simp
/-- One more byte. -/
theorem own_be {wr : World} {base g c W j n q : Nat} (ho : Mem.Own wr base 5 (some ⟨g, 0, none⟩) c ((List.replicate (W - j) (0 : UInt8) ++ be j n).map u8v)) (hj : j < W) (hq : q = n / 256 ^ j) (v : Int) (hv : v = ((q % 256 : Nat) : Int)) :
    Mem.Own (wr.setCell ⟨g, W - j - 1, none⟩ (.int .u8 v)) base 5 (some ⟨g, 0, none⟩) c ((List.replicate (W - (j + 1)) (0 : UInt8) ++ be (j + 1) n).map u8v) := by
  subst hq; subst hv
  have := own_set ho (k := W - j - 1) (by simp [be_len]; omega) _ (UInt8.ofNat (n / 256 ^ j)) (by rw [UInt8.toNat_ofNat'])
  rwa [set_be W j n hj] at this
theorem free_be {wr : World} {base g c W j n : Nat} (ho : Mem.Own wr base 5 (some ⟨g, 0, none⟩) c ((List.replicate (W - j) (0 : UInt8) ++ be j n).map u8v)) (hj : j < W) : wr.frozen? ⟨g, W - j - 1, none⟩ = false ∧ ∃ u, wr.cell? ⟨g, W - j - 1, none⟩ = some u := by
  obtain ⟨g', hq, _, _, h3, h4, _⟩ := ho.at_ (k := W - j - 1) (by simp [be_len]; omega)
  injection hq with hq; injection hq with hq1 hq2; subst hq1
  exact ⟨h4, _, h3⟩
theorem div_next {n q j : Nat} (hq : q = n / 256 ^ j) : q / 256 = n / 256 ^ (j + 1) := by rw [hq, Nat.div_div_eq_div_mul, ← Nat.pow_succ]
theorem wrap_div {n q j : Nat} (hq : q = n / 256 ^ j) (hn : n < 256 ^ 8) : IntKind.u64.wrap ((q : Int) / 256) = (q : Int) / 256 := by
  have : q ≤ n := by rw [hq]; exact Nat.div_le_self _ _
  have e : ∀ x : Int, IntKind.u64.wrap x = x % 18446744073709551616 := fun _ => rfl
  rw [e]
  omega
theorem zeros_own (w : World) (W : Nat) (hW : W ≤ 8) (n : Nat) : Mem.Own (w.alloc (.cells (List.replicate W (Value.int .u8 0)).toArray 5)) w.heap.size 5 (some ⟨w.heap.size, 0, none⟩) W ((List.replicate (W - 0) (0 : UInt8) ++ be 0 n).map u8v) := by
  have := own_made w (List.replicate W (Value.int .u8 0)).toArray 5 (by simp [maxLen]; omega) (Nat.le_refl _)
  simpa [be, u8v] using this

theorem make1 (W : World) : (Instr.makeSlice 25 (.int .i64 1) (.int .i64 1)).run Tryd.prog W = .ok (.slice (some ⟨W.heap.size, 0, none⟩) 1 1) (W.alloc (.cells (List.replicate 1 (Value.int .u8 0)).toArray 5)) := by kernel_rfl
set_option maxHeartbeats 1000000 in
theorem bytes1_any (w : World) (n : Nat) (hn : n < 256 ^ 8) :
    Calls Tryd.prog 46 #[.int .u64 (n : Int), .int .i64 1] w (NewOk w (be 1 n)) := by
  have hmk := make1
  have hz := zeros_own w 1 (by decide) n
  have hb := nextA (Mem.start w) (.cells (List.replicate 1 (Value.int .u8 0)).toArray 5)
  have HZ := Lib.hid (And.intro hz hb)
  have HN := Lib.hid hn
  clear hz hb hn
  go_enter Tryd.func46, Tryd.ntmps46
  generalize (List.replicate 1 (Value.int .u8 0)).toArray = zs at *
  go_wp2_with fail
  go_loopw [0, 6] (fun s i wr => ∃ j q : Nat, (j = 0 ∧ i = .int .i64 1 ∨ j = 1 ∧ i = .int .i64 2) ∧ s = .int .u64 (q : Int) ∧ q = n / 256 ^ j ∧ Mem.Own wr w.heap.size 5 (some ⟨w.heap.size, 0, none⟩) 1 ((List.replicate (1 - j) (0 : UInt8) ++ be j n).map u8v) ∧ Below w.heap.size w wr) (fun _ i _ => 1 + 1 - (intOf i).toNat)
  case atStart => exact ⟨0, n, .inl ⟨rfl, rfl⟩, rfl, by simp, HZ.out.1, HZ.out.2⟩
  case round =>
    clear HZ hmk
    obtain ⟨j, q, hrel, rfl, hq, ho, hb⟩ := hrel
    have hwq : IntKind.u64.wrap ((q : Int) / 256) = (q : Int) / 256 := wrap_div hq HN.out
    have HQ := Lib.hid (And.intro hq (And.intro ho hb))
    clear hq ho hb
    rcases hrel with ⟨rfl, rfl⟩ | ⟨rfl, rfl⟩
    · obtain ⟨hf, u, hu⟩ := free_be HQ.out.2.1 (by decide)
      simp only [Nat.sub_zero, Nat.reduceSub] at hf hu
      go_wp2_with fail
      go_roundw
      case rel => exact ⟨1, q / 256, by simp, by simp, div_next HQ.out.1, own_be HQ.out.2.1 (by decide) HQ.out.1 _ (by first | rfl | (simp; done) | omega), HQ.out.2.2.trans (((Fr.refl (fun i => i = w.heap.size) _).setCell (p := ⟨w.heap.size, 0, none⟩) (fun _ => rfl) _).below HQ.out.2.2.size fun k hk => by subst hk; exact Nat.le_refl _)⟩
      case measure => simp [intOf]
    · go_wp2_with fail
      go_ret
      have ho := HQ.out.2.1
      exact ⟨_, _, by rw [be_len]; rfl, by simpa using ho, HQ.out.2.2⟩
theorem make2 (W : World) : (Instr.makeSlice 25 (.int .i64 2) (.int .i64 2)).run Tryd.prog W = .ok (.slice (some ⟨W.heap.size, 0, none⟩) 2 2) (W.alloc (.cells (List.replicate 2 (Value.int .u8 0)).toArray 5)) := by kernel_rfl
set_option maxHeartbeats 1000000 in
theorem bytes2_any (w : World) (n : Nat) (hn : n < 256 ^ 8) :
    Calls Tryd.prog 46 #[.int .u64 (n : Int), .int .i64 2] w (NewOk w (be 2 n)) := by
  have hmk := make2
  have hz := zeros_own w 2 (by decide) n
  have hb := nextA (Mem.start w) (.cells (List.replicate 2 (Value.int .u8 0)).toArray 5)
  have HZ := Lib.hid (And.intro hz hb)
  have HN := Lib.hid hn
  clear hz hb hn
  go_enter Tryd.func46, Tryd.ntmps46
  generalize (List.replicate 2 (Value.int .u8 0)).toArray = zs at *
  go_wp2_with fail
  go_loopw [0, 6] (fun s i wr => ∃ j q : Nat, (j = 0 ∧ i = .int .i64 1 ∨ j = 1 ∧ i = .int .i64 2 ∨ j = 2 ∧ i = .int .i64 3) ∧ s = .int .u64 (q : Int) ∧ q = n / 256 ^ j ∧ Mem.Own wr w.heap.size 5 (some ⟨w.heap.size, 0, none⟩) 2 ((List.replicate (2 - j) (0 : UInt8) ++ be j n).map u8v) ∧ Below w.heap.size w wr) (fun _ i _ => 2 + 1 - (intOf i).toNat)
  case atStart => exact ⟨0, n, .inl ⟨rfl, rfl⟩, rfl, by simp, HZ.out.1, HZ.out.2⟩
  case round =>
    clear HZ hmk
    obtain ⟨j, q, hrel, rfl, hq, ho, hb⟩ := hrel
    have hwq : IntKind.u64.wrap ((q : Int) / 256) = (q : Int) / 256 := wrap_div hq HN.out
    have HQ := Lib.hid (And.intro hq (And.intro ho hb))
    clear hq ho hb
    rcases hrel with ⟨rfl, rfl⟩ | ⟨rfl, rfl⟩ | ⟨rfl, rfl⟩
    · obtain ⟨hf, u, hu⟩ := free_be HQ.out.2.1 (by decide)
      simp only [Nat.sub_zero, Nat.reduceSub] at hf hu
      go_wp2_with fail
      go_roundw
      case rel => exact ⟨1, q / 256, by simp, by simp, div_next HQ.out.1, own_be HQ.out.2.1 (by decide) HQ.out.1 _ (by first | rfl | (simp; done) | omega), HQ.out.2.2.trans (((Fr.refl (fun i => i = w.heap.size) _).setCell (p := ⟨w.heap.size, 1, none⟩) (fun _ => rfl) _).below HQ.out.2.2.size fun k hk => by subst hk; exact Nat.le_refl _)⟩
      case measure => simp [intOf]
    · obtain ⟨hf, u, hu⟩ := free_be HQ.out.2.1 (by decide)
      simp only [Nat.sub_zero, Nat.reduceSub] at hf hu
      go_wp2_with fail
      go_roundw
      case rel => exact ⟨2, q / 256, by simp, by simp, div_next HQ.out.1, own_be HQ.out.2.1 (by decide) HQ.out.1 _ (by first | rfl | (simp; done) | omega), HQ.out.2.2.trans (((Fr.refl (fun i => i = w.heap.size) _).setCell (p := ⟨w.heap.size, 0, none⟩) (fun _ => rfl) _).below HQ.out.2.2.size fun k hk => by subst hk; exact Nat.le_refl _)⟩
      case measure => simp [intOf]
    · go_wp2_with fail
      go_ret
      have ho := HQ.out.2.1
      exact ⟨_, _, by rw [be_len]; rfl, by simpa using ho, HQ.out.2.2⟩
theorem make4 (W : World) : (Instr.makeSlice 25 (.int .i64 4) (.int .i64 4)).run Tryd.prog W = .ok (.slice (some ⟨W.heap.size, 0, none⟩) 4 4) (W.alloc (.cells (List.replicate 4 (Value.int .u8 0)).toArray 5)) := by kernel_rfl
set_option maxHeartbeats 1000000 in
theorem bytes4_any (w : World) (n : Nat) (hn : n < 256 ^ 8) :
    Calls Tryd.prog 46 #[.int .u64 (n : Int), .int .i64 4] w (NewOk w (be 4 n)) := by
  have hmk := make4
  have hz := zeros_own w 4 (by decide) n
  have hb := nextA (Mem.start w) (.cells (List.replicate 4 (Value.int .u8 0)).toArray 5)
  have HZ := Lib.hid (And.intro hz hb)
  have HN := Lib.hid hn
  clear hz hb hn
  go_enter Tryd.func46, Tryd.ntmps46
  generalize (List.replicate 4 (Value.int .u8 0)).toArray = zs at *
  go_wp2_with fail
  go_loopw [0, 6] (fun s i wr => ∃ j q : Nat, (j = 0 ∧ i = .int .i64 1 ∨ j = 1 ∧ i = .int .i64 2 ∨ j = 2 ∧ i = .int .i64 3 ∨ j = 3 ∧ i = .int .i64 4 ∨ j = 4 ∧ i = .int .i64 5) ∧ s = .int .u64 (q : Int) ∧ q = n / 256 ^ j ∧ Mem.Own wr w.heap.size 5 (some ⟨w.heap.size, 0, none⟩) 4 ((List.replicate (4 - j) (0 : UInt8) ++ be j n).map u8v) ∧ Below w.heap.size w wr) (fun _ i _ => 4 + 1 - (intOf i).toNat)
  case atStart => exact ⟨0, n, .inl ⟨rfl, rfl⟩, rfl, by simp, HZ.out.1, HZ.out.2⟩
  case round =>
    clear HZ hmk
    obtain ⟨j, q, hrel, rfl, hq, ho, hb⟩ := hrel
    have hwq : IntKind.u64.wrap ((q : Int) / 256) = (q : Int) / 256 := wrap_div hq HN.out
    have HQ := Lib.hid (And.intro hq (And.intro ho hb))
    clear hq ho hb
    rcases hrel with ⟨rfl, rfl⟩ | ⟨rfl, rfl⟩ | ⟨rfl, rfl⟩ | ⟨rfl, rfl⟩ | ⟨rfl, rfl⟩
    · obtain ⟨hf, u, hu⟩ := free_be HQ.out.2.1 (by decide)
      simp only [Nat.sub_zero, Nat.reduceSub] at hf hu
      go_wp2_with fail
      go_roundw
      case rel => exact ⟨1, q / 256, by simp, by simp, div_next HQ.out.1, own_be HQ.out.2.1 (by decide) HQ.out.1 _ (by first | rfl | (simp; done) | omega), HQ.out.2.2.trans (((Fr.refl (fun i => i = w.heap.size) _).setCell (p := ⟨w.heap.size, 3, none⟩) (fun _ => rfl) _).below HQ.out.2.2.size fun k hk => by subst hk; exact Nat.le_refl _)⟩
      case measure => simp [intOf]
    · obtain ⟨hf, u, hu⟩ := free_be HQ.out.2.1 (by decide)
      simp only [Nat.sub_zero, Nat.reduceSub] at hf hu
      go_wp2_with fail
      go_roundw
      case rel => exact ⟨2, q / 256, by simp, by simp, div_next HQ.out.1, own_be HQ.out.2.1 (by decide) HQ.out.1 _ (by first | rfl | (simp; done) | omega), HQ.out.2.2.trans (((Fr.refl (fun i => i = w.heap.size) _).setCell (p := ⟨w.heap.size, 2, none⟩) (fun _ => rfl) _).below HQ.out.2.2.size fun k hk => by subst hk; exact Nat.le_refl _)⟩
      case measure => simp [intOf]
    · obtain ⟨hf, u, hu⟩ := free_be HQ.out.2.1 (by decide)
      simp only [Nat.sub_zero, Nat.reduceSub] at hf hu
      go_wp2_with fail
      go_roundw
      case rel => exact ⟨3, q / 256, by simp, by simp, div_next HQ.out.1, own_be HQ.out.2.1 (by decide) HQ.out.1 _ (by first | rfl | (simp; done) | omega), HQ.out.2.2.trans (((Fr.refl (fun i => i = w.heap.size) _).setCell (p := ⟨w.heap.size, 1, none⟩) (fun _ => rfl) _).below HQ.out.2.2.size fun k hk => by subst hk; exact Nat.le_refl _)⟩
      case measure => simp [intOf]
    · obtain ⟨hf, u, hu⟩ := free_be HQ.out.2.1 (by decide)
      simp only [Nat.sub_zero, Nat.reduceSub] at hf hu
      go_wp2_with fail
      go_roundw
      case rel => exact ⟨4, q / 256, by simp, by simp, div_next HQ.out.1, own_be HQ.out.2.1 (by decide) HQ.out.1 _ (by first | rfl | (simp; done) | omega), HQ.out.2.2.trans (((Fr.refl (fun i => i = w.heap.size) _).setCell (p := ⟨w.heap.size, 0, none⟩) (fun _ => rfl) _).below HQ.out.2.2.size fun k hk => by subst hk; exact Nat.le_refl _)⟩
      case measure => simp [intOf]
    · go_wp2_with fail
      go_ret
      have ho := HQ.out.2.1
      exact ⟨_, _, by rw [be_len]; rfl, by simpa using ho, HQ.out.2.2⟩
theorem make8 (W : World) : (Instr.makeSlice 25 (.int .i64 8) (.int .i64 8)).run Tryd.prog W = .ok (.slice (some ⟨W.heap.size, 0, none⟩) 8 8) (W.alloc (.cells (List.replicate 8 (Value.int .u8 0)).toArray 5)) := by kernel_rfl
set_option maxHeartbeats 1000000 in
theorem bytes8_any (w : World) (n : Nat) (hn : n < 256 ^ 8) :
    Calls Tryd.prog 46 #[.int .u64 (n : Int), .int .i64 8] w (NewOk w (be 8 n)) := by
  have hmk := make8
  have hz := zeros_own w 8 (by decide) n
  have hb := nextA (Mem.start w) (.cells (List.replicate 8 (Value.int .u8 0)).toArray 5)
  have HZ := Lib.hid (And.intro hz hb)
  have HN := Lib.hid hn
  clear hz hb hn
  go_enter Tryd.func46, Tryd.ntmps46
  generalize (List.replicate 8 (Value.int .u8 0)).toArray = zs at *
  go_wp2_with fail
  go_loopw [0, 6] (fun s i wr => ∃ j q : Nat, (j = 0 ∧ i = .int .i64 1 ∨ j = 1 ∧ i = .int .i64 2 ∨ j = 2 ∧ i = .int .i64 3 ∨ j = 3 ∧ i = .int .i64 4 ∨ j = 4 ∧ i = .int .i64 5 ∨ j = 5 ∧ i = .int .i64 6 ∨ j = 6 ∧ i = .int .i64 7 ∨ j = 7 ∧ i = .int .i64 8 ∨ j = 8 ∧ i = .int .i64 9) ∧ s = .int .u64 (q : Int) ∧ q = n / 256 ^ j ∧ Mem.Own wr w.heap.size 5 (some ⟨w.heap.size, 0, none⟩) 8 ((List.replicate (8 - j) (0 : UInt8) ++ be j n).map u8v) ∧ Below w.heap.size w wr) (fun _ i _ => 8 + 1 - (intOf i).toNat)
  case atStart => exact ⟨0, n, .inl ⟨rfl, rfl⟩, rfl, by simp, HZ.out.1, HZ.out.2⟩
  case round =>
    clear HZ hmk
    obtain ⟨j, q, hrel, rfl, hq, ho, hb⟩ := hrel
    have hwq : IntKind.u64.wrap ((q : Int) / 256) = (q : Int) / 256 := wrap_div hq HN.out
    have HQ := Lib.hid (And.intro hq (And.intro ho hb))
    clear hq ho hb
    rcases hrel with ⟨rfl, rfl⟩ | ⟨rfl, rfl⟩ | ⟨rfl, rfl⟩ | ⟨rfl, rfl⟩ | ⟨rfl, rfl⟩ | ⟨rfl, rfl⟩ | ⟨rfl, rfl⟩ | ⟨rfl, rfl⟩ | ⟨rfl, rfl⟩
    · obtain ⟨hf, u, hu⟩ := free_be HQ.out.2.1 (by decide)
      simp only [Nat.sub_zero, Nat.reduceSub] at hf hu
      go_wp2_with fail
      go_roundw
      case rel => exact ⟨1, q / 256, by simp, by simp, div_next HQ.out.1, own_be HQ.out.2.1 (by decide) HQ.out.1 _ (by first | rfl | (simp; done) | omega), HQ.out.2.2.trans (((Fr.refl (fun i => i = w.heap.size) _).setCell (p := ⟨w.heap.size, 7, none⟩) (fun _ => rfl) _).below HQ.out.2.2.size fun k hk => by subst hk; exact Nat.le_refl _)⟩
      case measure => simp [intOf]
    · obtain ⟨hf, u, hu⟩ := free_be HQ.out.2.1 (by decide)
      simp only [Nat.sub_zero, Nat.reduceSub] at hf hu
      go_wp2_with fail
      go_roundw
      case rel => exact ⟨2, q / 256, by simp, by simp, div_next HQ.out.1, own_be HQ.out.2.1 (by decide) HQ.out.1 _ (by first | rfl | (simp; done) | omega), HQ.out.2.2.trans (((Fr.refl (fun i => i = w.heap.size) _).setCell (p := ⟨w.heap.size, 6, none⟩) (fun _ => rfl) _).below HQ.out.2.2.size fun k hk => by subst hk; exact Nat.le_refl _)⟩
      case measure => simp [intOf]
    · obtain ⟨hf, u, hu⟩ := free_be HQ.out.2.1 (by decide)
      simp only [Nat.sub_zero, Nat.reduceSub] at hf hu
      go_wp2_with fail
      go_roundw
      case rel => exact ⟨3, q / 256, by simp, by simp, div_next HQ.out.1, own_be HQ.out.2.1 (by decide) HQ.out.1 _ (by first | rfl | (simp; done) | omega), HQ.out.2.2.trans (((Fr.refl (fun i => i = w.heap.size) _).setCell (p := ⟨w.heap.size, 5, none⟩) (fun _ => rfl) _).below HQ.out.2.2.size fun k hk => by subst hk; exact Nat.le_refl _)⟩
      case measure => simp [intOf]
    · obtain ⟨hf, u, hu⟩ := free_be HQ.out.2.1 (by decide)
      simp only [Nat.sub_zero, Nat.reduceSub] at hf hu
      go_wp2_with fail
      go_roundw
      case rel => exact ⟨4, q / 256, by simp, by simp, div_next HQ.out.1, own_be HQ.out.2.1 (by decide) HQ.out.1 _ (by first | rfl | (simp; done) | omega), HQ.out.2.2.trans (((Fr.refl (fun i => i = w.heap.size) _).setCell (p := ⟨w.heap.size, 4, none⟩) (fun _ => rfl) _).below HQ.out.2.2.size fun k hk => by subst hk; exact Nat.le_refl _)⟩
      case measure => simp [intOf]
    · obtain ⟨hf, u, hu⟩ := free_be HQ.out.2.1 (by decide)
      simp only [Nat.sub_zero, Nat.reduceSub] at hf hu
      go_wp2_with fail
      go_roundw
      case rel => exact ⟨5, q / 256, by simp, by simp, div_next HQ.out.1, own_be HQ.out.2.1 (by decide) HQ.out.1 _ (by first | rfl | (simp; done) | omega), HQ.out.2.2.trans (((Fr.refl (fun i => i = w.heap.size) _).setCell (p := ⟨w.heap.size, 3, none⟩) (fun _ => rfl) _).below HQ.out.2.2.size fun k hk => by subst hk; exact Nat.le_refl _)⟩
      case measure => simp [intOf]
    · obtain ⟨hf, u, hu⟩ := free_be HQ.out.2.1 (by decide)
      simp only [Nat.sub_zero, Nat.reduceSub] at hf hu
      go_wp2_with fail
      go_roundw
      case rel => exact ⟨6, q / 256, by simp, by simp, div_next HQ.out.1, own_be HQ.out.2.1 (by decide) HQ.out.1 _ (by first | rfl | (simp; done) | omega), HQ.out.2.2.trans (((Fr.refl (fun i => i = w.heap.size) _).setCell (p := ⟨w.heap.size, 2, none⟩) (fun _ => rfl) _).below HQ.out.2.2.size fun k hk => by subst hk; exact Nat.le_refl _)⟩
      case measure => simp [intOf]
    · obtain ⟨hf, u, hu⟩ := free_be HQ.out.2.1 (by decide)
      simp only [Nat.sub_zero, Nat.reduceSub] at hf hu
      go_wp2_with fail
      go_roundw
      case rel => exact ⟨7, q / 256, by simp, by simp, div_next HQ.out.1, own_be HQ.out.2.1 (by decide) HQ.out.1 _ (by first | rfl | (simp; done) | omega), HQ.out.2.2.trans (((Fr.refl (fun i => i = w.heap.size) _).setCell (p := ⟨w.heap.size, 1, none⟩) (fun _ => rfl) _).below HQ.out.2.2.size fun k hk => by subst hk; exact Nat.le_refl _)⟩
      case measure => simp [intOf]
    · obtain ⟨hf, u, hu⟩ := free_be HQ.out.2.1 (by decide)
      simp only [Nat.sub_zero, Nat.reduceSub] at hf hu
      go_wp2_with fail
      go_roundw
      case rel => exact ⟨8, q / 256, by simp, by simp, div_next HQ.out.1, own_be HQ.out.2.1 (by decide) HQ.out.1 _ (by first | rfl | (simp; done) | omega), HQ.out.2.2.trans (((Fr.refl (fun i => i = w.heap.size) _).setCell (p := ⟨w.heap.size, 0, none⟩) (fun _ => rfl) _).below HQ.out.2.2.size fun k hk => by subst hk; exact Nat.le_refl _)⟩
      case measure => simp [intOf]
    · go_wp2_with fail
      go_ret
      have ho := HQ.out.2.1
      exact ⟨_, _, by rw [be_len]; rfl, by simpa using ho, HQ.out.2.2⟩
end Go.Proofs.YtebdmfmadbikaaaDoor.FdW
/- append of a text onto a row of one's own. -/
namespace Go.Proofs.YtebdmfmadbikaaaDoor.WiW
open Go.RowKit Go.Shelf Mem Fds FdW Wi Rng
set_option linter.unusedVariables false
set_option linter.unusedSimpArgs false

theorem setAll_size : ∀ (l : List Value) (cs : Array Value) (k : Nat), (setAll cs k l).size = cs.size
  | [], cs, k => rfl
  | v :: l, cs, k => by simp only [setAll]; rw [setAll_size l]; simp
theorem setAll_take : ∀ (l : List Value) (cs : Array Value) (k : Nat), k + l.length ≤ cs.size → (setAll cs k l).toList.take (k + l.length) = cs.toList.take k ++ l
  | [], cs, k, _ => by simp [setAll]
  | v :: l, cs, k, h => by
    simp only [List.length_cons] at h ⊢
    simp only [setAll]
    rw [show k + (l.length + 1) = (k + 1) + l.length by omega, setAll_take l _ (k + 1) (by simp; omega)]
    rw [Array.toList_setIfInBounds, List.take_set, List.take_succ_eq_append_getElem (by simp; omega)]
    rw [List.set_append_right _ _ (by simp; omega)]
    simp [Nat.min_eq_left (show k ≤ cs.size by omega)]
theorem first_str (P : Program) (w : World) (s : List UInt8) (n : Nat) (hn : n = s.length) : (Builtin.firstCells 1 n (.string (str s))).run P w = .ok (s.map u8v).toArray w := by
  subst hn
  simp only [Builtin.firstCells, Sem.run_pure]
  have hx : ((str s).extract 0 s.length).data = s.toArray := by
    rw [ByteArray.data_extract]
    show s.toArray.extract 0 s.length = s.toArray
    have : s.length = s.toArray.size := by simp
    rw [this, Array.extract_size]
  rw [hx]
  simp [u8v]
theorem run_apps {P : Program} (w : World) (t u ty e : TypeId) (i : TypeInfo) (z : Value) (ht : P.underlying t = some (.slice e)) (hu : P.underlying u = some .string) (hi : P.info? e = some i) (hz : i.zero = some z) (hsize : i.size = 1) (hby : i.bytes = 1) (hzs : z.cells.size = 1)
    (base g c : Nat) (l s : List UInt8) (hown : Mem.Own w base e (some ⟨g, 0, none⟩) c (l.map u8v)) (hb : base ≤ w.heap.size) (hm : l.length + s.length ≤ 100000000) :
    ∃ A' c' w', (Builtin.append_ #[t, u] ty #[.slice (some ⟨g, 0, none⟩) l.length c, .string (str s)]).run P w = .ok (.slice A' (l.length + s.length) c') w' ∧ Mem.Own w' base e A' c' ((l ++ s).map u8v) ∧ Below base w w' := by
  obtain ⟨m, hsm⟩ : ∃ m, s.length = m := ⟨_, rfl⟩
  have hlen : (str s).size = m := hsm
  rcases hown.form with ⟨h, _⟩ | ⟨g', h, hgb, hglt, hle, hmx⟩
  · cases h
  injection h with h; injection h with h; subst h
  rw [List.length_map] at hle
  by_cases hroom : l.length + m ≤ c
  · rcases hown.2 with ⟨hv, _⟩ | ⟨g2, cap, cur, hv, hbg, hh, hnc, hm2, hcs, ht2⟩
    · cases hv
    · injection hv with h1 _ h3
      injection h1 with h1; injection h1 with h1
      subst h1; subst h3
      rw [List.length_map, Nat.mul_one] at ht2
      rw [Nat.mul_one] at hcs
      have hblk : Blk w g e cur := hh
      have hf := first_str P w s m hsm.symm
      have hst := run_storeCells_cells (P := P) g (l.length * i.size) (s.map u8v) 0 w (fun j hj => by
          rw [hsize, Nat.mul_one]
          rw [List.length_map] at hj
          rw [hblk.cell, Array.getElem?_eq_getElem (by omega)]; rfl) (fun j hj => hblk.frozen _) (fun v hv => by obtain ⟨_, _, rfl⟩ := List.mem_map.1 hv; rfl)
      rw [Nat.add_zero, hsize, Nat.mul_one] at hst
      refine ⟨some ⟨g, 0, none⟩, c, w.setCells g l.length (s.map u8v), ?_, ?_, ?_⟩
      · rw [hsm]
        simp [Builtin.append_, run_underlying ht, run_underlying hu, sizeOf, typeInfo, hi, hsize, Builtin.lenOf, hlen, hroom, Addr.add_lit, hf, hst]
      · have h4 := blk_setCells (s.map u8v) l.length w cur hblk
        have hsz := setAll_size (s.map u8v) cur l.length
        refine ⟨by simp, .inr ⟨g, c, setAll cur l.length (s.map u8v), by simp, hbg, h4, by simp; omega, hm2, by rw [hsz, Nat.mul_one]; exact hcs, ?_⟩⟩
        rw [List.map_append, Nat.mul_one, List.length_append, List.length_map]
        rw [setAll_take _ _ _ (by rw [List.length_map]; omega), ht2]
      · exact (fr_setCells (S := fun k => k = g) rfl (s.map u8v) l.length w (Fr.refl _ w)).below hb fun k hk => by omega
  · have holds : ∀ j v, (l.map u8v)[j]? = some v → w.cell? ((⟨g, 0, none⟩ : Addr).add j) = some v := fun j v hj => World.ownsRow.cells (g := g) hown rfl j v hj
    have hn : ¬ (l.length + m ≤ c) := hroom
    have h63' : ¬ (9223372036854775807 < ((l.length : Int) + (m : Int))) := by omega
    have hfit := growslice_fits (need := l.length + m) (old := c) (bytes := i.bytes) (by omega) (by rw [hby]; omega)
    have h48' : ¬ (281474976710656 < Builtin.nextslicecap (l.length + m) c * i.bytes) := by omega
    have hf := first_str P w.drew s m hsm.symm
    have hfo := run_firstCells_some (P := P) w.drew i.size l.length ⟨g, 0, none⟩ l.length c (l.map u8v) (by rw [hsize]; simp) (by simpa using holds)
    rw [hsize] at hfo
    refine ⟨some ⟨w.heap.size, 0, none⟩, grownCap w (l.length + m) c e, w.drew.alloc (.cells ((l.map u8v).toArray ++ (s.map u8v).toArray ++ Builtin.zeroCells z.cells (grownCap w (l.length + m) c e - (l.length + m))) e), ?_, ?_, ?_⟩
    · rw [hsm]
      simp [Builtin.append_, run_underlying ht, run_underlying hu, sizeOf, typeInfo, zeroValue, hi, hz, hsize, Builtin.lenOf, hlen, hn, h63', h48', Question.forced, hf, hfo, newRow, grownCap]
      congr 2
      apply Array.ext'
      simp [List.append_assoc]
    · obtain ⟨C, hC⟩ : ∃ C, (l.map u8v).toArray ++ (s.map u8v).toArray ++ Builtin.zeroCells z.cells (grownCap w (l.length + m) c e - (l.length + m)) = C := ⟨_, rfl⟩
      have hge := grownCap_ge w (l.length + m) c e
      have hcs : C.size = grownCap w (l.length + m) c e := by
        rw [← hC]
        simp [Builtin.zeroCells, hzs, hsm]
        omega
      have hmax := grownCap_le_maxLen w (l.length + m) c e (by unfold maxLen; omega)
      have h1 := (own_made w.drew C e (by rw [hcs]; exact hmax) (base := base) hb).take (l.length + m)
      have h2 : C.toList.take (l.length + m) = (l ++ s).map u8v := by
        rw [← hC, Array.toList_append, Array.toList_append, List.take_append_of_le_length (by simp; omega)]
        rw [List.take_of_length_le (by simp; omega)]
        simp
      rw [h2, hcs] at h1
      rw [hC]; exact h1
    · have h0 : Below base w w.drew := ⟨rfl, rfl, rfl, Nat.le_refl _, fun _ _ => rfl⟩
      exact h0.trans ((Below.refl base w.drew).alloc hb _)
theorem u8inf17 : (Tryd.prog.info? 5).map (fun i => (i.zero, i.size, i.bytes)) = some (some (.int .u8 0), 1, 1) := by kernel_rfl
/-- The walk's law. -/
theorem wpList_apps {ops : Array Oper} {rest : List Oper} {o : Oper} {a : Act} {Q : Exit → Act → World → Prop} (w : World) (hgd : o.guard = none) (s x : Operand) (ho : o.op = .call { callee := .builtin .append, args := #[s, x], argTypes := #[25, 9] })
    (base g n c : Nat) (l t : List UInt8) (hs : a.eval s = .slice (some ⟨g, 0, none⟩) n c) (hn : n = l.length) (hx : a.eval x = .string (str t)) (hown : Mem.Own w base 5 (some ⟨g, 0, none⟩) c (l.map u8v)) (hb : base ≤ w.heap.size) (hm : l.length + t.length ≤ 100000000)
    (h : ∀ A' c' w', Mem.Own w' base 5 A' c' ((l ++ t).map u8v) → Below base w w' → wpList Tryd.prog ops Q rest (a.put o.dst (.slice A' (l ++ t).length c')) w') : wpList Tryd.prog ops Q (o :: rest) a w := by
  subst hn
  obtain ⟨i0, hi0, hz0, hz1, hz2⟩ := info_parts u8inf17
  obtain ⟨A', c', w', hrun, h2, h3⟩ := run_apps (P := Tryd.prog) w 25 9 o.type 5 i0 (.int .u8 0) Tryd.underlying25 Tryd.underlying9 hi0 hz0 hz1 hz2 rfl base g c l t hown hb hm
  refine wpList_plain hgd fun K hK => ?_
  unfold Oper.wp execOp
  simp only [ho, resolve, invoke, builtin, Sem.run_bind, Sem.run_pure, Result.andThen_ok, List.map_toArray, List.map_cons, List.map_nil, hs, hx, hrun]
  rw [← List.length_append]
  exact hK _ _ (h A' c' w' h2 h3)
/-- The document's number, and its text. -/
theorem wrap_u64 {n : Int} (h0 : 0 ≤ n) (h1 : n ≤ 4611686018427387904) : IntKind.u64.wrap n = ((n.toNat : Nat) : Int) := by
  have e : ∀ x : Int, IntKind.u64.wrap x = x % 18446744073709551616 := fun _ => rfl
  rw [e]; omega
theorem lt256 {n : Int} (h0 : 0 ≤ n) (h1 : n ≤ 4611686018427387904) : n.toNat < 256 ^ 8 := by
  have : (256 : Nat) ^ 8 = 18446744073709551616 := by decide
  omega
theorem rnumber1_any (w : World) (n : Int) (h0 : 0 ≤ n) (h1 : n ≤ 4611686018427387904) : Calls Tryd.prog 25 #[.int .i64 n, .int .i64 1] w (NewOk w (be 1 n.toNat)) := by
  have hw := wrap_u64 h0 h1
  have HL := Lib.hid (lt256 h0 h1)
  obtain ⟨k, hk⟩ : ∃ k, n.toNat = k := ⟨_, rfl⟩
  rw [hk] at hw HL ⊢
  clear h0 h1 hk
  go_enter Tryd.func25, Tryd.ntmps25
  go_wp2_with fail
  refine (bytes1_any w k HL.out).mono ?_
  rintro e w1 ⟨A1, c1, rfl, ho, hb⟩
  have HO := Lib.hid (And.intro ho hb)
  clear ho hb hw
  go_wp2_with fail
  go_ret
  exact ⟨A1, c1, rfl, HO.out.1, HO.out.2⟩
theorem rnumber2_any (w : World) (n : Int) (h0 : 0 ≤ n) (h1 : n ≤ 4611686018427387904) : Calls Tryd.prog 25 #[.int .i64 n, .int .i64 2] w (NewOk w (be 2 n.toNat)) := by
  have hw := wrap_u64 h0 h1
  have HL := Lib.hid (lt256 h0 h1)
  obtain ⟨k, hk⟩ : ∃ k, n.toNat = k := ⟨_, rfl⟩
  rw [hk] at hw HL ⊢
  clear h0 h1 hk
  go_enter Tryd.func25, Tryd.ntmps25
  go_wp2_with fail
  refine (bytes2_any w k HL.out).mono ?_
  rintro e w1 ⟨A1, c1, rfl, ho, hb⟩
  have HO := Lib.hid (And.intro ho hb)
  clear ho hb hw
  go_wp2_with fail
  go_ret
  exact ⟨A1, c1, rfl, HO.out.1, HO.out.2⟩
theorem rnumber4_any (w : World) (n : Int) (h0 : 0 ≤ n) (h1 : n ≤ 4611686018427387904) : Calls Tryd.prog 25 #[.int .i64 n, .int .i64 4] w (NewOk w (be 4 n.toNat)) := by
  have hw := wrap_u64 h0 h1
  have HL := Lib.hid (lt256 h0 h1)
  obtain ⟨k, hk⟩ : ∃ k, n.toNat = k := ⟨_, rfl⟩
  rw [hk] at hw HL ⊢
  clear h0 h1 hk
  go_enter Tryd.func25, Tryd.ntmps25
  go_wp2_with fail
  refine (bytes4_any w k HL.out).mono ?_
  rintro e w1 ⟨A1, c1, rfl, ho, hb⟩
  have HO := Lib.hid (And.intro ho hb)
  clear ho hb hw
  go_wp2_with fail
  go_ret
  exact ⟨A1, c1, rfl, HO.out.1, HO.out.2⟩
theorem rnumber8_any (w : World) (n : Int) (h0 : 0 ≤ n) (h1 : n ≤ 4611686018427387904) : Calls Tryd.prog 25 #[.int .i64 n, .int .i64 8] w (NewOk w (be 8 n.toNat)) := by
  have hw := wrap_u64 h0 h1
  have HL := Lib.hid (lt256 h0 h1)
  obtain ⟨k, hk⟩ : ∃ k, n.toNat = k := ⟨_, rfl⟩
  rw [hk] at hw HL ⊢
  clear h0 h1 hk
  go_enter Tryd.func25, Tryd.ntmps25
  go_wp2_with fail
  refine (bytes8_any w k HL.out).mono ?_
  rintro e w1 ⟨A1, c1, rfl, ho, hb⟩
  have HO := Lib.hid (And.intro ho hb)
  clear ho hb hw
  go_wp2_with fail
  go_ret
  exact ⟨A1, c1, rfl, HO.out.1, HO.out.2⟩
/-- A text is there: its length and its bytes. -/
theorem rtext1_any (w : World) (s : List UInt8) (hs : s.length ≤ 1000000) : Calls Tryd.prog 27 #[.string (str s), .int .i64 1] w (NewOk w (be 1 s.length ++ s)) := by
  obtain ⟨n, hn⟩ : ∃ n, s.length = n := ⟨_, rfl⟩
  have hz : (str s).size = n := hn
  have HN := Lib.hid (And.intro hn (show n ≤ 1000000 by omega))
  rw [hn]
  clear hn hs
  go_enter Tryd.func27, Tryd.ntmps27
  go_wp2_with fail
  refine (rnumber1_any w (n : Int) (by omega) (by have := HN.out.2; omega)).mono ?_
  rintro e w1 ⟨A1, c1, rfl, ho, hb⟩
  rw [Int.toNat_natCast] at ho ⊢
  rcases ho.form with ⟨_, _, h⟩ | ⟨g, rfl, _⟩
  · have := congrArg List.length h
    rw [List.length_map, be_len] at this
    cases this
  · have HO := Lib.hid (And.intro ho hb)
    rw [be_len]
    clear ho hb
    go_wp2_with ((with_reducible show wpList _ _ _ ((⟨some 10, _, _, _, _, _⟩ : Oper) :: _) _ _); refine wpList_apps w1 rfl (.tmp 8) (.tmp 9) rfl w.heap.size g 1 c1 (be 1 n) s rfl (by rw [be_len]) rfl HO.out.1 HO.out.2.size (by rw [be_len]; have := HN.out; omega) ?_; intro A2 c2 w2 ho2 hb2; have H2 := Lib.hid (And.intro ho2 hb2); clear ho2 hb2)
    go_ret
    exact ⟨A2, c2, by simp [be_len], H2.out.1, HO.out.2.trans H2.out.2⟩
theorem rtext4_any (w : World) (s : List UInt8) (hs : s.length ≤ 1000000) : Calls Tryd.prog 27 #[.string (str s), .int .i64 4] w (NewOk w (be 4 s.length ++ s)) := by
  obtain ⟨n, hn⟩ : ∃ n, s.length = n := ⟨_, rfl⟩
  have hz : (str s).size = n := hn
  have HN := Lib.hid (And.intro hn (show n ≤ 1000000 by omega))
  rw [hn]
  clear hn hs
  go_enter Tryd.func27, Tryd.ntmps27
  go_wp2_with fail
  refine (rnumber4_any w (n : Int) (by omega) (by have := HN.out.2; omega)).mono ?_
  rintro e w1 ⟨A1, c1, rfl, ho, hb⟩
  rw [Int.toNat_natCast] at ho ⊢
  rcases ho.form with ⟨_, _, h⟩ | ⟨g, rfl, _⟩
  · have := congrArg List.length h
    rw [List.length_map, be_len] at this
    cases this
  · have HO := Lib.hid (And.intro ho hb)
    rw [be_len]
    clear ho hb
    go_wp2_with ((with_reducible show wpList _ _ _ ((⟨some 10, _, _, _, _, _⟩ : Oper) :: _) _ _); refine wpList_apps w1 rfl (.tmp 8) (.tmp 9) rfl w.heap.size g 4 c1 (be 4 n) s rfl (by rw [be_len]) rfl HO.out.1 HO.out.2.size (by rw [be_len]; have := HN.out; omega) ?_; intro A2 c2 w2 ho2 hb2; have H2 := Lib.hid (And.intro ho2 hb2); clear ho2 hb2)
    go_ret
    exact ⟨A2, c2, by simp [be_len], H2.out.1, HO.out.2.trans H2.out.2⟩
end Go.Proofs.YtebdmfmadbikaaaDoor.WiW
/- The document's Bytes. Printed by genwdoc5.py (raw numbers of the seat). -/
namespace Go.Proofs.YtebdmfmadbikaaaDoor.WiW
open Go.RowKit Go.Shelf Mem Fds FdW Wi Rng
set_option linter.unusedVariables false
set_option linter.unusedSimpArgs false

/-- Bytes appended to a row of the call's own. -/
theorem wpList_appW {ops : Array Oper} {rest : List Oper} {o : Oper} {a : Act} {Q : Exit → Act → World → Prop} (w : World) (hgd : o.guard = none) (s x : Operand) (ho : o.op = .call { callee := .builtin .append, args := #[s, x], argTypes := #[25, 25] })
    (base : Nat) (hbase : base ≤ w.heap.size) (A : Option Addr) (n c : Nat) (l : List UInt8) (hs : a.eval s = .slice A n c) (hn : l.length = n) (hown : Mem.Own w base 5 A c (l.map u8v)) (M : Nat) (S : Option Addr) (m d : Nat) (b : List UInt8) (hx : a.eval x = .slice S m d) (hm : b.length = m) (hB : Bytes w M S b) (hmx : n + m ≤ 100000000) (N : Nat) (hN : N = n + m)
    (h : ∀ A' c' w', Mem.Own w' base 5 A' c' ((l ++ b).map u8v) → Below base w w' → w.grownBy w' (A.map (·.block)) → wpList Tryd.prog ops Q rest (a.put o.dst (.slice A' N c')) w') : wpList Tryd.prog ops Q (o :: rest) a w := by
  obtain ⟨i0, hi0, hz0, hz1, hz2⟩ := info_parts u8inf17
  exact wpList_app w hgd s x _ ho base 5 i0 _ 1 Tryd.underlying25 hi0 hz0 hz1 hz2 rfl A c n (l.map u8v) hs (by rw [List.length_map, hn]) hown M S d m (b.map u8v) hx (by rw [List.length_map, hm]) hB u8v_one (by rw [List.length_map, List.length_map, hn, hm]; unfold maxLen; omega) (by rw [List.length_map, List.length_map, hn, hm]; omega) hbase N hN fun A' c' w' h1 h2 h3 _ => h A' c' w' (by rw [List.map_append]; exact h1) h2 h3
/-- The bytes as far as the fields below j. -/
def preB (m : Msg) (j : Nat) : List UInt8 := head m ++ ((flds m.kind).filter (fun f => decide (f < j))).flatMap (fb m)
theorem preB_zero (m : Msg) : preB m 0 = head m := by unfold preB; rw [show (flds m.kind).filter (fun f => decide (f < 0)) = [] from by simp]; simp
theorem preB_next (m : Msg) (j : Nat) (hk : m.kind < 256) (hj : j < 11) : preB m (j + 1) = preB m j ++ (if j ∈ flds m.kind then fb m j else []) := by
  unfold preB
  rw [flds_cut _ _ hk hj, List.flatMap_append, List.append_assoc]
  split <;> simp
theorem preB_all (m : Msg) (hk : m.kind < 256) : preB m 11 = Wi.bytes m := by unfold preB Wi.bytes; rw [flds_all _ hk]
theorem flat_sub (m : Msg) {fs gs : List Nat} (h : List.Sublist fs gs) : (fs.flatMap (fb m)).length ≤ (gs.flatMap (fb m)).length := by
  induction h with
  | slnil => exact Nat.le_refl _
  | cons _ _ ih => rw [List.flatMap_cons, List.length_append]; omega
  | cons_cons _ _ ih => rw [List.flatMap_cons, List.flatMap_cons, List.length_append, List.length_append]; omega
theorem preB_le (m : Msg) (j : Nat) (hm : MayB m) : (preB m j).length ≤ 800000 := by
  have h1 := bytes_leB hm
  have h2 := flat_sub m (List.filter_sublist (l := flds m.kind) (p := fun f => decide (f < j)))
  unfold Wi.bytes at h1
  unfold preB
  rw [List.length_append] at h1 ⊢
  omega
/-- The state: the bytes so far in slot 3. -/
def BSt (w : World) (bx : Nat) (m : Msg) (A : Option Addr) (c : Nat) (na : Option Addr) (nc : Nat) (l : List UInt8) (s : Value) (W : World) : Prop :=
  ∃ B d n, s = .slice B n d ∧ l.length = n ∧ Mem.Own W w.heap.size 5 B d (l.map u8v) ∧ Blk W bx 33 (pv m A c na nc) ∧ Below w.heap.size w W
theorem take_flat {α : Type} (l : List α) (g : α → List UInt8) (j : Nat) : ((l.take j).flatMap g).length ≤ (l.flatMap g).length := by
  conv => rhs; rw [← List.take_append_drop j l, List.flatMap_append, List.length_append]
  omega
theorem be_one (k : Nat) (hk : k < 256) : (be 1 k).map u8v = [.int .u8 (k : Int)] := by
  simp [be, u8v]
  omega
set_option maxRecDepth 100000 in
set_option maxHeartbeats 16000000 in
theorem rbytes_any (w : World) (m : Msg) (A : Option Addr) (c : Nat) (na : Option Addr) (nc : Nat) (hI : PIn w w.heap.size m A na) (hm : MayB m) :
    Calls Tryd.prog 13 #[.agg (pv m A c na nc)] w (NewOk w (Wi.bytes m)) := by
  obtain ⟨bx, hbx⟩ : ∃ bx, w.heap.size = bx := ⟨_, rfl⟩
  obtain ⟨w1, hw1⟩ : ∃ x : World, w.alloc (.cells (pv m A c na nc) 33) = x := ⟨_, rfl⟩
  have hb1 : Below w.heap.size w w1 := by rw [← hw1]; exact nextA (Mem.start w) _
  have HX1 := Lib.hid (show Blk w1 bx 33 (pv m A c na nc) ∧ Below w.heap.size w w1 by rw [← hw1, ← hbx]; exact ⟨Blk.new w _ _, nextA (Mem.start w) _⟩)
  have HI := Lib.hid hI
  have HM := Lib.hid hm
  have HK := Lib.hid hI.kind
  have c0 := HX1.out.1.cell 0
  have c1 := HX1.out.1.cell 1
  simp [pv, pvk] at c0 c1
  have c1' : (w1.alloc (.cells #[.int .u8 (m.kind : Int)] 5)).cell? ⟨bx, 1, none⟩ = some (.int .i64 m.frm) := ((nextA (Mem.start w1) _).cell (World.block_lt_of_cell? _ _ c1)).trans c1
  clear hb1 hI hm
  go_enter Tryd.func13, Tryd.ntmps13
  go_wp2_with fail
  refine (rnumber2_any _ m.frm HM.out.frm.1 (by have := HM.out.frm.2; omega)).mono ?_
  rintro e w2 ⟨A2, d2, rfl, ho2, hb2⟩
  rw [be_len] at *
  have HR0 := Lib.hid (show Mem.Own w2 w.heap.size 5 (some ⟨w1.heap.size, 0, none⟩) 1 ((be 1 m.kind).map u8v) ∧ Mem.Own w2 (w1.alloc (.cells #[.int .u8 (m.kind : Int)] 5)).heap.size 5 A2 d2 ((be 2 m.frm.toNat).map u8v) ∧ Blk w2 bx 33 (pv m A c na nc) ∧ Below w.heap.size w w2 by
    have h1 : Mem.Own (w1.alloc (.cells #[.int .u8 (m.kind : Int)] 5)) w.heap.size 5 (some ⟨w1.heap.size, 0, none⟩) 1 ((be 1 m.kind).map u8v) := by
      rw [be_one m.kind HK.out]
      exact own_made w1 #[.int .u8 (m.kind : Int)] 5 (by simp [maxLen]) (base := w.heap.size) HX1.out.2.size
    exact ⟨h1.keep hb2, ho2, (HX1.out.1.keep (nextA (Mem.start w1) _)).keep hb2, next (nextA HX1.out.2 _) hb2⟩)
  clear c0 c1 c1' ho2 hb2
  go_wp2_with ((with_reducible show wpList _ _ _ ((⟨some 14, _, _, _, _, _⟩ : Oper) :: _) _ _); refine wpList_appW w2 rfl (.tmp 10) (.tmp 13) rfl w.heap.size HR0.out.2.2.2.size (some ⟨w1.heap.size, 0, none⟩) 1 1 (be 1 m.kind) rfl (be_len _ _) HR0.out.1 w2.heap.size A2 2 d2 (be 2 m.frm.toNat) rfl (be_len _ _) HR0.out.2.1.bytes (by omega) 3 rfl ?_; intro A3 d3 w3 ho3 hb3 hg3; have H3 := Lib.hid (show Mem.Own w3 w.heap.size 5 A3 d3 ((be 1 m.kind ++ be 2 m.frm.toNat).map u8v) ∧ Blk w3 bx 33 (pv m A c na nc) ∧ Below w.heap.size w w3 from ⟨ho3, HR0.out.2.2.1.app HR0.out.1 (by decide) hg3, HR0.out.2.2.2.trans hb3⟩); clear ho3 hb3 hg3; have c2 := H3.out.2.1.cell 2; simp [pv, pvk] at c2)
  refine (rnumber2_any w3 m.to_ HM.out.to_.1 (by have := HM.out.to_.2; omega)).mono ?_
  rintro e w4 ⟨A4, d4, rfl, ho4, hb4⟩
  rw [be_len]
  have H4 := Lib.hid (show Mem.Own w4 w.heap.size 5 A3 d3 ((be 1 m.kind ++ be 2 m.frm.toNat).map u8v) ∧ Mem.Own w4 w3.heap.size 5 A4 d4 ((be 2 m.to_.toNat).map u8v) ∧ Blk w4 bx 33 (pv m A c na nc) ∧ Below w.heap.size w w4 from ⟨H3.out.1.keep hb4, ho4, H3.out.2.1.keep hb4, next H3.out.2.2 hb4⟩)
  clear c2 ho4 hb4
  go_wp2_with ((with_reducible show wpList _ _ _ ((⟨some 19, _, _, _, _, _⟩ : Oper) :: _) _ _); refine wpList_appW w4 rfl (.tmp 15) (.tmp 18) rfl w.heap.size H4.out.2.2.2.size A3 3 d3 (be 1 m.kind ++ be 2 m.frm.toNat) rfl (by rw [List.length_append, be_len, be_len]) H4.out.1 w4.heap.size A4 2 d4 (be 2 m.to_.toNat) rfl (be_len _ _) H4.out.2.1.bytes (by omega) 5 rfl ?_; intro A5 d5 w5 ho5 hb5 hg5; have H5 := Lib.hid (show Mem.Own w5 w.heap.size 5 A5 d5 ((preB m 0).map u8v) ∧ (preB m 0).length = 5 ∧ Blk w5 bx 33 (pv m A c na nc) ∧ Below w.heap.size w w5 from ⟨by rw [preB_zero]; exact ho5, by rw [preB_zero, head_len], H4.out.2.2.1.app H4.out.1 (by decide) hg5, H4.out.2.2.2.trans hb5⟩); clear ho5 hb5 hg5; have c0 := H5.out.2.2.1.cell 0; simp [pv, pvk] at c0)
  refine (in_any w5 m.kind HK.out 0 (by decide) 82 rfl).mono ?_
  rintro e wi ⟨rfl, rfl⟩
  obtain ⟨d_0, hd0⟩ : ∃ d, decide (0 ∈ flds m.kind) = d := ⟨_, rfl⟩
  have HP0 := Lib.hid (show preB m 1 = preB m 0 ++ (if d_0 = true then fb m 0 else []) by rw [preB_next m 0 HK.out (by decide), ← hd0]; simp)
  rw [hd0]
  clear hd0 c0
  go_upto_if 23 with fail
  go_cut [3] (fun s3 wx => BSt w bx m A c na nc (preB m 1) s3 wx)
  case first =>
    as_aux_lemma =>
    cases d_0
    · go_wp2_with fail
      go_meet
      have hp := HP0.out
      simp only [Bool.false_eq_true, if_false, List.append_nil] at hp
      rw [hp]
      exact ⟨A5, d5, 5, rfl, H5.out.2.1, H5.out.1, H5.out.2.2.1, H5.out.2.2.2⟩
    · skip
      have cc := H5.out.2.2.1.cell 3
      simp [pv, pvk] at cc
      go_wp2_with fail
      refine (rnumber8_any w5 m.req HM.out.req.1 (by have := HM.out.req.2; omega)).mono ?_
      rintro e wn ⟨An, dn, rfl, hon, hbn⟩
      rw [be_len]
      have KN := Lib.hid (And.intro (H5.out.1.keep hbn) (And.intro hon (And.intro (H5.out.2.2.1.keep hbn) (next H5.out.2.2.2 hbn))))
      clear cc hon hbn
      go_wp2_with ((with_reducible show wpList _ _ _ ((⟨some 28, _, _, _, _, _⟩ : Oper) :: _) _ _); refine wpList_appW wn rfl (.tmp 24) (.tmp 27) rfl w.heap.size KN.out.2.2.2.size A5 5 d5 (preB m 0) rfl H5.out.2.1 KN.out.1 wn.heap.size An 8 dn (be 8 m.req.toNat) rfl (be_len _ _) KN.out.2.1.bytes (by have := preB_le m 0 HM.out; have := H5.out.2.1; omega) (5 + 8) rfl ?_; intro Am dm wm hom hbm hgm; have KM := Lib.hid (And.intro hom (And.intro (KN.out.2.2.1.app KN.out.1 (by decide) hgm) (KN.out.2.2.2.trans hbm))); clear hom hbm hgm)
      go_meet
      have hp := HP0.out
      simp only [if_true] at hp
      rw [hp]
      exact ⟨Am, dm, 5 + 8, rfl, by rw [List.length_append, H5.out.2.1]; exact congrArg (5 + ·) (be_len _ _), KM.out.1, KM.out.2.1, KM.out.2.2⟩
  case rest =>
  obtain ⟨B_0, e_0, n_0, rfl, hn, ho, hX, hb⟩ := hcut
  have K0 := Lib.hid (And.intro ho (And.intro hn (And.intro hX hb)))
  clear hn ho hX hb H5 HP0
  go_wp2_with fail
  refine (in_any wc m.kind HK.out 1 (by decide) 75 rfl).mono ?_
  rintro e wi ⟨rfl, rfl⟩
  obtain ⟨d_1, hd1⟩ : ∃ d, decide (1 ∈ flds m.kind) = d := ⟨_, rfl⟩
  have HP1 := Lib.hid (show preB m 2 = preB m 1 ++ (if d_1 = true then fb m 1 else []) by rw [preB_next m 1 HK.out (by decide), ← hd1]; simp)
  rw [hd1]
  clear hd1 
  go_upto_if 30 with fail
  go_cut [3] (fun s3 wx => BSt w bx m A c na nc (preB m 2) s3 wx)
  case first =>
    as_aux_lemma =>
    cases d_1
    · go_wp2_with fail
      go_meet
      have hp := HP1.out
      simp only [Bool.false_eq_true, if_false, List.append_nil] at hp
      rw [hp]
      exact ⟨B_0, e_0, n_0, rfl, K0.out.2.1, K0.out.1, K0.out.2.2.1, K0.out.2.2.2⟩
    · skip
      have cc := K0.out.2.2.1.cell 4
      simp [pv, pvk] at cc
      go_wp2_with fail
      refine (rtext1_any wc m.key (by have := HM.out.key; omega)).mono ?_
      rintro e wn ⟨An, dn, rfl, hon, hbn⟩
      obtain ⟨xl, hxl⟩ : ∃ xl, (be 1 m.key.length ++ m.key).length = xl := ⟨_, rfl⟩
      have HXL := Lib.hid (And.intro hxl (show xl ≤ 65540 by rw [← hxl, List.length_append, be_len]; have := HM.out.key; omega))
      rw [hxl]
      clear hxl
      have KN := Lib.hid (And.intro (K0.out.1.keep hbn) (And.intro hon (And.intro (K0.out.2.2.1.keep hbn) (next K0.out.2.2.2 hbn))))
      clear cc hon hbn
      go_wp2_with ((with_reducible show wpList _ _ _ ((⟨some 35, _, _, _, _, _⟩ : Oper) :: _) _ _); refine wpList_appW wn rfl (.tmp 31) (.tmp 34) rfl w.heap.size KN.out.2.2.2.size B_0 n_0 e_0 (preB m 1) rfl K0.out.2.1 KN.out.1 wn.heap.size An xl dn (be 1 m.key.length ++ m.key) rfl HXL.out.1 KN.out.2.1.bytes (by have := HXL.out.2; have := preB_le m 1 HM.out; have := K0.out.2.1; omega) (n_0 + xl) rfl ?_; intro Am dm wm hom hbm hgm; have KM := Lib.hid (And.intro hom (And.intro (KN.out.2.2.1.app KN.out.1 (by decide) hgm) (KN.out.2.2.2.trans hbm))); clear hom hbm hgm)
      go_meet
      have hp := HP1.out
      simp only [if_true] at hp
      rw [hp]
      exact ⟨Am, dm, n_0 + xl, rfl, by rw [List.length_append, K0.out.2.1]; exact congrArg (n_0 + ·) HXL.out.1, KM.out.1, KM.out.2.1, KM.out.2.2⟩
  case rest =>
  obtain ⟨B_1, e_1, n_1, rfl, hn, ho, hX, hb⟩ := hcut
  have K1 := Lib.hid (And.intro ho (And.intro hn (And.intro hX hb)))
  clear hn ho hX hb K0 HP1
  go_wp2_with fail
  refine (in_any wc m.kind HK.out 2 (by decide) 86 rfl).mono ?_
  rintro e wi ⟨rfl, rfl⟩
  obtain ⟨d_2, hd2⟩ : ∃ d, decide (2 ∈ flds m.kind) = d := ⟨_, rfl⟩
  have HP2 := Lib.hid (show preB m 3 = preB m 2 ++ (if d_2 = true then fb m 2 else []) by rw [preB_next m 2 HK.out (by decide), ← hd2]; simp)
  rw [hd2]
  clear hd2 
  go_upto_if 37 with fail
  go_cut [3] (fun s3 wx => BSt w bx m A c na nc (preB m 3) s3 wx)
  case first =>
    as_aux_lemma =>
    cases d_2
    · go_wp2_with fail
      go_meet
      have hp := HP2.out
      simp only [Bool.false_eq_true, if_false, List.append_nil] at hp
      rw [hp]
      exact ⟨B_1, e_1, n_1, rfl, K1.out.2.1, K1.out.1, K1.out.2.2.1, K1.out.2.2.2⟩
    · skip
      have cc := K1.out.2.2.1.cell 5
      simp [pv, pvk] at cc
      go_wp2_with fail
      refine (rnumber8_any wc m.ver HM.out.ver.1 (by have := HM.out.ver.2; omega)).mono ?_
      rintro e wn ⟨An, dn, rfl, hon, hbn⟩
      rw [be_len]
      have KN := Lib.hid (And.intro (K1.out.1.keep hbn) (And.intro hon (And.intro (K1.out.2.2.1.keep hbn) (next K1.out.2.2.2 hbn))))
      clear cc hon hbn
      go_wp2_with ((with_reducible show wpList _ _ _ ((⟨some 42, _, _, _, _, _⟩ : Oper) :: _) _ _); refine wpList_appW wn rfl (.tmp 38) (.tmp 41) rfl w.heap.size KN.out.2.2.2.size B_1 n_1 e_1 (preB m 2) rfl K1.out.2.1 KN.out.1 wn.heap.size An 8 dn (be 8 m.ver.toNat) rfl (be_len _ _) KN.out.2.1.bytes (by have := preB_le m 2 HM.out; have := K1.out.2.1; omega) (n_1 + 8) rfl ?_; intro Am dm wm hom hbm hgm; have KM := Lib.hid (And.intro hom (And.intro (KN.out.2.2.1.app KN.out.1 (by decide) hgm) (KN.out.2.2.2.trans hbm))); clear hom hbm hgm)
      go_meet
      have hp := HP2.out
      simp only [if_true] at hp
      rw [hp]
      exact ⟨Am, dm, n_1 + 8, rfl, by rw [List.length_append, K1.out.2.1]; exact congrArg (n_1 + ·) (be_len _ _), KM.out.1, KM.out.2.1, KM.out.2.2⟩
  case rest =>
  obtain ⟨B_2, e_2, n_2, rfl, hn, ho, hX, hb⟩ := hcut
  have K2 := Lib.hid (And.intro ho (And.intro hn (And.intro hX hb)))
  clear hn ho hX hb K1 HP2
  go_wp2_with fail
  refine (in_any wc m.kind HK.out 3 (by decide) 73 rfl).mono ?_
  rintro e wi ⟨rfl, rfl⟩
  obtain ⟨d_3, hd3⟩ : ∃ d, decide (3 ∈ flds m.kind) = d := ⟨_, rfl⟩
  have HP3 := Lib.hid (show preB m 4 = preB m 3 ++ (if d_3 = true then fb m 3 else []) by rw [preB_next m 3 HK.out (by decide), ← hd3]; simp)
  rw [hd3]
  clear hd3 
  go_upto_if 44 with fail
  go_cut [3] (fun s3 wx => BSt w bx m A c na nc (preB m 4) s3 wx)
  case first =>
    as_aux_lemma =>
    cases d_3
    · go_wp2_with fail
      go_meet
      have hp := HP3.out
      simp only [Bool.false_eq_true, if_false, List.append_nil] at hp
      rw [hp]
      exact ⟨B_2, e_2, n_2, rfl, K2.out.2.1, K2.out.1, K2.out.2.2.1, K2.out.2.2.2⟩
    · skip
      have cc := K2.out.2.2.1.cell 6
      simp [pv, pvk] at cc
      go_wp2_with fail
      refine (rnumber8_any wc m.inc HM.out.inc.1 (by have := HM.out.inc.2; omega)).mono ?_
      rintro e wn ⟨An, dn, rfl, hon, hbn⟩
      rw [be_len]
      have KN := Lib.hid (And.intro (K2.out.1.keep hbn) (And.intro hon (And.intro (K2.out.2.2.1.keep hbn) (next K2.out.2.2.2 hbn))))
      clear cc hon hbn
      go_wp2_with ((with_reducible show wpList _ _ _ ((⟨some 49, _, _, _, _, _⟩ : Oper) :: _) _ _); refine wpList_appW wn rfl (.tmp 45) (.tmp 48) rfl w.heap.size KN.out.2.2.2.size B_2 n_2 e_2 (preB m 3) rfl K2.out.2.1 KN.out.1 wn.heap.size An 8 dn (be 8 m.inc.toNat) rfl (be_len _ _) KN.out.2.1.bytes (by have := preB_le m 3 HM.out; have := K2.out.2.1; omega) (n_2 + 8) rfl ?_; intro Am dm wm hom hbm hgm; have KM := Lib.hid (And.intro hom (And.intro (KN.out.2.2.1.app KN.out.1 (by decide) hgm) (KN.out.2.2.2.trans hbm))); clear hom hbm hgm)
      go_meet
      have hp := HP3.out
      simp only [if_true] at hp
      rw [hp]
      exact ⟨Am, dm, n_2 + 8, rfl, by rw [List.length_append, K2.out.2.1]; exact congrArg (n_2 + ·) (be_len _ _), KM.out.1, KM.out.2.1, KM.out.2.2⟩
  case rest =>
  obtain ⟨B_3, e_3, n_3, rfl, hn, ho, hX, hb⟩ := hcut
  have K3 := Lib.hid (And.intro ho (And.intro hn (And.intro hX hb)))
  clear hn ho hX hb K2 HP3
  go_wp2_with fail
  refine (in_any wc m.kind HK.out 4 (by decide) 83 rfl).mono ?_
  rintro e wi ⟨rfl, rfl⟩
  obtain ⟨d_4, hd4⟩ : ∃ d, decide (4 ∈ flds m.kind) = d := ⟨_, rfl⟩
  have HP4 := Lib.hid (show preB m 5 = preB m 4 ++ (if d_4 = true then fb m 4 else []) by rw [preB_next m 4 HK.out (by decide), ← hd4]; simp)
  rw [hd4]
  clear hd4 
  go_upto_if 51 with fail
  go_cut [3] (fun s3 wx => BSt w bx m A c na nc (preB m 5) s3 wx)
  case first =>
    as_aux_lemma =>
    cases d_4
    · go_wp2_with fail
      go_meet
      have hp := HP4.out
      simp only [Bool.false_eq_true, if_false, List.append_nil] at hp
      rw [hp]
      exact ⟨B_3, e_3, n_3, rfl, K3.out.2.1, K3.out.1, K3.out.2.2.1, K3.out.2.2.2⟩
    · skip
      have cc := K3.out.2.2.1.cell 7
      simp [pv, pvk] at cc
      go_wp2_with fail
      refine (rnumber4_any wc m.size HM.out.size.1 (by have := HM.out.size.2; omega)).mono ?_
      rintro e wn ⟨An, dn, rfl, hon, hbn⟩
      rw [be_len]
      have KN := Lib.hid (And.intro (K3.out.1.keep hbn) (And.intro hon (And.intro (K3.out.2.2.1.keep hbn) (next K3.out.2.2.2 hbn))))
      clear cc hon hbn
      go_wp2_with ((with_reducible show wpList _ _ _ ((⟨some 56, _, _, _, _, _⟩ : Oper) :: _) _ _); refine wpList_appW wn rfl (.tmp 52) (.tmp 55) rfl w.heap.size KN.out.2.2.2.size B_3 n_3 e_3 (preB m 4) rfl K3.out.2.1 KN.out.1 wn.heap.size An 4 dn (be 4 m.size.toNat) rfl (be_len _ _) KN.out.2.1.bytes (by have := preB_le m 4 HM.out; have := K3.out.2.1; omega) (n_3 + 4) rfl ?_; intro Am dm wm hom hbm hgm; have KM := Lib.hid (And.intro hom (And.intro (KN.out.2.2.1.app KN.out.1 (by decide) hgm) (KN.out.2.2.2.trans hbm))); clear hom hbm hgm)
      go_meet
      have hp := HP4.out
      simp only [if_true] at hp
      rw [hp]
      exact ⟨Am, dm, n_3 + 4, rfl, by rw [List.length_append, K3.out.2.1]; exact congrArg (n_3 + ·) (be_len _ _), KM.out.1, KM.out.2.1, KM.out.2.2⟩
  case rest =>
  obtain ⟨B_4, e_4, n_4, rfl, hn, ho, hX, hb⟩ := hcut
  have K4 := Lib.hid (And.intro ho (And.intro hn (And.intro hX hb)))
  clear hn ho hX hb K3 HP4
  go_wp2_with fail
  refine (in_any wc m.kind HK.out 5 (by decide) 67 rfl).mono ?_
  rintro e wi ⟨rfl, rfl⟩
  obtain ⟨d_5, hd5⟩ : ∃ d, decide (5 ∈ flds m.kind) = d := ⟨_, rfl⟩
  have HP5 := Lib.hid (show preB m 6 = preB m 5 ++ (if d_5 = true then fb m 5 else []) by rw [preB_next m 5 HK.out (by decide), ← hd5]; simp)
  rw [hd5]
  clear hd5 
  go_upto_if 58 with fail
  go_cut [3] (fun s3 wx => BSt w bx m A c na nc (preB m 6) s3 wx)
  case first =>
    as_aux_lemma =>
    cases d_5
    · go_wp2_with fail
      go_meet
      have hp := HP5.out
      simp only [Bool.false_eq_true, if_false, List.append_nil] at hp
      rw [hp]
      exact ⟨B_4, e_4, n_4, rfl, K4.out.2.1, K4.out.1, K4.out.2.2.1, K4.out.2.2.2⟩
    · skip
      have cc := K4.out.2.2.1.cell 8
      simp [pv, pvk] at cc
      go_wp2_with fail
      refine (rnumber2_any wc m.code HM.out.code.1 (by have := HM.out.code.2; omega)).mono ?_
      rintro e wn ⟨An, dn, rfl, hon, hbn⟩
      rw [be_len]
      have KN := Lib.hid (And.intro (K4.out.1.keep hbn) (And.intro hon (And.intro (K4.out.2.2.1.keep hbn) (next K4.out.2.2.2 hbn))))
      clear cc hon hbn
      go_wp2_with ((with_reducible show wpList _ _ _ ((⟨some 63, _, _, _, _, _⟩ : Oper) :: _) _ _); refine wpList_appW wn rfl (.tmp 59) (.tmp 62) rfl w.heap.size KN.out.2.2.2.size B_4 n_4 e_4 (preB m 5) rfl K4.out.2.1 KN.out.1 wn.heap.size An 2 dn (be 2 m.code.toNat) rfl (be_len _ _) KN.out.2.1.bytes (by have := preB_le m 5 HM.out; have := K4.out.2.1; omega) (n_4 + 2) rfl ?_; intro Am dm wm hom hbm hgm; have KM := Lib.hid (And.intro hom (And.intro (KN.out.2.2.1.app KN.out.1 (by decide) hgm) (KN.out.2.2.2.trans hbm))); clear hom hbm hgm)
      go_meet
      have hp := HP5.out
      simp only [if_true] at hp
      rw [hp]
      exact ⟨Am, dm, n_4 + 2, rfl, by rw [List.length_append, K4.out.2.1]; exact congrArg (n_4 + ·) (be_len _ _), KM.out.1, KM.out.2.1, KM.out.2.2⟩
  case rest =>
  obtain ⟨B_5, e_5, n_5, rfl, hn, ho, hX, hb⟩ := hcut
  have K5 := Lib.hid (And.intro ho (And.intro hn (And.intro hX hb)))
  clear hn ho hX hb K4 HP5
  go_wp2_with fail
  refine (in_any wc m.kind HK.out 6 (by decide) 78 rfl).mono ?_
  rintro e wi ⟨rfl, rfl⟩
  obtain ⟨d_6, hd6⟩ : ∃ d, decide (6 ∈ flds m.kind) = d := ⟨_, rfl⟩
  have HP6 := Lib.hid (show preB m 7 = preB m 6 ++ (if d_6 = true then fb m 6 else []) by rw [preB_next m 6 HK.out (by decide), ← hd6]; simp)
  rw [hd6]
  clear hd6 
  go_upto_if 65 with fail
  go_cut [3] (fun s3 wx => BSt w bx m A c na nc (preB m 7) s3 wx)
  case first =>
    as_aux_lemma =>
    cases d_6
    · go_wp2_with fail
      go_meet
      have hp := HP6.out
      simp only [Bool.false_eq_true, if_false, List.append_nil] at hp
      rw [hp]
      exact ⟨B_5, e_5, n_5, rfl, K5.out.2.1, K5.out.1, K5.out.2.2.1, K5.out.2.2.2⟩
    · skip
      have cc := K5.out.2.2.1.cell 9
      simp [pv, pvk] at cc
      go_wp2_with fail
      refine (rnumber2_any wc m.node HM.out.node.1 (by have := HM.out.node.2; omega)).mono ?_
      rintro e wn ⟨An, dn, rfl, hon, hbn⟩
      rw [be_len]
      have KN := Lib.hid (And.intro (K5.out.1.keep hbn) (And.intro hon (And.intro (K5.out.2.2.1.keep hbn) (next K5.out.2.2.2 hbn))))
      clear cc hon hbn
      go_wp2_with ((with_reducible show wpList _ _ _ ((⟨some 70, _, _, _, _, _⟩ : Oper) :: _) _ _); refine wpList_appW wn rfl (.tmp 66) (.tmp 69) rfl w.heap.size KN.out.2.2.2.size B_5 n_5 e_5 (preB m 6) rfl K5.out.2.1 KN.out.1 wn.heap.size An 2 dn (be 2 m.node.toNat) rfl (be_len _ _) KN.out.2.1.bytes (by have := preB_le m 6 HM.out; have := K5.out.2.1; omega) (n_5 + 2) rfl ?_; intro Am dm wm hom hbm hgm; have KM := Lib.hid (And.intro hom (And.intro (KN.out.2.2.1.app KN.out.1 (by decide) hgm) (KN.out.2.2.2.trans hbm))); clear hom hbm hgm)
      go_meet
      have hp := HP6.out
      simp only [if_true] at hp
      rw [hp]
      exact ⟨Am, dm, n_5 + 2, rfl, by rw [List.length_append, K5.out.2.1]; exact congrArg (n_5 + ·) (be_len _ _), KM.out.1, KM.out.2.1, KM.out.2.2⟩
  case rest =>
  obtain ⟨B_6, e_6, n_6, rfl, hn, ho, hX, hb⟩ := hcut
  have K6 := Lib.hid (And.intro ho (And.intro hn (And.intro hX hb)))
  clear hn ho hX hb K5 HP6
  go_wp2_with fail
  refine (in_any wc m.kind HK.out 7 (by decide) 66 rfl).mono ?_
  rintro e wi ⟨rfl, rfl⟩
  obtain ⟨d_7, hd7⟩ : ∃ d, decide (7 ∈ flds m.kind) = d := ⟨_, rfl⟩
  have HP7 := Lib.hid (show preB m 8 = preB m 7 ++ (if d_7 = true then fb m 7 else []) by rw [preB_next m 7 HK.out (by decide), ← hd7]; simp)
  rw [hd7]
  clear hd7 
  go_upto_if 72 with fail
  go_cut [3] (fun s3 wx => BSt w bx m A c na nc (preB m 8) s3 wx)
  case first =>
    as_aux_lemma =>
    cases d_7
    · go_wp2_with fail
      go_meet
      have hp := HP7.out
      simp only [Bool.false_eq_true, if_false, List.append_nil] at hp
      rw [hp]
      exact ⟨B_6, e_6, n_6, rfl, K6.out.2.1, K6.out.1, K6.out.2.2.1, K6.out.2.2.2⟩
    · skip
      have cc := K6.out.2.2.1.cell 10
      simp [pv, pvk] at cc
      rcases Bool.eq_false_or_eq_true m.back with hbk | hbk
      rotate_left
      · rw [hbk] at cc
        have HBK := Lib.hid hbk
        clear hbk
        go_wp2_with ((with_reducible show wpList _ _ _ ((⟨some 80, _, _, _, _, _⟩ : Oper) :: _) _ _); refine wpList_appW (wc.alloc (.cells #[.int .u8 0] 5)) rfl (.tmp 78) (.tmp 79) rfl w.heap.size (by have := K6.out.2.2.2.size; simp; omega) B_6 n_6 e_6 (preB m 7) rfl K6.out.2.1 (K6.out.1.keep (nextA (Mem.start wc) _)) (wc.heap.size + 1) (some ⟨wc.heap.size, 0, none⟩) 1 1 [0] rfl rfl (cells_one wc _ _ _ (Nat.lt_succ_self _)) (by have := preB_le m 7 HM.out; have := K6.out.2.1; omega) (n_6 + 1) rfl ?_; intro Am dm wm hom hbm hgm; have KM := Lib.hid (And.intro hom (And.intro ((K6.out.2.2.1.keep (nextA (Mem.start wc) _)).app (K6.out.1.keep (nextA (Mem.start wc) _)) (by decide) hgm) ((nextA K6.out.2.2.2 _).trans hbm))); clear hom hbm hgm)
        go_meet
        have hp := HP7.out
        simp only [if_true] at hp
        have hf : fb m 7 = [0] := by
          have hb := HBK.out
          simp [fb, hb, be]
        rw [hp, hf]
        exact ⟨Am, dm, n_6 + 1, rfl, by rw [List.length_append, K6.out.2.1]; rfl, KM.out.1, KM.out.2.1, KM.out.2.2⟩
      · rw [hbk] at cc
        have HBK := Lib.hid hbk
        clear hbk
        go_wp2_with ((with_reducible show wpList _ _ _ ((⟨some 77, _, _, _, _, _⟩ : Oper) :: _) _ _); refine wpList_appW (wc.alloc (.cells #[.int .u8 1] 5)) rfl (.tmp 75) (.tmp 76) rfl w.heap.size (by have := K6.out.2.2.2.size; simp; omega) B_6 n_6 e_6 (preB m 7) rfl K6.out.2.1 (K6.out.1.keep (nextA (Mem.start wc) _)) (wc.heap.size + 1) (some ⟨wc.heap.size, 0, none⟩) 1 1 [1] rfl rfl (cells_one wc _ _ _ (Nat.lt_succ_self _)) (by have := preB_le m 7 HM.out; have := K6.out.2.1; omega) (n_6 + 1) rfl ?_; intro Am dm wm hom hbm hgm; have KM := Lib.hid (And.intro hom (And.intro ((K6.out.2.2.1.keep (nextA (Mem.start wc) _)).app (K6.out.1.keep (nextA (Mem.start wc) _)) (by decide) hgm) ((nextA K6.out.2.2.2 _).trans hbm))); clear hom hbm hgm)
        go_meet
        have hp := HP7.out
        simp only [if_true] at hp
        have hf : fb m 7 = [1] := by
          have hb := HBK.out
          simp [fb, hb, be]
        rw [hp, hf]
        exact ⟨Am, dm, n_6 + 1, rfl, by rw [List.length_append, K6.out.2.1]; rfl, KM.out.1, KM.out.2.1, KM.out.2.2⟩
  case rest =>
  obtain ⟨B_7, e_7, n_7, rfl, hn, ho, hX, hb⟩ := hcut
  have K7 := Lib.hid (And.intro ho (And.intro hn (And.intro hX hb)))
  clear hn ho hX hb K6 HP7
  go_wp2_with fail
  refine (in_any wc m.kind HK.out 8 (by decide) 68 rfl).mono ?_
  rintro e wi ⟨rfl, rfl⟩
  obtain ⟨d_8, hd8⟩ : ∃ d, decide (8 ∈ flds m.kind) = d := ⟨_, rfl⟩
  have HP8 := Lib.hid (show preB m 9 = preB m 8 ++ (if d_8 = true then fb m 8 else []) by rw [preB_next m 8 HK.out (by decide), ← hd8]; simp)
  rw [hd8]
  clear hd8 
  go_upto_if 82 with fail
  go_cut [3] (fun s3 wx => BSt w bx m A c na nc (preB m 9) s3 wx)
  case first =>
    as_aux_lemma =>
    cases d_8
    · go_wp2_with fail
      go_meet
      have hp := HP8.out
      simp only [Bool.false_eq_true, if_false, List.append_nil] at hp
      rw [hp]
      exact ⟨B_7, e_7, n_7, rfl, K7.out.2.1, K7.out.1, K7.out.2.2.1, K7.out.2.2.2⟩
    · skip
      obtain ⟨q, hq⟩ : ∃ q, m.ids.length = q := ⟨_, rfl⟩
      have HQ := Lib.hid (show m.ids.length = q ∧ q ≤ 255 from ⟨hq, by have := HM.out.ids; omega⟩)
      have hwf : IntKind.u8.wrap (q : Int) = (q : Int) := by
        have e : ∀ x : Int, IntKind.u8.wrap x = x % 256 := fun _ => rfl
        rw [e]; have := HQ.out.2; omega
      have cc := K7.out.2.2.1.cell 11
      simp [pv, pvk] at cc
      rw [hq] at cc
      have HFB := Lib.hid (show fb m 8 = be 1 q ++ m.ids.flatMap (fun x => txt x.1 ++ be 8 x.2.toNat) by rw [← hq]; rfl)
      clear hq
      have h255 : (q : Int) ≤ 255 := by have := HQ.out.2; omega
      have HBYT := Lib.hid (show Bytes (wc.alloc (.cells #[.int .u8 (q : Int)] 5)) (wc.heap.size + 1) (some ⟨wc.heap.size, 0, none⟩) (be 1 q) by
        unfold Bytes
        rw [be_one q (by have := HQ.out.2; omega)]
        exact cells_one wc _ _ _ (Nat.lt_succ_self _))
      have HPL := Lib.hid (show ∀ j, ((preB m 8 ++ be 1 q) ++ (m.ids.take j).flatMap (fun x => txt x.1 ++ be 8 x.2.toNat)).length ≤ 800000 from fun j => by
        have h1 := preB_le m 9 HM.out
        have hp := HP8.out
        simp only [if_true] at hp
        rw [hp, HFB.out, ← List.append_assoc, List.length_append] at h1
        rw [List.length_append]
        have h2 := take_flat m.ids (fun x => txt x.1 ++ be 8 x.2.toNat) j
        omega)
      go_wp2_with ((with_reducible show wpList _ _ _ ((⟨some 89, _, _, _, _, _⟩ : Oper) :: _) _ _); refine wpList_appW (wc.alloc (.cells #[.int .u8 (q : Int)] 5)) rfl (.tmp 83) (.tmp 88) rfl w.heap.size (by have := K7.out.2.2.2.size; simp; omega) B_7 n_7 e_7 (preB m 8) rfl K7.out.2.1 (K7.out.1.keep (nextA (Mem.start wc) _)) (wc.heap.size + 1) (some ⟨wc.heap.size, 0, none⟩) 1 1 (be 1 q) rfl (be_len _ _) HBYT.out (by have := preB_le m 8 HM.out; have := K7.out.2.1; omega) (n_7 + 1) rfl ?_; intro Am dm wm hom hbm hgm; have KM := Lib.hid (And.intro hom (And.intro ((K7.out.2.2.1.keep (nextA (Mem.start wc) _)).app (K7.out.1.keep (nextA (Mem.start wc) _)) (by decide) hgm) ((nextA K7.out.2.2.2 _).trans hbm))); clear hom hbm hgm)
      clear cc hwf
      go_loopw [3, 5] (fun s i wr => ∃ j : Nat, i = .int .i64 (j : Int) ∧ j ≤ q ∧ BSt w bx m A c na nc ((preB m 8 ++ be 1 q) ++ (m.ids.take j).flatMap (fun x => txt x.1 ++ be 8 x.2.toNat)) s wr) (fun _ i _ => q - (intOf i).toNat)
      case atStart => exact ⟨0, rfl, Nat.zero_le _, Am, dm, n_7 + 1, rfl, by simp [be_len, K7.out.2.1], by simpa using KM.out.1, KM.out.2.1, KM.out.2.2⟩
      case round =>
        clear KM
        obtain ⟨j, rfl, hj, Bj, dj, nj, rfl, hnj, hoj, hXj, hbj⟩ := hrel
        have cc := hXj.cell 11
        simp [pv, pvk] at cc
        rw [HQ.out.1] at cc
        have KJ := Lib.hid (And.intro hoj (And.intro hnj (And.intro hXj hbj)))
        clear hnj hoj hXj hbj
        by_cases hjq : j < q
        · have hjl : j < m.ids.length := by rw [HQ.out.1]; exact hjq
          obtain ⟨b1, o1, e1, hb1, k1, k2⟩ := ids_at (HI.out.below KJ.out.2.2.2).ids hjl
          rw [e1] at cc
          obtain ⟨⟨ky, vr⟩, hx⟩ : ∃ x, m.ids[j] = x := ⟨_, rfl⟩
          rw [hx] at k1 k2
          dsimp only at k1 k2
          have hid : ky.length ≤ 64 ∧ 0 ≤ vr ∧ vr ≤ 4611686018427387904 := by
            have hm : m.ids[j] ∈ m.ids := List.getElem_mem _
            rw [hx] at hm
            exact HM.out.id _ hm
          have HID := Lib.hid hid
          have HJE := Lib.hid hx
          have HB1 := Lib.hid hb1
          have HCW := Lib.hid (And.intro e1 (And.intro k1 k2))
          clear hid hx hb1 e1
          have h1 : (j : Int) < (q : Int) := by omega
          have h0 : (0 : Int) ≤ (j : Int) := by omega
          have HJ := Lib.hid (And.intro hjq hjl)
          go_wp2_with fail
          refine (rtext1_any wr ky (by have := HID.out.1; omega)).mono ?_
          rintro e wn ⟨An, dn, rfl, hon, hbn⟩
          obtain ⟨xl, hxl⟩ : ∃ xl, (be 1 ky.length ++ ky).length = xl := ⟨_, rfl⟩
          have HXL := Lib.hid (And.intro hxl (show xl ≤ 65 by rw [← hxl, List.length_append, be_len]; have := HID.out; omega))
          rw [hxl]
          have KN := Lib.hid (And.intro (KJ.out.1.keep hbn) (And.intro hon (And.intro (KJ.out.2.2.1.keep hbn) (next KJ.out.2.2.2 hbn))))
          clear hxl hon hbn cc k1 k2
          go_wp2_with ((with_reducible show wpList _ _ _ ((⟨some 105, _, _, _, _, _⟩ : Oper) :: _) _ _); refine wpList_appW wn rfl (.tmp 97) (.tmp 104) rfl w.heap.size KN.out.2.2.2.size Bj nj dj ((preB m 8 ++ be 1 q) ++ (m.ids.take j).flatMap (fun x => txt x.1 ++ be 8 x.2.toNat)) rfl KJ.out.2.1 KN.out.1 wn.heap.size An xl dn (be 1 ky.length ++ ky) rfl HXL.out.1 KN.out.2.1.bytes (by have := HPL.out j; have := KJ.out.2.1; have := HXL.out.2; omega) (nj + xl) rfl ?_; intro Ap dp wp hop hbp hgp; have KP := Lib.hid (And.intro hop (And.intro (KN.out.2.2.1.app KN.out.1 (by decide) hgp) (KN.out.2.2.2.trans hbp))); clear hop hbp hgp; have cc := KP.out.2.1.cell 11; simp [pv, pvk] at cc; rw [HQ.out.1, HCW.out.1] at cc; have k2 := (KP.out.2.2.cell (p := ⟨b1, o1 + j * 2 + 1, none⟩) HB1.out).trans ((KJ.out.2.2.2.cell (p := ⟨b1, o1 + j * 2 + 1, none⟩) HB1.out).symm.trans HCW.out.2.2))
          refine (rnumber8_any wp vr HID.out.2.1 HID.out.2.2).mono ?_
          rintro e wu ⟨Au, du, rfl, hou, hbu⟩
          rw [be_len]
          have KU := Lib.hid (And.intro (KP.out.1.keep hbu) (And.intro hou (And.intro (KP.out.2.1.keep hbu) (next KP.out.2.2 hbu))))
          clear cc k2 hou hbu
          go_wp2_with ((with_reducible show wpList _ _ _ ((⟨some 114, _, _, _, _, _⟩ : Oper) :: _) _ _); refine wpList_appW wu rfl (.tmp 106) (.tmp 113) rfl w.heap.size KU.out.2.2.2.size Ap (nj + xl) dp (((preB m 8 ++ be 1 q) ++ (m.ids.take j).flatMap (fun x => txt x.1 ++ be 8 x.2.toNat)) ++ (be 1 ky.length ++ ky)) rfl (by rw [List.length_append, KJ.out.2.1, HXL.out.1]) KU.out.1 wu.heap.size Au 8 du (be 8 vr.toNat) rfl (be_len _ _) KU.out.2.1.bytes (by have := HPL.out j; have := KJ.out.2.1; have := HXL.out.2; omega) (nj + xl + 8) rfl ?_; intro Av dv wv hov hbv hgv; have KV := Lib.hid (And.intro hov (And.intro (KU.out.2.2.1.app KU.out.1 (by decide) hgv) (KU.out.2.2.2.trans hbv))); clear hov hbv hgv)
          go_roundw
          case rel =>
            refine ⟨j + 1, by go_num, HJ.out.1, ?_⟩
            rw [List.take_succ_eq_append_getElem HJ.out.2, List.flatMap_append, ← List.append_assoc, HJE.out]
            simp only [List.flatMap_cons, List.flatMap_nil, List.append_nil]
            refine ⟨Av, dv, nj + xl + 8, rfl, ?_, ?_, KV.out.2.1, KV.out.2.2⟩
            · rw [show txt ky = be 1 ky.length ++ ky from rfl, ← List.append_assoc, List.length_append, List.length_append, KJ.out.2.1, HXL.out.1, be_len]
            · have := KV.out.1
              rw [show txt ky = be 1 ky.length ++ ky from rfl, ← List.append_assoc]; exact this
          case measure => simp [intOf]; have := HJ.out.1; omega
        · obtain rfl : j = q := by omega
          have h1 : ¬ (j : Int) < (j : Int) := by omega
          clear hj hjq
          go_wp2_with fail
          go_meet
          have hp := HP8.out
          simp only [if_true] at hp
          rw [hp, HFB.out, ← List.append_assoc]
          have ht : m.ids.take j = m.ids := by rw [← HQ.out.1, List.take_length]
          have k1 := KJ.out
          rw [ht] at k1
          exact ⟨Bj, dj, nj, rfl, k1.2.1, k1.1, k1.2.2.1, k1.2.2.2⟩
  case rest =>
  obtain ⟨B_8, e_8, n_8, rfl, hn, ho, hX, hb⟩ := hcut
  have K8 := Lib.hid (And.intro ho (And.intro hn (And.intro hX hb)))
  clear hn ho hX hb K7 HP8
  go_wp2_with fail
  refine (in_any wc m.kind HK.out 9 (by decide) 76 rfl).mono ?_
  rintro e wi ⟨rfl, rfl⟩
  obtain ⟨d_9, hd9⟩ : ∃ d, decide (9 ∈ flds m.kind) = d := ⟨_, rfl⟩
  have HP9 := Lib.hid (show preB m 10 = preB m 9 ++ (if d_9 = true then fb m 9 else []) by rw [preB_next m 9 HK.out (by decide), ← hd9]; simp)
  rw [hd9]
  clear hd9 
  go_upto_if 116 with fail
  go_cut [3] (fun s3 wx => BSt w bx m A c na nc (preB m 10) s3 wx)
  case first =>
    as_aux_lemma =>
    cases d_9
    · go_wp2_with fail
      go_meet
      have hp := HP9.out
      simp only [Bool.false_eq_true, if_false, List.append_nil] at hp
      rw [hp]
      exact ⟨B_8, e_8, n_8, rfl, K8.out.2.1, K8.out.1, K8.out.2.2.1, K8.out.2.2.2⟩
    · skip
      obtain ⟨q, hq⟩ : ∃ q, m.nodes.length = q := ⟨_, rfl⟩
      have HQ := Lib.hid (show m.nodes.length = q ∧ q ≤ 255 from ⟨hq, by have := HM.out.nodes; omega⟩)
      have hwf : IntKind.u8.wrap (q : Int) = (q : Int) := by
        have e : ∀ x : Int, IntKind.u8.wrap x = x % 256 := fun _ => rfl
        rw [e]; have := HQ.out.2; omega
      have cc := K8.out.2.2.1.cell 12
      simp [pv, pvk] at cc
      rw [hq] at cc
      have HFB := Lib.hid (show fb m 9 = be 1 q ++ m.nodes.flatMap (fun n => be 2 n.toNat) by rw [← hq]; rfl)
      clear hq
      have h255 : (q : Int) ≤ 255 := by have := HQ.out.2; omega
      have HBYT := Lib.hid (show Bytes (wc.alloc (.cells #[.int .u8 (q : Int)] 5)) (wc.heap.size + 1) (some ⟨wc.heap.size, 0, none⟩) (be 1 q) by
        unfold Bytes
        rw [be_one q (by have := HQ.out.2; omega)]
        exact cells_one wc _ _ _ (Nat.lt_succ_self _))
      have HPL := Lib.hid (show ∀ j, ((preB m 9 ++ be 1 q) ++ (m.nodes.take j).flatMap (fun n => be 2 n.toNat)).length ≤ 800000 from fun j => by
        have h1 := preB_le m 10 HM.out
        have hp := HP9.out
        simp only [if_true] at hp
        rw [hp, HFB.out, ← List.append_assoc, List.length_append] at h1
        rw [List.length_append]
        have h2 := take_flat m.nodes (fun n => be 2 n.toNat) j
        omega)
      go_wp2_with ((with_reducible show wpList _ _ _ ((⟨some 123, _, _, _, _, _⟩ : Oper) :: _) _ _); refine wpList_appW (wc.alloc (.cells #[.int .u8 (q : Int)] 5)) rfl (.tmp 117) (.tmp 122) rfl w.heap.size (by have := K8.out.2.2.2.size; simp; omega) B_8 n_8 e_8 (preB m 9) rfl K8.out.2.1 (K8.out.1.keep (nextA (Mem.start wc) _)) (wc.heap.size + 1) (some ⟨wc.heap.size, 0, none⟩) 1 1 (be 1 q) rfl (be_len _ _) HBYT.out (by have := preB_le m 9 HM.out; have := K8.out.2.1; omega) (n_8 + 1) rfl ?_; intro Am dm wm hom hbm hgm; have KM := Lib.hid (And.intro hom (And.intro ((K8.out.2.2.1.keep (nextA (Mem.start wc) _)).app (K8.out.1.keep (nextA (Mem.start wc) _)) (by decide) hgm) ((nextA K8.out.2.2.2 _).trans hbm))); clear hom hbm hgm)
      clear cc hwf
      go_loopw [3, 6] (fun s i wr => ∃ j : Nat, i = .int .i64 (j : Int) ∧ j ≤ q ∧ BSt w bx m A c na nc ((preB m 9 ++ be 1 q) ++ (m.nodes.take j).flatMap (fun n => be 2 n.toNat)) s wr) (fun _ i _ => q - (intOf i).toNat)
      case atStart => exact ⟨0, rfl, Nat.zero_le _, Am, dm, n_8 + 1, rfl, by simp [be_len, K8.out.2.1], by simpa using KM.out.1, KM.out.2.1, KM.out.2.2⟩
      case round =>
        clear KM
        obtain ⟨j, rfl, hj, Bj, dj, nj, rfl, hnj, hoj, hXj, hbj⟩ := hrel
        have cc := hXj.cell 12
        simp [pv, pvk] at cc
        rw [HQ.out.1] at cc
        have KJ := Lib.hid (And.intro hoj (And.intro hnj (And.intro hXj hbj)))
        clear hnj hoj hXj hbj
        by_cases hjq : j < q
        · have hjl : j < m.nodes.length := by rw [HQ.out.1]; exact hjq
          obtain ⟨b1, o1, e1, hb1, k1⟩ := (HI.out.below KJ.out.2.2.2).nodes.at_ (k := j) (by rw [List.length_map]; exact hjl)
          rw [List.getElem_map] at k1
          rw [e1] at cc
          obtain ⟨nd, hx⟩ : ∃ x, m.nodes[j] = x := ⟨_, rfl⟩
          rw [hx] at k1
          simp only [iv] at k1
          have hid : 0 ≤ nd ∧ nd ≤ 254 := by
            have hm : m.nodes[j] ∈ m.nodes := List.getElem_mem _
            rw [hx] at hm
            exact HM.out.nd _ hm
          have HID := Lib.hid hid
          have HJE := Lib.hid hx
          clear hid hx hb1 e1
          have h1 : (j : Int) < (q : Int) := by omega
          have h0 : (0 : Int) ≤ (j : Int) := by omega
          have HJ := Lib.hid (And.intro hjq hjl)
          go_wp2_with fail
          refine (rnumber2_any wr nd HID.out.1 (by have := HID.out.2; omega)).mono ?_
          rintro e wu ⟨Au, du, rfl, hou, hbu⟩
          rw [be_len]
          have KU := Lib.hid (And.intro (KJ.out.1.keep hbu) (And.intro hou (And.intro (KJ.out.2.2.1.keep hbu) (next KJ.out.2.2.2 hbu))))
          clear cc k1 hou hbu
          go_wp2_with ((with_reducible show wpList _ _ _ ((⟨some 138, _, _, _, _, _⟩ : Oper) :: _) _ _); refine wpList_appW wu rfl (.tmp 131) (.tmp 137) rfl w.heap.size KU.out.2.2.2.size Bj nj dj ((preB m 9 ++ be 1 q) ++ (m.nodes.take j).flatMap (fun n => be 2 n.toNat)) rfl KJ.out.2.1 KU.out.1 wu.heap.size Au 2 du (be 2 nd.toNat) rfl (be_len _ _) KU.out.2.1.bytes (by have := HPL.out j; have := KJ.out.2.1; omega) (nj + 2) rfl ?_; intro Av dv wv hov hbv hgv; have KV := Lib.hid (And.intro hov (And.intro (KU.out.2.2.1.app KU.out.1 (by decide) hgv) (KU.out.2.2.2.trans hbv))); clear hov hbv hgv)
          go_roundw
          case rel =>
            refine ⟨j + 1, by go_num, HJ.out.1, ?_⟩
            rw [List.take_succ_eq_append_getElem HJ.out.2, List.flatMap_append, ← List.append_assoc, HJE.out]
            simp only [List.flatMap_cons, List.flatMap_nil, List.append_nil]
            refine ⟨Av, dv, nj + 2, rfl, ?_, KV.out.1, KV.out.2.1, KV.out.2.2⟩
            rw [List.length_append, KJ.out.2.1, be_len]
          case measure => simp [intOf]; have := HJ.out.1; omega
        · obtain rfl : j = q := by omega
          have h1 : ¬ (j : Int) < (j : Int) := by omega
          clear hj hjq
          go_wp2_with fail
          go_meet
          have hp := HP9.out
          simp only [if_true] at hp
          rw [hp, HFB.out, ← List.append_assoc]
          have ht : m.nodes.take j = m.nodes := by rw [← HQ.out.1, List.take_length]
          have k1 := KJ.out
          rw [ht] at k1
          exact ⟨Bj, dj, nj, rfl, k1.2.1, k1.1, k1.2.2.1, k1.2.2.2⟩
  case rest =>
  obtain ⟨B_9, e_9, n_9, rfl, hn, ho, hX, hb⟩ := hcut
  have K9 := Lib.hid (And.intro ho (And.intro hn (And.intro hX hb)))
  clear hn ho hX hb K8 HP9
  go_wp2_with fail
  refine (in_any wc m.kind HK.out 10 (by decide) 80 rfl).mono ?_
  rintro e wi ⟨rfl, rfl⟩
  obtain ⟨d_10, hd10⟩ : ∃ d, decide (10 ∈ flds m.kind) = d := ⟨_, rfl⟩
  have HP10 := Lib.hid (show preB m 11 = preB m 10 ++ (if d_10 = true then fb m 10 else []) by rw [preB_next m 10 HK.out (by decide), ← hd10]; simp)
  rw [hd10]
  clear hd10 
  go_upto_if 140 with fail
  go_cut [3] (fun s3 wx => BSt w bx m A c na nc (preB m 11) s3 wx)
  case first =>
    as_aux_lemma =>
    cases d_10
    · go_wp2_with fail
      go_meet
      have hp := HP10.out
      simp only [Bool.false_eq_true, if_false, List.append_nil] at hp
      rw [hp]
      exact ⟨B_9, e_9, n_9, rfl, K9.out.2.1, K9.out.1, K9.out.2.2.1, K9.out.2.2.2⟩
    · skip
      have cc := K9.out.2.2.1.cell 13
      simp [pv, pvk] at cc
      go_wp2_with fail
      refine (rtext4_any wc m.data (by have := HM.out.data; omega)).mono ?_
      rintro e wn ⟨An, dn, rfl, hon, hbn⟩
      obtain ⟨xl, hxl⟩ : ∃ xl, (be 4 m.data.length ++ m.data).length = xl := ⟨_, rfl⟩
      have HXL := Lib.hid (And.intro hxl (show xl ≤ 65540 by rw [← hxl, List.length_append, be_len]; have := HM.out.data; omega))
      rw [hxl]
      clear hxl
      have KN := Lib.hid (And.intro (K9.out.1.keep hbn) (And.intro hon (And.intro (K9.out.2.2.1.keep hbn) (next K9.out.2.2.2 hbn))))
      clear cc hon hbn
      go_wp2_with ((with_reducible show wpList _ _ _ ((⟨some 145, _, _, _, _, _⟩ : Oper) :: _) _ _); refine wpList_appW wn rfl (.tmp 141) (.tmp 144) rfl w.heap.size KN.out.2.2.2.size B_9 n_9 e_9 (preB m 10) rfl K9.out.2.1 KN.out.1 wn.heap.size An xl dn (be 4 m.data.length ++ m.data) rfl HXL.out.1 KN.out.2.1.bytes (by have := HXL.out.2; have := preB_le m 10 HM.out; have := K9.out.2.1; omega) (n_9 + xl) rfl ?_; intro Am dm wm hom hbm hgm; have KM := Lib.hid (And.intro hom (And.intro (KN.out.2.2.1.app KN.out.1 (by decide) hgm) (KN.out.2.2.2.trans hbm))); clear hom hbm hgm)
      go_meet
      have hp := HP10.out
      simp only [if_true] at hp
      rw [hp]
      exact ⟨Am, dm, n_9 + xl, rfl, by rw [List.length_append, K9.out.2.1]; exact congrArg (n_9 + ·) HXL.out.1, KM.out.1, KM.out.2.1, KM.out.2.2⟩
  case rest =>
  obtain ⟨B_10, e_10, n_10, rfl, hn, ho, hX, hb⟩ := hcut
  have K10 := Lib.hid (And.intro ho (And.intro hn (And.intro hX hb)))
  clear hn ho hX hb K9 HP10
  go_wp2_with fail
  go_ret
  rw [← preB_all m HK.out]
  exact ⟨B_10, e_10, by rw [K10.out.2.1]; rfl, K10.out.1, K10.out.2.2.2⟩
end Go.Proofs.YtebdmfmadbikaaaDoor.WiW
/- The law WirePuts, walked. Printed by genwputs.py (raw numbers of the seat). -/
namespace Go.Proofs.YtebdmfmadbikaaaDoor.WiW
open Go.RowKit Go.Shelf Mem Fds FdW Wi Rng
set_option linter.unusedVariables false
set_option linter.unusedSimpArgs false

theorem putp_yes (w : World) (m : Msg) (s : Sl) (x : List UInt8) (hT : HasT w) (hI : MIn w w.heap.size m s) (hm : may m = true) (hx : Wi.bytes m = x) : Calls Tryd.prog 14 #[.agg (mv m s)] w fun e w' => ∃ A c, e = .returned (.tuple #[.slice A x.length c, .int .i64 0]) ∧ Mem.Own w' w.heap.size 5 A c (x.map u8v) ∧ Below w.heap.size w w' := by
  refine (Put_any w m s hT hI).mono fun e w' h => ?_
  unfold PutR at h
  rw [if_pos hm, hx] at h
  exact h
theorem putp_no (w : World) (m : Msg) (s : Sl) (hT : HasT w) (hI : MIn w w.heap.size m s) (hm : may m = false) : Calls Tryd.prog 14 #[.agg (mv m s)] w fun e w' => e = .returned (.tuple #[.slice none 0 0, .int .i64 2]) ∧ Below w.heap.size w w' := by
  refine (Put_any w m s hT hI).mono fun e w' h => ?_
  unfold PutR at h
  rw [if_neg (by rw [hm]; simp)] at h
  exact h
set_option maxRecDepth 100000 in
set_option maxHeartbeats 16000000 in
theorem puts_n (w : World) (hT : HasT w) (m : Msg) (s : Sl) (hm : MIn0 w w.heap.size m s) (hf : few m = true) (hmm : may m = false) :
    Calls Tryd.prog 3 #[.agg (mv m s)] w fun e w' => e = .returned (.bool true) ∧ Below w.heap.size w w' := by
  obtain ⟨bx, hbx⟩ : ∃ bx, w.heap.size = bx := ⟨_, rfl⟩
  obtain ⟨w1, hw1⟩ : ∃ x : World, w.alloc (.cells (mv m s) 27) = x := ⟨_, rfl⟩
  have H1 := Lib.hid (show Bx w bx m s w1 by
    rw [← hw1, ← hbx]
    exact ⟨Blk.new w _ _, nextA (Mem.start w) _⟩)
  have HI := Lib.hid (And.intro hT hm)
  have HF := Lib.hid hf
  have HM := Lib.hid (hm.small hf)
  have HMM := Lib.hid (And.intro hmm trivial)
  clear hmm
  have ca0 := H1.out.1.cell 0
  have ca1 := H1.out.1.cell 1
  have ca2 := H1.out.1.cell 2
  have ca3 := H1.out.1.cell 3
  have ca4 := H1.out.1.cell 4
  have ca5 := H1.out.1.cell 5
  have ca6 := H1.out.1.cell 6
  have ca7 := H1.out.1.cell 7
  have ca8 := H1.out.1.cell 8
  have ca9 := H1.out.1.cell 9
  have ca10 := H1.out.1.cell 10
  have ca11 := H1.out.1.cell 11
  have ca12 := H1.out.1.cell 12
  have ca13 := H1.out.1.cell 13
  simp [mv] at ca0 ca1 ca2 ca3 ca4 ca5 ca6 ca7 ca8 ca9 ca10 ca11 ca12 ca13
  clear hT hm hf
  go_enter Tryd.func3, Tryd.ntmps3
  go_wp2_with fail
  refine (few_any w1 m s (HI.out.2.keep H1.out.2)).mono ?_
  rintro e w2 ⟨rfl, hb⟩
  rw [HF.out]
  have H2 := Lib.hid (H1.out.keep hb)
  clear hb ca0 ca1 ca2 ca3 ca4 ca5 ca6 ca7 ca8 ca9 ca10 ca11 ca12 ca13 hw1 hbx
  have cb0 := H2.out.1.cell 0
  have cb1 := H2.out.1.cell 1
  have cb2 := H2.out.1.cell 2
  have cb3 := H2.out.1.cell 3
  have cb4 := H2.out.1.cell 4
  have cb5 := H2.out.1.cell 5
  have cb6 := H2.out.1.cell 6
  have cb7 := H2.out.1.cell 7
  have cb8 := H2.out.1.cell 8
  have cb9 := H2.out.1.cell 9
  have cb10 := H2.out.1.cell 10
  have cb11 := H2.out.1.cell 11
  have cb12 := H2.out.1.cell 12
  have cb13 := H2.out.1.cell 13
  simp [mv] at cb0 cb1 cb2 cb3 cb4 cb5 cb6 cb7 cb8 cb9 cb10 cb11 cb12 cb13
  go_wp2_with fail
  refine (plain_any w2 m s (HM.out.keep H2.out.2)).mono ?_
  rintro e w3 ⟨A3, c3, rfl, hp, hb⟩
  have H3 := Lib.hid (And.intro (H2.out.keep hb) hp)
  clear hb hp cb0 cb1 cb2 cb3 cb4 cb5 cb6 cb7 cb8 cb9 cb10 cb11 cb12 cb13
  go_wp2_with fail
  refine (rmay_any w3 m A3 c3 s.na s.nc H3.out.2).mono ?_
  rintro e w4 ⟨rfl, hb⟩
  rw [HMM.out.1]
  have H4 := Lib.hid (H3.out.1.keep hb)
  clear hb
  go_wp2_with fail
  go_loopw [5] (fun t wr => ∃ j : Nat, t = .int .i64 (j : Int) ∧ j ≤ 2 ∧ Bx w bx m s wr) (fun t _ => 2 - (intOf t).toNat)
  case atStart => exact ⟨0, rfl, by decide, H4.out⟩
  case round =>
    obtain ⟨j, rfl, hj, hB⟩ := hrel
    have HR := Lib.hid hB
    clear hB
    by_cases hj2 : j < 2
    · have h1 : (j : Int) < 2 := by omega
      have h0 : (0 : Int) ≤ (j : Int) := by omega
      have ce0 := HR.out.1.cell 0
      have ce1 := HR.out.1.cell 1
      have ce2 := HR.out.1.cell 2
      have ce3 := HR.out.1.cell 3
      have ce4 := HR.out.1.cell 4
      have ce5 := HR.out.1.cell 5
      have ce6 := HR.out.1.cell 6
      have ce7 := HR.out.1.cell 7
      have ce8 := HR.out.1.cell 8
      have ce9 := HR.out.1.cell 9
      have ce10 := HR.out.1.cell 10
      have ce11 := HR.out.1.cell 11
      have ce12 := HR.out.1.cell 12
      have ce13 := HR.out.1.cell 13
      simp [mv] at ce0 ce1 ce2 ce3 ce4 ce5 ce6 ce7 ce8 ce9 ce10 ce11 ce12 ce13
      go_wp2_with fail
      refine (putp_no wr m s (HI.out.1.keep HR.out.2) (HM.out.keep HR.out.2) HMM.out.1).mono ?_
      rintro e w5 ⟨rfl, hb⟩
      have H5 := Lib.hid (HR.out.keep hb)
      have es : (convert 25 9 (.slice none 0 0)).run Tryd.prog w5 = .ok (.string { data := #[] }) w5 := run_str (P := Tryd.prog) w5 25 5 Tryd.underlying25 Tryd.underlying5 (Bytes.nil (w := w5) (B := 0) (A := none)) 0 9 Tryd.underlying9
      clear hb ce0 ce1 ce2 ce3 ce4 ce5 ce6 ce7 ce8 ce9 ce10 ce11 ce12 ce13
      go_wp2_with fail
      go_loopw [8] (fun i wq => i = .int .i64 0 ∧ Bx w bx m s wq) (fun _ _ => 0)
      case atStart => exact ⟨rfl, H5.out⟩
      case round =>
        clear H5 es
        obtain ⟨rfl, hB⟩ := hrel
        have H6 := Lib.hid hB
        clear hB
        go_wp2_with fail
        go_roundw
        case rel => exact ⟨j + 1, by go_num, by omega, H6.out⟩
        case measure => simp [intOf]; omega
    · obtain rfl : j = 2 := by omega
      go_wp2_with fail
      refine (works_any wr (HI.out.1.keep HR.out.2)).mono ?_
      rintro e w8 ⟨rfl, hb⟩
      have H8 := Lib.hid (next HR.out.2 hb)
      clear hb
      go_wp2_with fail
      go_ret
      exact ⟨rfl, H8.out⟩
set_option maxRecDepth 100000 in
set_option maxHeartbeats 16000000 in
theorem puts_y (w : World) (hT : HasT w) (m : Msg) (s : Sl) (hm : MIn0 w w.heap.size m s) (hf : few m = true) (x : List UInt8) (hmm : may m = true) (hx : Wi.bytes m = x) :
    Calls Tryd.prog 3 #[.agg (mv m s)] w fun e w' => e = .returned (.bool true) ∧ Below w.heap.size w w' := by
  obtain ⟨bx, hbx⟩ : ∃ bx, w.heap.size = bx := ⟨_, rfl⟩
  obtain ⟨w1, hw1⟩ : ∃ x : World, w.alloc (.cells (mv m s) 27) = x := ⟨_, rfl⟩
  have H1 := Lib.hid (show Bx w bx m s w1 by
    rw [← hw1, ← hbx]
    exact ⟨Blk.new w _ _, nextA (Mem.start w) _⟩)
  have HI := Lib.hid (And.intro hT hm)
  have HF := Lib.hid hf
  have HM := Lib.hid (hm.small hf)
  have HMM := Lib.hid (And.intro hmm hx)
  obtain ⟨L, hL⟩ : ∃ L, x.length = L := ⟨_, rfl⟩
  have HL := Lib.hid (show x.length = L ∧ L ≤ 800000 by rw [← hL, ← hx]; exact ⟨rfl, bytes_le ((may_iff m).1 hmm)⟩)
  clear hmm hx hL
  have ca0 := H1.out.1.cell 0
  have ca1 := H1.out.1.cell 1
  have ca2 := H1.out.1.cell 2
  have ca3 := H1.out.1.cell 3
  have ca4 := H1.out.1.cell 4
  have ca5 := H1.out.1.cell 5
  have ca6 := H1.out.1.cell 6
  have ca7 := H1.out.1.cell 7
  have ca8 := H1.out.1.cell 8
  have ca9 := H1.out.1.cell 9
  have ca10 := H1.out.1.cell 10
  have ca11 := H1.out.1.cell 11
  have ca12 := H1.out.1.cell 12
  have ca13 := H1.out.1.cell 13
  simp [mv] at ca0 ca1 ca2 ca3 ca4 ca5 ca6 ca7 ca8 ca9 ca10 ca11 ca12 ca13
  clear hT hm hf
  go_enter Tryd.func3, Tryd.ntmps3
  go_wp2_with fail
  refine (few_any w1 m s (HI.out.2.keep H1.out.2)).mono ?_
  rintro e w2 ⟨rfl, hb⟩
  rw [HF.out]
  have H2 := Lib.hid (H1.out.keep hb)
  clear hb ca0 ca1 ca2 ca3 ca4 ca5 ca6 ca7 ca8 ca9 ca10 ca11 ca12 ca13 hw1 hbx
  have cb0 := H2.out.1.cell 0
  have cb1 := H2.out.1.cell 1
  have cb2 := H2.out.1.cell 2
  have cb3 := H2.out.1.cell 3
  have cb4 := H2.out.1.cell 4
  have cb5 := H2.out.1.cell 5
  have cb6 := H2.out.1.cell 6
  have cb7 := H2.out.1.cell 7
  have cb8 := H2.out.1.cell 8
  have cb9 := H2.out.1.cell 9
  have cb10 := H2.out.1.cell 10
  have cb11 := H2.out.1.cell 11
  have cb12 := H2.out.1.cell 12
  have cb13 := H2.out.1.cell 13
  simp [mv] at cb0 cb1 cb2 cb3 cb4 cb5 cb6 cb7 cb8 cb9 cb10 cb11 cb12 cb13
  go_wp2_with fail
  refine (plain_any w2 m s (HM.out.keep H2.out.2)).mono ?_
  rintro e w3 ⟨A3, c3, rfl, hp, hb⟩
  have H3 := Lib.hid (And.intro (H2.out.keep hb) hp)
  clear hb hp cb0 cb1 cb2 cb3 cb4 cb5 cb6 cb7 cb8 cb9 cb10 cb11 cb12 cb13
  go_wp2_with fail
  refine (rmay_any w3 m A3 c3 s.na s.nc H3.out.2).mono ?_
  rintro e w4 ⟨rfl, hb⟩
  rw [HMM.out.1]
  have H4 := Lib.hid (H3.out.1.keep hb)
  clear hb
  have cc0 := H4.out.1.cell 0
  have cc1 := H4.out.1.cell 1
  have cc2 := H4.out.1.cell 2
  have cc3 := H4.out.1.cell 3
  have cc4 := H4.out.1.cell 4
  have cc5 := H4.out.1.cell 5
  have cc6 := H4.out.1.cell 6
  have cc7 := H4.out.1.cell 7
  have cc8 := H4.out.1.cell 8
  have cc9 := H4.out.1.cell 9
  have cc10 := H4.out.1.cell 10
  have cc11 := H4.out.1.cell 11
  have cc12 := H4.out.1.cell 12
  have cc13 := H4.out.1.cell 13
  simp [mv] at cc0 cc1 cc2 cc3 cc4 cc5 cc6 cc7 cc8 cc9 cc10 cc11 cc12 cc13
  go_wp2_with fail
  refine (plain_any w4 m s (HM.out.keep H4.out.2)).mono ?_
  rintro e w5 ⟨A5, c5, rfl, hp, hb⟩
  have H5 := Lib.hid (And.intro (H4.out.keep hb) hp)
  clear hb hp cc0 cc1 cc2 cc3 cc4 cc5 cc6 cc7 cc8 cc9 cc10 cc11 cc12 cc13
  go_wp2_with fail
  refine (rbytes_any w5 m A5 c5 s.na s.nc H5.out.2 ((may_iff m).1 HMM.out.1).b).mono ?_
  rintro e w6 ⟨A6, c6, rfl, ho, hb⟩
  rw [HMM.out.2] at ho ⊢
  have H6 := Lib.hid (H5.out.1.keep hb)
  have es := run_str (P := Tryd.prog) w6 25 5 Tryd.underlying25 Tryd.underlying5 ho.bytes c6 9 Tryd.underlying9
  rw [HL.out.1] at es ⊢
  clear hb ho
  go_wp2_with fail
  clear es
  go_loopw [5] (fun t wr => ∃ j : Nat, t = .int .i64 (j : Int) ∧ j ≤ 2 ∧ Bx w bx m s wr) (fun t _ => 2 - (intOf t).toNat)
  case atStart => exact ⟨0, rfl, by decide, H6.out⟩
  case round =>
    obtain ⟨j, rfl, hj, hB⟩ := hrel
    have HR := Lib.hid hB
    clear hB
    by_cases hj2 : j < 2
    · have h1 : (j : Int) < 2 := by omega
      have h0 : (0 : Int) ≤ (j : Int) := by omega
      have ce0 := HR.out.1.cell 0
      have ce1 := HR.out.1.cell 1
      have ce2 := HR.out.1.cell 2
      have ce3 := HR.out.1.cell 3
      have ce4 := HR.out.1.cell 4
      have ce5 := HR.out.1.cell 5
      have ce6 := HR.out.1.cell 6
      have ce7 := HR.out.1.cell 7
      have ce8 := HR.out.1.cell 8
      have ce9 := HR.out.1.cell 9
      have ce10 := HR.out.1.cell 10
      have ce11 := HR.out.1.cell 11
      have ce12 := HR.out.1.cell 12
      have ce13 := HR.out.1.cell 13
      simp [mv] at ce0 ce1 ce2 ce3 ce4 ce5 ce6 ce7 ce8 ce9 ce10 ce11 ce12 ce13
      go_wp2_with fail
      refine (putp_yes wr m s x (HI.out.1.keep HR.out.2) (HM.out.keep HR.out.2) HMM.out.1 HMM.out.2).mono ?_
      rintro e w7 ⟨A7, c7, rfl, ho, hb⟩
      have H7 := Lib.hid (And.intro (HR.out.keep hb) (And.intro ho HR.out.2.size))
      have es := run_str (P := Tryd.prog) w7 25 5 Tryd.underlying25 Tryd.underlying5 ho.bytes c7 9 Tryd.underlying9
      rw [HL.out.1] at es ⊢
      have hL8 : (L : Int) ≤ 800000 := by have := HL.out.2; omega
      have HJ := Lib.hid (And.intro hj2 hj)
      clear hb ho ce0 ce1 ce2 ce3 ce4 ce5 ce6 ce7 ce8 ce9 ce10 ce11 ce12 ce13 hj2 hj
      go_wp2_with fail
      clear es
      obtain ⟨wo, hwo⟩ : ∃ wo : Nat, wr.heap.size = wo := ⟨_, rfl⟩
      rw [hwo] at H7
      have HWO := Lib.hid (show w.heap.size ≤ wo by rw [← hwo]; exact HR.out.2.size)
      clear hwo HR
      go_loopw [8] (fun i wq => ∃ (q : Nat) (l1 : List UInt8), i = .int .i64 (q : Int) ∧ q ≤ L ∧ l1.length = L ∧ Mem.Own wq wo 5 A7 c7 (l1.map u8v) ∧ Bx w bx m s wq) (fun i _ => L - (intOf i).toNat)
      case atStart => exact ⟨0, x, rfl, Nat.zero_le _, HL.out.1, H7.out.2.1, H7.out.1⟩
      case round =>
        clear H7
        obtain ⟨q, l1, rfl, hq, hl1, ho, hB⟩ := hrel
        have HX := Lib.hid (And.intro hB ho)
        have HL1 := Lib.hid hl1
        clear hB
        by_cases hqL : q < L
        · have hii : (q : Int) < (L : Int) := by omega
          have hi0 : (0 : Int) ≤ (q : Int) := by omega
          obtain ⟨g, eA, hbg, hlt, hc', hz, hset⟩ := ho.at_ (k := q) (by rw [List.length_map]; omega)
          obtain ⟨y, hy⟩ : ∃ y, l1[q]'(by omega) = y := ⟨_, rfl⟩
          have hc : wr.cell? ⟨g, q, none⟩ = some (.int .u8 (y.toNat : Int)) := by rw [hc', List.getElem_map, hy]; rfl
          have hw : ((y.toNat : Int) + 1) % 256 = ((y + 1).toNat : Int) := by
            have := y.toNat_lt
            rw [UInt8.toNat_add]
            show ((y.toNat : Int) + 1) % 256 = (((y.toNat + 1) % 256 : Nat) : Int)
            omega
          have HRW := Lib.hid (show Mem.Own (wr.setCell ⟨g, q, none⟩ (.int .u8 ((y + 1).toNat : Int))) wo 5 A7 c7 ((l1.set q (y + 1)).map u8v) from by rw [List.map_set]; exact hset _)
          have hfr : Fr (fun k => k = g) wr (wr.setCell ⟨g, q, none⟩ (.int .u8 ((y + 1).toNat : Int))) := (Fr.refl (fun k => k = g) wr).setCell (p := ⟨g, q, none⟩) (fun _ => rfl) _
          have HN := Lib.hid (show Bx w bx m s (wr.setCell ⟨g, q, none⟩ (.int .u8 ((y + 1).toNat : Int))) from
            ⟨HX.out.1.1.fr hfr (fun h => HX.out.1.1.ne_own ho (by decide) g eA h.symm), HX.out.1.2.trans (hfr.below HX.out.1.2.size fun k hk => by have := HWO.out; omega)⟩)
          have HW := Lib.hid hw
          have HQ := Lib.hid hqL
          clear hc' hset hy hlt ho hl1 hfr hw hbg
          subst eA
          go_wp2_with fail
          go_roundw
          case rel =>
            rw [HW.out]
            exact ⟨q + 1, l1.set q (y + 1), by go_num, HQ.out, by rw [List.length_set]; exact HL1.out, HRW.out, HN.out⟩
          case measure => simp [intOf]; have := HQ.out; omega
        · obtain rfl : q = L := by omega
          have hii : ¬ (q : Int) < (q : Int) := by omega
          clear ho hl1 hq hqL
          go_wp2_with fail
          go_roundw
          case rel => exact ⟨j + 1, by go_num, HJ.out.1, HX.out.1⟩
          case measure => simp [intOf]; have := HJ.out.1; omega
    · obtain rfl : j = 2 := by omega
      go_wp2_with fail
      refine (works_any wr (HI.out.1.keep HR.out.2)).mono ?_
      rintro e w8 ⟨rfl, hb⟩
      have H8 := Lib.hid (next HR.out.2 hb)
      clear hb
      go_wp2_with fail
      go_ret
      exact ⟨rfl, H8.out⟩
set_option maxRecDepth 100000 in
set_option maxHeartbeats 8000000 in
theorem puts_law (w : World) (hT : HasT w) (m : Msg) (s : Sl) (hm : MIn0 w w.heap.size m s) :
    Calls Tryd.prog 3 #[.agg (mv m s)] w fun e w' => e = .returned (.bool true) ∧ Below w.heap.size w w' := by
  cases hf : few m
  · obtain ⟨bx, hbx⟩ : ∃ bx, w.heap.size = bx := ⟨_, rfl⟩
    obtain ⟨w1, hw1⟩ : ∃ x : World, w.alloc (.cells (mv m s) 27) = x := ⟨_, rfl⟩
    have H1 := Lib.hid (show Bx w bx m s w1 by
      rw [← hw1, ← hbx]
      exact ⟨Blk.new w _ _, nextA (Mem.start w) _⟩)
    have HI := Lib.hid (And.intro hT hm)
    have HF := Lib.hid hf
    have ca0 := H1.out.1.cell 0
    have ca1 := H1.out.1.cell 1
    have ca2 := H1.out.1.cell 2
    have ca3 := H1.out.1.cell 3
    have ca4 := H1.out.1.cell 4
    have ca5 := H1.out.1.cell 5
    have ca6 := H1.out.1.cell 6
    have ca7 := H1.out.1.cell 7
    have ca8 := H1.out.1.cell 8
    have ca9 := H1.out.1.cell 9
    have ca10 := H1.out.1.cell 10
    have ca11 := H1.out.1.cell 11
    have ca12 := H1.out.1.cell 12
    have ca13 := H1.out.1.cell 13
    simp [mv] at ca0 ca1 ca2 ca3 ca4 ca5 ca6 ca7 ca8 ca9 ca10 ca11 ca12 ca13
    clear hT hm hf
    go_enter Tryd.func3, Tryd.ntmps3
    go_wp2_with fail
    refine (few_any w1 m s (HI.out.2.keep H1.out.2)).mono ?_
    rintro e w2 ⟨rfl, hb⟩
    rw [HF.out]
    have H2 := Lib.hid (H1.out.keep hb)
    clear hb ca0 ca1 ca2 ca3 ca4 ca5 ca6 ca7 ca8 ca9 ca10 ca11 ca12 ca13 hw1 hbx
    go_wp2_with fail
    refine (works_any w2 (HI.out.1.keep H2.out.2)).mono ?_
    rintro e w3 ⟨rfl, hb⟩
    have H3 := Lib.hid (next H2.out.2 hb)
    clear hb
    go_wp2_with fail
    go_ret
    exact ⟨rfl, H3.out⟩
  · cases hmm : may m
    · exact puts_n w hT m s hm hf hmm
    · exact puts_y w hT m s hm hf _ hmm rfl
end Go.Proofs.YtebdmfmadbikaaaDoor.WiW
/- The law WireSame, walked. Printed by genwlsame.py (raw numbers of the seat). -/
namespace Go.Proofs.YtebdmfmadbikaaaDoor.WiW
open Go.RowKit Go.Shelf Mem Fds FdW Wi Rng
set_option linter.unusedVariables false
set_option linter.unusedSimpArgs false

set_option maxRecDepth 100000 in
set_option maxHeartbeats 16000000 in
theorem same_law (w : World) (hT : HasT w) (m : Msg) (s : Sl) (hm : MIn0 w w.heap.size m s) (n : Msg) (t : Sl) (hn : MIn0 w w.heap.size n t) :
    Calls Tryd.prog 6 #[.agg (mv m s), .agg (mv n t)] w fun e w' => e = .returned (.bool true) ∧ Below w.heap.size w w' := by
  obtain ⟨bx, hbx⟩ : ∃ bx, w.heap.size = bx := ⟨_, rfl⟩
  obtain ⟨w1, hw1⟩ : ∃ x : World, (w.alloc (.cells (mv m s) 27)).alloc (.cells (mv n t) 27) = x := ⟨_, rfl⟩
  have hb1 : Below w.heap.size w w1 := by rw [← hw1]; exact nextA (nextA (Mem.start w) _) _
  have H1 := Lib.hid (show Two w bx m s n t w1 by
    rw [← hw1, ← hbx]
    refine ⟨(Blk.new w _ _).keep (nextA (Mem.start _) _), ?_, nextA (nextA (Mem.start w) _) _⟩
    have := Blk.new (w.alloc (.cells (mv m s) 27)) 27 (mv n t)
    rw [World.size_alloc] at this; exact this)
  have HI := Lib.hid (And.intro hT (And.intro hm hn))
  have ca0 := H1.out.1.cell 0
  have ca1 := H1.out.1.cell 1
  have ca2 := H1.out.1.cell 2
  have ca3 := H1.out.1.cell 3
  have ca4 := H1.out.1.cell 4
  have ca5 := H1.out.1.cell 5
  have ca6 := H1.out.1.cell 6
  have ca7 := H1.out.1.cell 7
  have ca8 := H1.out.1.cell 8
  have ca9 := H1.out.1.cell 9
  have ca10 := H1.out.1.cell 10
  have ca11 := H1.out.1.cell 11
  have ca12 := H1.out.1.cell 12
  have ca13 := H1.out.1.cell 13
  simp [mv] at ca0 ca1 ca2 ca3 ca4 ca5 ca6 ca7 ca8 ca9 ca10 ca11 ca12 ca13
  clear hT hm hn hb1
  cases hf : few m
  · have HF := Lib.hid hf
    clear hf
    go_enter Tryd.func6, Tryd.ntmps6
    go_wp2_with fail
    refine (few_any w1 m s (HI.out.2.1.keep H1.out.2.2)).mono ?_
    rintro e w2 ⟨rfl, hb⟩
    rw [HF.out]
    have H2 := Lib.hid (H1.out.keep hb)
    clear hb ca0 ca1 ca2 ca3 ca4 ca5 ca6 ca7 ca8 ca9 ca10 ca11 ca12 ca13 hw1 hbx
    go_wp2_with fail
    refine (works_any w2 (HI.out.1.keep H2.out.2.2)).mono ?_
    rintro e w3 ⟨rfl, hb⟩
    have H3 := Lib.hid (next H2.out.2.2 hb)
    clear hb
    go_wp2_with fail
    go_ret
    exact ⟨rfl, H3.out⟩
  · have HF := Lib.hid hf
    clear hf
    go_enter Tryd.func6, Tryd.ntmps6
    go_wp2_with fail
    refine (few_any w1 m s (HI.out.2.1.keep H1.out.2.2)).mono ?_
    rintro e w2 ⟨rfl, hb⟩
    rw [HF.out]
    have H2 := Lib.hid (H1.out.keep hb)
    clear hb ca0 ca1 ca2 ca3 ca4 ca5 ca6 ca7 ca8 ca9 ca10 ca11 ca12 ca13 hw1 hbx
    have cb0 := H2.out.2.1.cell 0
    have cb1 := H2.out.2.1.cell 1
    have cb2 := H2.out.2.1.cell 2
    have cb3 := H2.out.2.1.cell 3
    have cb4 := H2.out.2.1.cell 4
    have cb5 := H2.out.2.1.cell 5
    have cb6 := H2.out.2.1.cell 6
    have cb7 := H2.out.2.1.cell 7
    have cb8 := H2.out.2.1.cell 8
    have cb9 := H2.out.2.1.cell 9
    have cb10 := H2.out.2.1.cell 10
    have cb11 := H2.out.2.1.cell 11
    have cb12 := H2.out.2.1.cell 12
    have cb13 := H2.out.2.1.cell 13
    simp [mv] at cb0 cb1 cb2 cb3 cb4 cb5 cb6 cb7 cb8 cb9 cb10 cb11 cb12 cb13
    go_wp2_with fail
    refine (few_any w2 n t (HI.out.2.2.keep H2.out.2.2)).mono ?_
    rintro e w3 ⟨rfl, hb⟩
    have H3 := Lib.hid (H2.out.keep hb)
    clear hb cb0 cb1 cb2 cb3 cb4 cb5 cb6 cb7 cb8 cb9 cb10 cb11 cb12 cb13
    cases hf : few n
    · clear hf
      go_wp2_with fail
      refine (works_any w3 (HI.out.1.keep H3.out.2.2)).mono ?_
      rintro e w4 ⟨rfl, hb⟩
      have H4 := Lib.hid (next H3.out.2.2 hb)
      clear hb
      go_wp2_with fail
      go_ret
      exact ⟨rfl, H4.out⟩
    · have HG := Lib.hid hf
      clear hf
      have HM := Lib.hid (And.intro (HI.out.2.1.small HF.out) (HI.out.2.2.small HG.out))
      obtain ⟨q, hq⟩ : ∃ q, same m n = q := ⟨_, rfl⟩
      have HQ := Lib.hid hq
      clear hq
      go_wp2_with fail
      refine wp_region_noPanic ?_
      refine wp_heldG (fun V => Two w bx m s n t V) [] (by kernel_rfl) ?hs0 ?rg0
      case hs0 =>
        exact H3.out.keep (nextN (Mem.start _) 1)
      case rg0 =>
      intro hHeld
      refine tkG 0 ⟨some 14, .load 27 (.tmp 2), 27, _, #[], none⟩ (v := ?_) ?_ (by assumption) ?_
      rotate_left
      · intro w hSw
        try dsimp only at hSw
        refine exec_load 27 (.tmp 2) ?_ _ ?_ (.agg (mv m s)) (load_msg hSw.1)
        · rfl
        · rfl
      try simp only [Act.put, List.setIfInBounds_toArray, List.set_cons_zero, List.set_cons_succ]
      refine tkG 1 ⟨some 15, .load 27 (.tmp 3), 27, _, #[], none⟩ (v := ?_) ?_ (by assumption) ?_
      rotate_left
      · intro w hSw
        try dsimp only at hSw
        refine exec_load 27 (.tmp 3) ?_ _ ?_ (.agg (mv n t)) (load_msg hSw.2.1)
        · rfl
        · rfl
      try simp only [Act.put, List.setIfInBounds_toArray, List.set_cons_zero, List.set_cons_succ]
      refine tkG 3 ⟨some 17, .load 27 (.tmp 2), 27, _, #[], none⟩ (v := ?_) ?_ (by assumption) ?_
      rotate_left
      · intro w hSw
        try dsimp only at hSw
        refine exec_load 27 (.tmp 2) ?_ _ ?_ (.agg (mv m s)) (load_msg hSw.1)
        · rfl
        · rfl
      try simp only [Act.put, List.setIfInBounds_toArray, List.set_cons_zero, List.set_cons_succ]
      refine tkG 5 ⟨some 19, .load 27 (.tmp 3), 27, _, #[], none⟩ (v := ?_) ?_ (by assumption) ?_
      rotate_left
      · intro w hSw
        try dsimp only at hSw
        refine exec_load 27 (.tmp 3) ?_ _ ?_ (.agg (mv n t)) (load_msg hSw.2.1)
        · rfl
        · rfl
      try simp only [Act.put, List.setIfInBounds_toArray, List.set_cons_zero, List.set_cons_succ]
      refine onG 2 ⟨some 16, .call { callee := Callee.value (Operand.func 18), args := #[.tmp 14, .tmp 15], argTypes := #[27, 27] }, 4, _, #[⟨0, .data⟩, ⟨1, .data⟩], none⟩ (fun K hK => ?_)
      go_simp
      refine (same_any _ _ _ _ _ (HM.out.1.keep hHeld.2.2) (HM.out.2.keep hHeld.2.2)).mono ?_
      rintro e w4 ⟨rfl, hb⟩
      rw [HQ.out]
      try dsimp only
      refine hK.out _ _ ?_ (fun hHeld => ?_)
      · intro _
        try dsimp only
        exact hHeld.keep hb
      clear hK K
      try simp only [Act.put, List.setIfInBounds_toArray, List.set_cons_zero, List.set_cons_succ]
      have hHeld := hHeld (by kernel_rfl)
      refine onG 4 ⟨some 18, .call { callee := Callee.value (Operand.func 12), args := #[.tmp 17], argTypes := #[27] }, 33, _, #[⟨3, .data⟩, ⟨2, .chain⟩], none⟩ (fun K hK => ?_)
      go_simp
      refine (plain_any _ m s (HM.out.1.keep hHeld.2.2)).mono ?_
      rintro e w5 ⟨A5, c5, rfl, hp5, hb⟩
      have HP5 := Lib.hid hp5
      clear hp5
      try dsimp only
      refine hK.out _ _ ?_ (fun hHeld => ?_)
      · intro _
        try dsimp only
        exact hHeld.keep hb
      clear hK K
      try simp only [Act.put, List.setIfInBounds_toArray, List.set_cons_zero, List.set_cons_succ]
      have hHeld := hHeld (by kernel_rfl)
      refine onG 6 ⟨some 20, .call { callee := Callee.value (Operand.func 12), args := #[.tmp 19], argTypes := #[27] }, 33, _, #[⟨5, .data⟩, ⟨4, .chain⟩], none⟩ (fun K hK => ?_)
      go_simp
      refine (plain_any _ n t (HM.out.2.keep hHeld.2.2)).mono ?_
      rintro e w6 ⟨A6, c6, rfl, hp6, hb⟩
      have HP6 := Lib.hid (And.intro (HP5.out.keep hb) hp6)
      clear hp6
      try dsimp only
      refine hK.out _ _ ?_ (fun hHeld => ?_)
      · intro _
        try dsimp only
        exact hHeld.keep hb
      clear hK K
      try simp only [Act.put, List.setIfInBounds_toArray, List.set_cons_zero, List.set_cons_succ]
      have hHeld := hHeld (by kernel_rfl)
      refine onG 7 ⟨some 21, .call { callee := Callee.value (Operand.func 17), args := #[.tmp 18, .tmp 20], argTypes := #[33, 33] }, 4, _, #[⟨4, .data⟩, ⟨6, .data⟩, ⟨6, .chain⟩], none⟩ (fun K hK => ?_)
      go_simp
      refine (rsame_any _ m n _ _ _ _ _ _ _ _ HP6.out.1 HP6.out.2).mono ?_
      rintro e w7 ⟨rfl, hb⟩
      rw [HQ.out]
      try dsimp only
      refine hK.out _ _ ?_ (fun hHeld => ?_)
      · intro _
        try dsimp only
        exact hHeld.keep hb
      clear hK K
      try simp only [Act.put, List.setIfInBounds_toArray, List.set_cons_zero, List.set_cons_succ]
      have hHeld := hHeld (by kernel_rfl)
      refine puG 8 ⟨some 22, .binOp BinOp.eql 4 (.tmp 16) (.tmp 21) 4, 4, _, #[⟨2, .data⟩, ⟨7, .data⟩], none⟩ (v := ?_) ?_ (fun _ => by assumption) ?_
      rotate_left
      · intro w hSw
        try dsimp only at hSw
        go_simp
        try with_reducible rfl
      try simp only [Act.put, List.setIfInBounds_toArray, List.set_cons_zero, List.set_cons_succ]
      refine puG 9 ⟨some 23, .move (.tmp 22), 4, _, #[⟨8, .data⟩, ⟨7, .chain⟩], none⟩ (v := ?_) ?_ (fun _ => by assumption) ?_
      rotate_left
      · intro w hSw
        try dsimp only at hSw
        go_simp
        try with_reducible rfl
      try simp only [Act.put, List.setIfInBounds_toArray, List.set_cons_zero, List.set_cons_succ]
      refine tkG 10 ⟨some 24, .load 27 (.tmp 2), 27, _, #[⟨9, .guard⟩], some (9, true)⟩ (v := ?_) ?_ (by assumption) ?_
      rotate_left
      · intro w hSw
        try dsimp only at hSw
        refine exec_load 27 (.tmp 2) ?_ _ ?_ (.agg (mv m s)) (load_msg hSw.1)
        · rfl
        · rfl
      try simp only [Act.put, List.setIfInBounds_toArray, List.set_cons_zero, List.set_cons_succ]
      refine tkG 11 ⟨some 25, .load 27 (.tmp 2), 27, _, #[⟨9, .guard⟩], some (9, true)⟩ (v := ?_) ?_ (by assumption) ?_
      rotate_left
      · intro w hSw
        try dsimp only at hSw
        refine exec_load 27 (.tmp 2) ?_ _ ?_ (.agg (mv m s)) (load_msg hSw.1)
        · rfl
        · rfl
      try simp only [Act.put, List.setIfInBounds_toArray, List.set_cons_zero, List.set_cons_succ]
      refine onG 12 ⟨some 26, .call { callee := Callee.value (Operand.func 18), args := #[.tmp 24, .tmp 25], argTypes := #[27, 27] }, 4, _, #[⟨10, .data⟩, ⟨11, .data⟩, ⟨9, .chain⟩, ⟨9, .guard⟩], some (9, true)⟩ (fun K hK => ?_)
      go_simp
      refine (same_any _ _ _ _ _ (HM.out.1.keep hHeld.2.2) (HM.out.1.keep hHeld.2.2)).mono ?_
      rintro e w8 ⟨rfl, hb⟩
      rw [same_refl]
      try dsimp only
      refine hK.out _ _ ?_ (fun hHeld => ?_)
      · intro _
        try dsimp only
        exact hHeld.keep hb
      clear hK K
      try simp only [Act.put, List.setIfInBounds_toArray, List.set_cons_zero, List.set_cons_succ]
      have hHeld := hHeld (by kernel_rfl)
      refine puG 13 ⟨some 27, .pick (.tmp 23) (.tmp 26) (Operand.const (Value.bool false)), 4, _, #[⟨9, .data⟩, ⟨12, .data⟩], none⟩ (v := ?_) ?_ (fun _ => by assumption) ?_
      rotate_left
      · intro w hSw
        try dsimp only at hSw
        go_simp
        try with_reducible rfl
      try simp only [Act.put, List.setIfInBounds_toArray, List.set_cons_zero, List.set_cons_succ]
      refine puG 14 ⟨some 28, .move (.tmp 27), 4, _, #[⟨13, .data⟩, ⟨12, .chain⟩], none⟩ (v := ?_) ?_ (fun _ => by assumption) ?_
      rotate_left
      · intro w hSw
        try dsimp only at hSw
        go_simp
        try with_reducible rfl
      try simp only [Act.put, List.setIfInBounds_toArray, List.set_cons_zero, List.set_cons_succ]
      refine onG 15 ⟨some 29, .call { callee := Callee.value (Operand.func 10), args := #[], argTypes := #[] }, 4, _, #[⟨14, .chain⟩, ⟨14, .guard⟩], some (14, true)⟩ (fun K hK => ?_)
      go_simp
      refine (works_any _ (HI.out.1.keep hHeld.2.2)).mono ?_
      rintro e w9 ⟨rfl, hb⟩
      try dsimp only
      refine hK.out _ _ ?_ (fun hHeld => ?_)
      · intro _
        try dsimp only
        exact hHeld.keep hb
      clear hK K
      try simp only [Act.put, List.setIfInBounds_toArray, List.set_cons_zero, List.set_cons_succ]
      have hHeld := hHeld (by kernel_rfl)
      refine puG 16 ⟨some 30, .pick (.tmp 28) (.tmp 29) (Operand.const (Value.bool false)), 4, _, #[⟨14, .data⟩, ⟨15, .data⟩], none⟩ (v := ?_) ?_ (fun _ => by assumption) ?_
      rotate_left
      · intro w hSw
        try dsimp only at hSw
        go_simp
        try with_reducible rfl
      try simp only [Act.put, List.setIfInBounds_toArray, List.set_cons_zero, List.set_cons_succ]
      refine puG 17 ⟨some 4, .assign (.tmp 30), 4, _, #[⟨16, .data⟩, ⟨15, .chain⟩, ⟨0, .phase⟩, ⟨1, .phase⟩, ⟨2, .phase⟩, ⟨3, .phase⟩, ⟨4, .phase⟩, ⟨5, .phase⟩, ⟨6, .phase⟩, ⟨7, .phase⟩, ⟨8, .phase⟩, ⟨9, .phase⟩, ⟨10, .phase⟩, ⟨11, .phase⟩, ⟨12, .phase⟩, ⟨13, .phase⟩, ⟨14, .phase⟩, ⟨15, .phase⟩, ⟨16, .phase⟩], none⟩ (v := ?_) ?_ (fun _ => by assumption) ?_
      rotate_left
      · intro w hSw
        try dsimp only at hSw
        go_simp
        try with_reducible rfl
      try simp only [Act.put, List.setIfInBounds_toArray, List.set_cons_zero, List.set_cons_succ]
      refine wpAnyG_done (by kernel_rfl) ?_ _
      refine NoPanic.normal ?_
      have HH := Lib.hid hHeld
      clear hHeld
      go_wp2_with fail
      go_ret
      exact ⟨rfl, HH.out.2.2⟩
end Go.Proofs.YtebdmfmadbikaaaDoor.WiW
/- The law WireLies, walked. Printed by genwlies.py (raw numbers of the seat). -/
namespace Go.Proofs.YtebdmfmadbikaaaDoor.WiW
open Go.RowKit Go.Shelf Mem Fds FdW Wi Rng
set_option linter.unusedVariables false
set_option linter.unusedSimpArgs false

/-- What Put tells. -/
def pe (m : Msg) : Int := if may m = true then 0 else 2
theorem put_e (w : World) (m : Msg) (s : Sl) (hT : HasT w) (hI : MIn w w.heap.size m s) : Calls Tryd.prog 14 #[.agg (mv m s)] w fun e w' => ∃ A n c, e = .returned (.tuple #[.slice A n c, .int .i64 (pe m)]) ∧ Below w.heap.size w w' := by
  refine (Put_any w m s hT hI).mono fun e w' h => ?_
  unfold PutR at h
  unfold pe
  by_cases hm : may m = true
  · rw [if_pos hm] at h ⊢
    obtain ⟨A, c, rfl, _, hb⟩ := h
    exact ⟨A, _, c, rfl, hb⟩
  · rw [if_neg hm] at h ⊢
    obtain ⟨rfl, hb⟩ := h
    exact ⟨none, 0, 0, rfl, hb⟩
theorem may_lie (m : Msg) (b : List UInt8) (hb : b.length ≤ 3000) : pe m = 0 → pe (lie m b) = 0 := by
  unfold pe
  intro h
  have hm : may m = true := by
    cases hm : may m
    · rw [hm] at h; cases h
    · rfl
  have hF := (may_iff m).1 hm
  have hl : may (lie m b) = true := by
    unfold lie
    split
    · rename_i ht
      refine (may_iff _).2 ⟨hF.kind, ?_, hF.frm, hF.to_, hF.code, hF.req, hF.ver, hF.inc, hF.size, hF.node, hF.key, hF.ids, hF.nodes, by show b.length ≤ 65536; omega, hF.id, hF.nd⟩
      have h1 := hF.bare
      have h10 : 10 ∈ flds m.kind := by
        simp [tells] at ht
        rcases ht with h | h <;> rw [h] <;> decide
      obtain ⟨k, f, t, r, ky, v, i, sz, cd, nd, bk, ids, ns, dt⟩ := m
      simp only [keep, Msg.mk.injEq] at h1 ⊢
      simp only [h10, if_true]
      obtain ⟨a1, a2, a3, a4, a5, a6, a7, a8, a9, a10, a11, a12, a13, a14⟩ := h1
      exact ⟨a1, a2, a3, a4, a5, a6, a7, a8, a9, a10, a11, a12, a13, trivial⟩
    · exact hm
  rw [hl]; rfl
set_option maxRecDepth 100000 in
set_option maxHeartbeats 16000000 in
theorem lies_a (w : World) (hT : HasT w) (m : Msg) (s : Sl) (hm : MIn0 w w.heap.size m s) (A : Option Addr) (b : List UInt8) (c : Nat) (hb : Bytes w w.heap.size A b) (hf : few m = true) (hbl : b.length ≤ 3000) (hk : m.kind = 9) :
    Calls Tryd.prog 7 #[.agg (mv m s), .slice A b.length c] w fun e w' => e = .returned (.bool true) ∧ Below w.heap.size w w' := by
  obtain ⟨bx, hbx⟩ : ∃ bx, w.heap.size = bx := ⟨_, rfl⟩
  obtain ⟨w1, hw1⟩ : ∃ x : World, w.alloc (.cells (mv m s) 27) = x := ⟨_, rfl⟩
  have hb1 : Below w.heap.size w w1 := by rw [← hw1]; exact nextA (Mem.start w) _
  have H1 := Lib.hid (show Bx w bx m s w1 by
    rw [← hw1, ← hbx]
    exact ⟨Blk.new w _ _, nextA (Mem.start w) _⟩)
  have HI := Lib.hid (And.intro hT (And.intro hm hb))
  have HF := Lib.hid (And.intro hf hbl)
  have HM := Lib.hid (hm.small hf)
  have HK := Lib.hid (show tells m.kind = true ∧ lie m b = { m with data := b } by
    have h1 : tells m.kind = true := by simp [tells, *]
    exact ⟨h1, by unfold lie; rw [h1]; rfl⟩)
  obtain ⟨p1, hp1⟩ : ∃ p1, pe m = p1 := ⟨_, rfl⟩
  obtain ⟨p2, hp2⟩ : ∃ p2, pe ({ m with data := b }) = p2 := ⟨_, rfl⟩
  have HPe := Lib.hid (And.intro hp1 hp2)
  have HP := Lib.hid (show p1 = 0 → p2 = 0 by
    have h := may_lie m b hbl
    first
    | (rw [HK.out.2, hp1, hp2] at h; exact h)
    | (intro h0; rw [← hp2, hp1]; exact h0))
  clear hp1 hp2
  have HD := Lib.hid (show m.data.length ≤ 3000 from ((few_iff m).1 hf).2.2.1)
  have e9 : ((m.kind : Int) == 9) = true := by rw [beq_iff_eq]; omega
  have dl : decide ((3000 : Int) < ((b.length : Nat) : Int)) = false := decide_eq_false (by omega)
  have ca0 := H1.out.1.cell 0
  have ca1 := H1.out.1.cell 1
  have ca2 := H1.out.1.cell 2
  have ca3 := H1.out.1.cell 3
  have ca4 := H1.out.1.cell 4
  have ca5 := H1.out.1.cell 5
  have ca6 := H1.out.1.cell 6
  have ca7 := H1.out.1.cell 7
  have ca8 := H1.out.1.cell 8
  have ca9 := H1.out.1.cell 9
  have ca10 := H1.out.1.cell 10
  have ca11 := H1.out.1.cell 11
  have ca12 := H1.out.1.cell 12
  have ca13 := H1.out.1.cell 13
  simp [mv] at ca0 ca1 ca2 ca3 ca4 ca5 ca6 ca7 ca8 ca9 ca10 ca11 ca12 ca13
  clear hT hm hb hb1 hf hbl hk
  go_enter Tryd.func7, Tryd.ntmps7
  go_wp2_with fail
  refine (few_any w1 m s (HI.out.2.1.keep H1.out.2)).mono ?_
  rintro e w2 ⟨rfl, hb⟩
  rw [HF.out.1]
  have H2 := Lib.hid (H1.out.keep hb)
  have HB2 := Lib.hid (HI.out.2.1.keep H2.out.2).data
  have es := run_str (P := Tryd.prog) w2 25 5 Tryd.underlying25 Tryd.underlying5 HB2.out s.dk 9 Tryd.underlying9
  clear hb ca0 ca1 ca2 ca3 ca4 ca5 ca6 ca7 ca8 ca9 ca10 ca11 ca12 ca13 hw1 hbx
  have cb0 := H2.out.1.cell 0
  have cb1 := H2.out.1.cell 1
  have cb2 := H2.out.1.cell 2
  have cb3 := H2.out.1.cell 3
  have cb4 := H2.out.1.cell 4
  have cb5 := H2.out.1.cell 5
  have cb6 := H2.out.1.cell 6
  have cb7 := H2.out.1.cell 7
  have cb8 := H2.out.1.cell 8
  have cb9 := H2.out.1.cell 9
  have cb10 := H2.out.1.cell 10
  have cb11 := H2.out.1.cell 11
  have cb12 := H2.out.1.cell 12
  have cb13 := H2.out.1.cell 13
  simp [mv] at cb0 cb1 cb2 cb3 cb4 cb5 cb6 cb7 cb8 cb9 cb10 cb11 cb12 cb13
  go_wp2_with fail
  refine (lie_any w2 m s (HM.out.keep H2.out.2) A b b.length c rfl (by have := HF.out.2; omega) ((HI.out.2.2.below H2.out.2).up H2.out.2.size)).mono ?_
  rintro e w3 ⟨t, rfl, hM, ho, hb⟩
  rw [HK.out.2] at hM ho ⊢
  have H3 := Lib.hid (And.intro (H2.out.keep hb) (And.intro hM ho))
  clear hM ho hb es cb0 cb1 cb2 cb3 cb4 cb5 cb6 cb7 cb8 cb9 cb10 cb11 cb12 cb13
  go_wp2_with ((with_reducible show wpList _ _ _ ((⟨none, .store 27 (.tmp 6) (.tmp 30), _, _, _, _⟩ : Oper) :: _) _ _); refine wpList_store_msg w3 rfl (.tmp 6) (.tmp 30) rfl ({ m with data := b }) t rfl rfl ?_; intro w4 hb4 hw4; have H4 := Lib.hid (And.intro (H3.out.1.keep hw4) (And.intro (H3.out.2.1.keep hw4) (And.intro (H3.out.2.2.keep hw4) hb4))); clear hb4 hw4; obtain ⟨gx, hgx⟩ : ∃ x, w3.heap.size = x := ⟨_, rfl⟩; rw [hgx] at H4 ⊢; have HG := Lib.hid hgx; clear hgx; have c0 := H4.out.1.1.cell 0; simp [mv] at c0)
  refine (tells_any w4 m.kind).mono ?_
  rintro e w5 ⟨rfl, rfl⟩
  rw [HK.out.1]
  have cc0 := H4.out.1.1.cell 0
  have cc1 := H4.out.1.1.cell 1
  have cc2 := H4.out.1.1.cell 2
  have cc3 := H4.out.1.1.cell 3
  have cc4 := H4.out.1.1.cell 4
  have cc5 := H4.out.1.1.cell 5
  have cc6 := H4.out.1.1.cell 6
  have cc7 := H4.out.1.1.cell 7
  have cc8 := H4.out.1.1.cell 8
  have cc9 := H4.out.1.1.cell 9
  have cc10 := H4.out.1.1.cell 10
  have cc11 := H4.out.1.1.cell 11
  have cc12 := H4.out.1.1.cell 12
  have cc13 := H4.out.1.1.cell 13
  simp [mv] at cc0 cc1 cc2 cc3 cc4 cc5 cc6 cc7 cc8 cc9 cc10 cc11 cc12 cc13
  have cx13 := H4.out.2.2.2.cell 13
  simp [mv] at cx13
  have es := run_str (P := Tryd.prog) w4 25 5 Tryd.underlying25 Tryd.underlying5 (HI.out.2.1.keep H4.out.1.2).data s.dk 9 Tryd.underlying9
  have eb := run_str (P := Tryd.prog) w4 25 5 Tryd.underlying25 Tryd.underlying5 (HI.out.2.2.below H4.out.1.2) c 9 Tryd.underlying9
  have ex := run_str (P := Tryd.prog) w4 25 5 Tryd.underlying25 Tryd.underlying5 H4.out.2.1.data t.dk 9 Tryd.underlying9
  go_wp2_with fail
  have K := put_e w4 m s (HI.out.1.keep H4.out.1.2) (HM.out.keep H4.out.1.2)
  rw [HPe.out.1] at K
  refine K.mono ?_
  clear K
  rintro e w5 ⟨A5, n5, c5, rfl, hb⟩
  have H5 := Lib.hid (And.intro (H4.out.1.keep hb) (And.intro (H4.out.2.1.keep hb) (And.intro (H4.out.2.2.1.keep hb) (H4.out.2.2.2.keep hb))))
  clear hb cc0 cc1 cc2 cc3 cc4 cc5 cc6 cc7 cc8 cc9 cc10 cc11 cc12 cc13 cx13 es eb ex
  have cx0 := H5.out.2.2.2.cell 0
  have cx1 := H5.out.2.2.2.cell 1
  have cx2 := H5.out.2.2.2.cell 2
  have cx3 := H5.out.2.2.2.cell 3
  have cx4 := H5.out.2.2.2.cell 4
  have cx5 := H5.out.2.2.2.cell 5
  have cx6 := H5.out.2.2.2.cell 6
  have cx7 := H5.out.2.2.2.cell 7
  have cx8 := H5.out.2.2.2.cell 8
  have cx9 := H5.out.2.2.2.cell 9
  have cx10 := H5.out.2.2.2.cell 10
  have cx11 := H5.out.2.2.2.cell 11
  have cx12 := H5.out.2.2.2.cell 12
  have cx13 := H5.out.2.2.2.cell 13
  simp [mv] at cx0 cx1 cx2 cx3 cx4 cx5 cx6 cx7 cx8 cx9 cx10 cx11 cx12 cx13
  go_wp2_with fail
  have K := put_e w5 ({ m with data := b }) t (HI.out.1.keep H5.out.1.2) H5.out.2.1
  rw [HPe.out.2] at K
  refine K.mono ?_
  clear K
  rintro e w6 ⟨A6, n6, c6, rfl, hb⟩
  have H6 := Lib.hid (And.intro (H5.out.1.keep hb) (And.intro (H5.out.2.1.keep hb) (And.intro (H5.out.2.2.1.keep hb) (H5.out.2.2.2.keep hb))))
  clear hb cx0 cx1 cx2 cx3 cx4 cx5 cx6 cx7 cx8 cx9 cx10 cx11 cx12 cx13
  have cy0 := H6.out.2.2.2.cell 0
  have cy1 := H6.out.2.2.2.cell 1
  have cy2 := H6.out.2.2.2.cell 2
  have cy3 := H6.out.2.2.2.cell 3
  have cy4 := H6.out.2.2.2.cell 4
  have cy5 := H6.out.2.2.2.cell 5
  have cy6 := H6.out.2.2.2.cell 6
  have cy7 := H6.out.2.2.2.cell 7
  have cy8 := H6.out.2.2.2.cell 8
  have cy9 := H6.out.2.2.2.cell 9
  have cy10 := H6.out.2.2.2.cell 10
  have cy11 := H6.out.2.2.2.cell 11
  have cy12 := H6.out.2.2.2.cell 12
  have cy13 := H6.out.2.2.2.cell 13
  simp [mv] at cy0 cy1 cy2 cy3 cy4 cy5 cy6 cy7 cy8 cy9 cy10 cy11 cy12 cy13
  go_wp2_with ((with_reducible show wpList _ _ _ ((⟨none, .store 27 (.tmp 13) (.tmp 70), _, _, _, _⟩ : Oper) :: _) _ _); refine wpList_store_msg w6 rfl (.tmp 13) (.tmp 70) rfl ({ m with data := b }) t rfl rfl ?_; intro w7 hb7 hw7; have hw8 : Below w6.heap.size w6 (w7.setCell ⟨w6.heap.size, 13, none⟩ (.slice s.da m.data.length s.dk)) := hw7.trans ((Fr.setCell (S := fun k => k = w6.heap.size) (Fr.refl _ w7) (p := ⟨w6.heap.size, 13, none⟩) (fun _ => rfl) _).below hw7.size fun k hk => by omega); have H7 := Lib.hid (And.intro (H6.out.1.keep hw7) hb7); have H8 := Lib.hid (show Bx w bx m s (w7.setCell ⟨w6.heap.size, 13, none⟩ (.slice s.da m.data.length s.dk)) ∧ MIn (w7.setCell ⟨w6.heap.size, 13, none⟩ (.slice s.da m.data.length s.dk)) (w7.setCell ⟨w6.heap.size, 13, none⟩ (.slice s.da m.data.length s.dk)).heap.size ({ m with data := b }) t ∧ Mem.Own (w7.setCell ⟨w6.heap.size, 13, none⟩ (.slice s.da m.data.length s.dk)) w2.heap.size 5 t.da t.dk (({ m with data := b } : Msg).data.map u8v) ∧ Blk (w7.setCell ⟨w6.heap.size, 13, none⟩ (.slice s.da m.data.length s.dk)) gx 27 (mv ({ m with data := b }) t) ∧ Blk (w7.setCell ⟨w6.heap.size, 13, none⟩ (.slice s.da m.data.length s.dk)) w6.heap.size 27 (mv m ⟨t.ia, t.ic, t.na, t.nc, s.da, s.dk⟩) from ⟨H6.out.1.keep hw8, H6.out.2.1.keep hw8, H6.out.2.2.1.keep hw8, H6.out.2.2.2.keep hw8, hb7.set_ 13 _⟩); clear hb7 hw7 hw8 cy0 cy1 cy2 cy3 cy4 cy5 cy6 cy7 cy8 cy9 cy10 cy11 cy12 cy13; obtain ⟨gy, hgy⟩ : ∃ x, w6.heap.size = x := ⟨_, rfl⟩; rw [hgy] at H7 H8 ⊢; clear hgy; have cm13 := H7.out.1.1.cell 13; have cv13 := H7.out.2.cell 13; have zy := H7.out.2.frozen 13; simp [mv] at cm13 cv13; have cz0 := H8.out.2.2.2.2.cell 0; have cz1 := H8.out.2.2.2.2.cell 1; have cz2 := H8.out.2.2.2.2.cell 2; have cz3 := H8.out.2.2.2.2.cell 3; have cz4 := H8.out.2.2.2.2.cell 4; have cz5 := H8.out.2.2.2.2.cell 5; have cz6 := H8.out.2.2.2.2.cell 6; have cz7 := H8.out.2.2.2.2.cell 7; have cz8 := H8.out.2.2.2.2.cell 8; have cz9 := H8.out.2.2.2.2.cell 9; have cz10 := H8.out.2.2.2.2.cell 10; have cz11 := H8.out.2.2.2.2.cell 11; have cz12 := H8.out.2.2.2.2.cell 12; have cz13 := H8.out.2.2.2.2.cell 13; simp [mv] at cz0 cz1 cz2 cz3 cz4 cz5 cz6 cz7 cz8 cz9 cz10 cz11 cz12 cz13; have cu0 := H8.out.1.1.cell 0; have cu1 := H8.out.1.1.cell 1; have cu2 := H8.out.1.1.cell 2; have cu3 := H8.out.1.1.cell 3; have cu4 := H8.out.1.1.cell 4; have cu5 := H8.out.1.1.cell 5; have cu6 := H8.out.1.1.cell 6; have cu7 := H8.out.1.1.cell 7; have cu8 := H8.out.1.1.cell 8; have cu9 := H8.out.1.1.cell 9; have cu10 := H8.out.1.1.cell 10; have cu11 := H8.out.1.1.cell 11; have cu12 := H8.out.1.1.cell 12; have cu13 := H8.out.1.1.cell 13; simp [mv] at cu0 cu1 cu2 cu3 cu4 cu5 cu6 cu7 cu8 cu9 cu10 cu11 cu12 cu13)
  have h8 := H8.out
  clear cm13 cv13 zy cz0 cz1 cz2 cz3 cz4 cz5 cz6 cz7 cz8 cz9 cz10 cz11 cz12 cz13 cu0 cu1 cu2 cu3 cu4 cu5 cu6 cu7 cu8 cu9 cu10 cu11 cu12 cu13
  obtain ⟨w8, hw8⟩ : ∃ x, w7.setCell ⟨gy, 13, none⟩ (.slice s.da m.data.length s.dk) = x := ⟨_, rfl⟩
  rw [hw8] at h8 ⊢
  refine (same_any w8 m m ⟨t.ia, t.ic, t.na, t.nc, s.da, s.dk⟩ s (by
    have h1 := HM.out.keep h8.1.2
    exact ⟨h8.2.1.ids, h8.2.1.nodes, h1.data, h1.kind, h1.lk, h1.li, h1.ln, h1.ld, h1.lik⟩) (HM.out.keep h8.1.2)).mono ?_
  rintro e w9 ⟨rfl, hb⟩
  rw [same_refl]
  have H9 := Lib.hid (And.intro (h8.1.keep hb) (And.intro (h8.2.2.1.keep hb) (h8.2.2.2.1.keep hb)))
  clear hb h8 hw8 H8 H7 H6 H5 H4
  go_wp2_with fail
  obtain ⟨L, hL⟩ : ∃ L, ({ m with data := b } : Msg).data.length = L := ⟨_, rfl⟩
  have HL := Lib.hid hL
  go_loopw [15] (fun i wq => ∃ (j : Nat) (l1 : List UInt8), i = .int .i64 (j : Int) ∧ j ≤ L ∧ l1.length = L ∧ Mem.Own wq w2.heap.size 5 t.da t.dk (l1.map u8v) ∧ Blk wq gx 27 (mv ({ m with data := b }) t) ∧ Bx w bx m s wq) (fun i _ => L - (intOf i).toNat)
  case atStart => exact ⟨0, _, rfl, Nat.zero_le _, hL, H9.out.2.1, H9.out.2.2, H9.out.1⟩
  case round =>
    clear H9
    obtain ⟨j, l1, rfl, hj, hl1, ho, hx, hB⟩ := hrel
    have HX := Lib.hid (And.intro hx (And.intro hB ho))
    have HL1 := Lib.hid hl1
    have cx13 := hx.cell 13
    simp [mv] at cx13
    rw [HL.out] at cx13
    clear hx hB
    by_cases hjl : j < L
    · have hii : (j : Int) < (L : Int) := by omega
      have h0 : (0 : Int) ≤ (j : Int) := by omega
      obtain ⟨g, e, hbg, hlt, hc', hz, hset⟩ := ho.at_ (k := j) (by rw [List.length_map]; omega)
      obtain ⟨x, hx⟩ : ∃ x, l1[j]'(by omega) = x := ⟨_, rfl⟩
      have hc : wr.cell? ⟨g, j, none⟩ = some (.int .u8 (x.toNat : Int)) := by rw [hc', List.getElem_map, hx]; rfl
      have hw : IntKind.u8.wrap ((x.toNat : Int) + 1) = ((x + 1).toNat : Int) := by
        have := x.toNat_lt
        rw [UInt8.toNat_add]
        show ((x.toNat : Int) + 1) % 256 = (((x.toNat + 1) % 256 : Nat) : Int)
        omega
      have HR := Lib.hid (show Mem.Own (wr.setCell ⟨g, j, none⟩ (.int .u8 ((x + 1).toNat : Int))) w2.heap.size 5 t.da t.dk ((l1.set j (x + 1)).map u8v) from by rw [List.map_set]; exact hset _)
      have hfr : Fr (fun k => k = g) wr (wr.setCell ⟨g, j, none⟩ (.int .u8 ((x + 1).toNat : Int))) := (Fr.refl (fun k => k = g) wr).setCell (p := ⟨g, j, none⟩) (fun _ => rfl) _
      have hg2 : bx < w2.heap.size := H2.out.1.lt
      have HN := Lib.hid (show Blk (wr.setCell ⟨g, j, none⟩ (.int .u8 ((x + 1).toNat : Int))) gx 27 (mv ({ m with data := b }) t) ∧ Bx w bx m s (wr.setCell ⟨g, j, none⟩ (.int .u8 ((x + 1).toNat : Int))) from
        ⟨HX.out.1.fr hfr (fun h => HX.out.1.ne_own ho (by decide) g e h.symm), HX.out.2.1.1.fr hfr (by omega), HX.out.2.1.2.trans (hfr.below HX.out.2.1.2.size fun k hk => by have := H2.out.2.size; omega)⟩)
      rw [e] at cx13
      clear hc' hset hx hlt ho hl1 hfr hg2 hL e
      have HT := Lib.hid (And.intro cx13 (And.intro hc hz))
      have HW := Lib.hid (show ((x.toNat : Int) + 1) % 256 = ((x + 1).toNat : Int) from hw)
      have hL3 : L ≤ 3000 := by rw [← HL.out]; first | exact HF.out.2 | exact HD.out
      have hL3 : (L : Int) ≤ 3000 := by omega
      go_wp2_with fail
      refine wp_region_noPanic ?_
      refine wp_heldG (fun V => V.cell? ⟨gx, 13, none⟩ = some (.slice (some ⟨g, 0, none⟩) L t.dk) ∧ V.cell? ⟨g, j, none⟩ = some (.int .u8 (x.toNat : Int)) ∧ V.frozen? ⟨g, j, none⟩ = false) [10] (by kernel_rfl) ?hs0 ?rg0
      case hs0 =>
        exact HT.out
      case rg0 =>
      intro hHeld
      refine puG 0 ⟨some 84, .fieldAddr 27 (.tmp 6) 13, 0, _, #[], none⟩ (v := ?_) ?_ (fun _ => by assumption) ?_
      rotate_left
      · intro w hSw
        try dsimp only at hSw
        go_simp
        try with_reducible rfl
      try simp only [Act.put, List.setIfInBounds_toArray, List.set_cons_zero, List.set_cons_succ]
      refine tkG 1 ⟨some 85, .load 25 (.tmp 84), 25, _, #[⟨0, .data⟩], none⟩ (v := ?_) ?_ (by assumption) ?_
      rotate_left
      · intro w hSw
        try dsimp only at hSw
        go_simp
        try with_reducible rfl
      try simp only [Act.put, List.setIfInBounds_toArray, List.set_cons_zero, List.set_cons_succ]
      refine puG 2 ⟨some 86, .move (.tmp 15), 3, _, #[], none⟩ (v := ?_) ?_ (fun _ => by assumption) ?_
      rotate_left
      · intro w hSw
        try dsimp only at hSw
        go_simp
        try with_reducible rfl
      try simp only [Act.put, List.setIfInBounds_toArray, List.set_cons_zero, List.set_cons_succ]
      refine puG 3 ⟨some 87, .fieldAddr 27 (.tmp 6) 13, 0, _, #[], none⟩ (v := ?_) ?_ (fun _ => by assumption) ?_
      rotate_left
      · intro w hSw
        try dsimp only at hSw
        go_simp
        try with_reducible rfl
      try simp only [Act.put, List.setIfInBounds_toArray, List.set_cons_zero, List.set_cons_succ]
      refine tkG 4 ⟨some 88, .load 25 (.tmp 87), 25, _, #[⟨3, .data⟩], none⟩ (v := ?_) ?_ (by assumption) ?_
      rotate_left
      · intro w hSw
        try dsimp only at hSw
        go_simp
        try with_reducible rfl
      try simp only [Act.put, List.setIfInBounds_toArray, List.set_cons_zero, List.set_cons_succ]
      refine puG 5 ⟨some 89, .move (.tmp 15), 3, _, #[], none⟩ (v := ?_) ?_ (fun _ => by assumption) ?_
      rotate_left
      · intro w hSw
        try dsimp only at hSw
        go_simp
        try with_reducible rfl
      try simp only [Act.put, List.setIfInBounds_toArray, List.set_cons_zero, List.set_cons_succ]
      refine puG 6 ⟨some 90, .indexAddr 25 (.tmp 88) (.tmp 89), 0, _, #[⟨4, .data⟩, ⟨5, .data⟩], none⟩ (v := ?_) ?_ (fun _ => by assumption) ?_
      rotate_left
      · intro w hSw
        try dsimp only at hSw
        go_simp
        try with_reducible rfl
      try simp only [Act.put, List.setIfInBounds_toArray, List.set_cons_zero, List.set_cons_succ]
      refine tkG 7 ⟨some 91, .load 5 (.tmp 90), 5, _, #[⟨6, .data⟩], none⟩ (v := ?_) ?_ (by assumption) ?_
      rotate_left
      · intro w hSw
        try dsimp only at hSw
        go_simp
        try with_reducible rfl
      try simp only [Act.put, List.setIfInBounds_toArray, List.set_cons_zero, List.set_cons_succ]
      refine puG 8 ⟨some 92, .binOp BinOp.add 5 (.tmp 91) (Operand.const (Value.int IntKind.u8 1)) 5, 5, _, #[⟨7, .data⟩], none⟩ (v := ?_) ?_ (fun _ => by assumption) ?_
      rotate_left
      · intro w hSw
        try dsimp only at hSw
        go_simp
        try with_reducible rfl
      try simp only [Act.put, List.setIfInBounds_toArray, List.set_cons_zero, List.set_cons_succ]
      refine puG 9 ⟨some 93, .indexAddr 25 (.tmp 85) (.tmp 86), 0, _, #[⟨1, .data⟩, ⟨2, .data⟩, ⟨0, .phase⟩, ⟨1, .phase⟩, ⟨2, .phase⟩, ⟨3, .phase⟩, ⟨4, .phase⟩, ⟨5, .phase⟩, ⟨6, .phase⟩, ⟨7, .phase⟩, ⟨8, .phase⟩], none⟩ (v := ?_) ?_ (fun _ => by assumption) ?_
      rotate_left
      · intro w hSw
        try dsimp only at hSw
        go_simp
        try with_reducible rfl
      try simp only [Act.put, List.setIfInBounds_toArray, List.set_cons_zero, List.set_cons_succ]
      refine onG 10 ⟨none, .store 5 (.tmp 93) (.tmp 92), 0, _, #[⟨9, .data⟩, ⟨8, .data⟩, ⟨0, .phase⟩, ⟨1, .phase⟩, ⟨2, .phase⟩, ⟨3, .phase⟩, ⟨4, .phase⟩, ⟨5, .phase⟩, ⟨6, .phase⟩, ⟨7, .phase⟩, ⟨8, .phase⟩], none⟩ (fun K hK => ?_)
      have c0 : wr.drew.cell? ⟨g, j, none⟩ = some (.int .u8 (x.toNat : Int)) := HT.out.2.1
      have z0 : wr.drew.frozen? ⟨g, j, none⟩ = false := HT.out.2.2
      go_simp
      try dsimp only
      refine hK.out _ _ ?_ (fun hHeld => ?_)
      · exact fun h => (st_no (by kernel_rfl) h).elim
      clear hK K
      try simp only [Act.put, List.setIfInBounds_toArray, List.set_cons_zero, List.set_cons_succ]
      clear hHeld
      refine wpAnyG_done (by kernel_rfl) ?_ _
      refine NoPanic.normal ?_
      go_wp2_with fail
      go_roundw
      case rel =>
        rw [HW.out]
        exact ⟨j + 1, l1.set j (x + 1), by simp, by omega, by rw [List.length_set]; exact HL1.out, HR.out.keep (nextN (Mem.start _) 1), HN.out.1.keep (nextN (Mem.start _) 1), HN.out.2.keep (nextN (Mem.start _) 1)⟩
      case measure => simp [intOf]; omega
    · obtain rfl : j = L := by omega
      have H10 := Lib.hid HX.out.2.1
      have cm13 := H10.out.1.cell 13
      simp [mv] at cm13
      have es := run_str (P := Tryd.prog) wr 25 5 Tryd.underlying25 Tryd.underlying5 (HI.out.2.1.keep H10.out.2).data s.dk 9 Tryd.underlying9
      clear hL ho hl1
      by_cases hp : p1 = 0
      · have hp2 := HP.out hp
        clear HP
        subst hp
        subst hp2
        go_wp2_with fail
        refine (works_any wr (HI.out.1.keep H10.out.2)).mono ?_
        rintro e w11 ⟨rfl, hb⟩
        have H11 := Lib.hid (next H10.out.2 hb)
        clear hb
        go_wp2_with fail
        go_ret
        exact ⟨rfl, H11.out⟩
      · have dp : (p1 != 0) = true := by rw [bne_iff_ne]; exact hp
        clear hp HP
        go_wp2_with fail
        refine (works_any wr (HI.out.1.keep H10.out.2)).mono ?_
        rintro e w11 ⟨rfl, hb⟩
        have H11 := Lib.hid (next H10.out.2 hb)
        clear hb
        go_wp2_with fail
        go_ret
        exact ⟨rfl, H11.out⟩
set_option maxRecDepth 100000 in
set_option maxHeartbeats 16000000 in
theorem lies_b (w : World) (hT : HasT w) (m : Msg) (s : Sl) (hm : MIn0 w w.heap.size m s) (A : Option Addr) (b : List UInt8) (c : Nat) (hb : Bytes w w.heap.size A b) (hf : few m = true) (hbl : b.length ≤ 3000) (hk : m.kind = 20) :
    Calls Tryd.prog 7 #[.agg (mv m s), .slice A b.length c] w fun e w' => e = .returned (.bool true) ∧ Below w.heap.size w w' := by
  obtain ⟨bx, hbx⟩ : ∃ bx, w.heap.size = bx := ⟨_, rfl⟩
  obtain ⟨w1, hw1⟩ : ∃ x : World, w.alloc (.cells (mv m s) 27) = x := ⟨_, rfl⟩
  have hb1 : Below w.heap.size w w1 := by rw [← hw1]; exact nextA (Mem.start w) _
  have H1 := Lib.hid (show Bx w bx m s w1 by
    rw [← hw1, ← hbx]
    exact ⟨Blk.new w _ _, nextA (Mem.start w) _⟩)
  have HI := Lib.hid (And.intro hT (And.intro hm hb))
  have HF := Lib.hid (And.intro hf hbl)
  have HM := Lib.hid (hm.small hf)
  have HK := Lib.hid (show tells m.kind = true ∧ lie m b = { m with data := b } by
    have h1 : tells m.kind = true := by simp [tells, *]
    exact ⟨h1, by unfold lie; rw [h1]; rfl⟩)
  obtain ⟨p1, hp1⟩ : ∃ p1, pe m = p1 := ⟨_, rfl⟩
  obtain ⟨p2, hp2⟩ : ∃ p2, pe ({ m with data := b }) = p2 := ⟨_, rfl⟩
  have HPe := Lib.hid (And.intro hp1 hp2)
  have HP := Lib.hid (show p1 = 0 → p2 = 0 by
    have h := may_lie m b hbl
    first
    | (rw [HK.out.2, hp1, hp2] at h; exact h)
    | (intro h0; rw [← hp2, hp1]; exact h0))
  clear hp1 hp2
  have HD := Lib.hid (show m.data.length ≤ 3000 from ((few_iff m).1 hf).2.2.1)
  have e9 : ((m.kind : Int) == 9) = false := by rw [beq_eq_false_iff_ne]; omega
  have e20 : ((m.kind : Int) == 20) = true := by rw [beq_iff_eq]; omega
  have dl : decide ((3000 : Int) < ((b.length : Nat) : Int)) = false := decide_eq_false (by omega)
  have ca0 := H1.out.1.cell 0
  have ca1 := H1.out.1.cell 1
  have ca2 := H1.out.1.cell 2
  have ca3 := H1.out.1.cell 3
  have ca4 := H1.out.1.cell 4
  have ca5 := H1.out.1.cell 5
  have ca6 := H1.out.1.cell 6
  have ca7 := H1.out.1.cell 7
  have ca8 := H1.out.1.cell 8
  have ca9 := H1.out.1.cell 9
  have ca10 := H1.out.1.cell 10
  have ca11 := H1.out.1.cell 11
  have ca12 := H1.out.1.cell 12
  have ca13 := H1.out.1.cell 13
  simp [mv] at ca0 ca1 ca2 ca3 ca4 ca5 ca6 ca7 ca8 ca9 ca10 ca11 ca12 ca13
  clear hT hm hb hb1 hf hbl hk
  go_enter Tryd.func7, Tryd.ntmps7
  go_wp2_with fail
  refine (few_any w1 m s (HI.out.2.1.keep H1.out.2)).mono ?_
  rintro e w2 ⟨rfl, hb⟩
  rw [HF.out.1]
  have H2 := Lib.hid (H1.out.keep hb)
  have HB2 := Lib.hid (HI.out.2.1.keep H2.out.2).data
  have es := run_str (P := Tryd.prog) w2 25 5 Tryd.underlying25 Tryd.underlying5 HB2.out s.dk 9 Tryd.underlying9
  clear hb ca0 ca1 ca2 ca3 ca4 ca5 ca6 ca7 ca8 ca9 ca10 ca11 ca12 ca13 hw1 hbx
  have cb0 := H2.out.1.cell 0
  have cb1 := H2.out.1.cell 1
  have cb2 := H2.out.1.cell 2
  have cb3 := H2.out.1.cell 3
  have cb4 := H2.out.1.cell 4
  have cb5 := H2.out.1.cell 5
  have cb6 := H2.out.1.cell 6
  have cb7 := H2.out.1.cell 7
  have cb8 := H2.out.1.cell 8
  have cb9 := H2.out.1.cell 9
  have cb10 := H2.out.1.cell 10
  have cb11 := H2.out.1.cell 11
  have cb12 := H2.out.1.cell 12
  have cb13 := H2.out.1.cell 13
  simp [mv] at cb0 cb1 cb2 cb3 cb4 cb5 cb6 cb7 cb8 cb9 cb10 cb11 cb12 cb13
  go_wp2_with fail
  refine (lie_any w2 m s (HM.out.keep H2.out.2) A b b.length c rfl (by have := HF.out.2; omega) ((HI.out.2.2.below H2.out.2).up H2.out.2.size)).mono ?_
  rintro e w3 ⟨t, rfl, hM, ho, hb⟩
  rw [HK.out.2] at hM ho ⊢
  have H3 := Lib.hid (And.intro (H2.out.keep hb) (And.intro hM ho))
  clear hM ho hb es cb0 cb1 cb2 cb3 cb4 cb5 cb6 cb7 cb8 cb9 cb10 cb11 cb12 cb13
  go_wp2_with ((with_reducible show wpList _ _ _ ((⟨none, .store 27 (.tmp 6) (.tmp 30), _, _, _, _⟩ : Oper) :: _) _ _); refine wpList_store_msg w3 rfl (.tmp 6) (.tmp 30) rfl ({ m with data := b }) t rfl rfl ?_; intro w4 hb4 hw4; have H4 := Lib.hid (And.intro (H3.out.1.keep hw4) (And.intro (H3.out.2.1.keep hw4) (And.intro (H3.out.2.2.keep hw4) hb4))); clear hb4 hw4; obtain ⟨gx, hgx⟩ : ∃ x, w3.heap.size = x := ⟨_, rfl⟩; rw [hgx] at H4 ⊢; have HG := Lib.hid hgx; clear hgx; have c0 := H4.out.1.1.cell 0; simp [mv] at c0)
  refine (tells_any w4 m.kind).mono ?_
  rintro e w5 ⟨rfl, rfl⟩
  rw [HK.out.1]
  have cc0 := H4.out.1.1.cell 0
  have cc1 := H4.out.1.1.cell 1
  have cc2 := H4.out.1.1.cell 2
  have cc3 := H4.out.1.1.cell 3
  have cc4 := H4.out.1.1.cell 4
  have cc5 := H4.out.1.1.cell 5
  have cc6 := H4.out.1.1.cell 6
  have cc7 := H4.out.1.1.cell 7
  have cc8 := H4.out.1.1.cell 8
  have cc9 := H4.out.1.1.cell 9
  have cc10 := H4.out.1.1.cell 10
  have cc11 := H4.out.1.1.cell 11
  have cc12 := H4.out.1.1.cell 12
  have cc13 := H4.out.1.1.cell 13
  simp [mv] at cc0 cc1 cc2 cc3 cc4 cc5 cc6 cc7 cc8 cc9 cc10 cc11 cc12 cc13
  have cx13 := H4.out.2.2.2.cell 13
  simp [mv] at cx13
  have es := run_str (P := Tryd.prog) w4 25 5 Tryd.underlying25 Tryd.underlying5 (HI.out.2.1.keep H4.out.1.2).data s.dk 9 Tryd.underlying9
  have eb := run_str (P := Tryd.prog) w4 25 5 Tryd.underlying25 Tryd.underlying5 (HI.out.2.2.below H4.out.1.2) c 9 Tryd.underlying9
  have ex := run_str (P := Tryd.prog) w4 25 5 Tryd.underlying25 Tryd.underlying5 H4.out.2.1.data t.dk 9 Tryd.underlying9
  go_wp2_with fail
  have K := put_e w4 m s (HI.out.1.keep H4.out.1.2) (HM.out.keep H4.out.1.2)
  rw [HPe.out.1] at K
  refine K.mono ?_
  clear K
  rintro e w5 ⟨A5, n5, c5, rfl, hb⟩
  have H5 := Lib.hid (And.intro (H4.out.1.keep hb) (And.intro (H4.out.2.1.keep hb) (And.intro (H4.out.2.2.1.keep hb) (H4.out.2.2.2.keep hb))))
  clear hb cc0 cc1 cc2 cc3 cc4 cc5 cc6 cc7 cc8 cc9 cc10 cc11 cc12 cc13 cx13 es eb ex
  have cx0 := H5.out.2.2.2.cell 0
  have cx1 := H5.out.2.2.2.cell 1
  have cx2 := H5.out.2.2.2.cell 2
  have cx3 := H5.out.2.2.2.cell 3
  have cx4 := H5.out.2.2.2.cell 4
  have cx5 := H5.out.2.2.2.cell 5
  have cx6 := H5.out.2.2.2.cell 6
  have cx7 := H5.out.2.2.2.cell 7
  have cx8 := H5.out.2.2.2.cell 8
  have cx9 := H5.out.2.2.2.cell 9
  have cx10 := H5.out.2.2.2.cell 10
  have cx11 := H5.out.2.2.2.cell 11
  have cx12 := H5.out.2.2.2.cell 12
  have cx13 := H5.out.2.2.2.cell 13
  simp [mv] at cx0 cx1 cx2 cx3 cx4 cx5 cx6 cx7 cx8 cx9 cx10 cx11 cx12 cx13
  go_wp2_with fail
  have K := put_e w5 ({ m with data := b }) t (HI.out.1.keep H5.out.1.2) H5.out.2.1
  rw [HPe.out.2] at K
  refine K.mono ?_
  clear K
  rintro e w6 ⟨A6, n6, c6, rfl, hb⟩
  have H6 := Lib.hid (And.intro (H5.out.1.keep hb) (And.intro (H5.out.2.1.keep hb) (And.intro (H5.out.2.2.1.keep hb) (H5.out.2.2.2.keep hb))))
  clear hb cx0 cx1 cx2 cx3 cx4 cx5 cx6 cx7 cx8 cx9 cx10 cx11 cx12 cx13
  have cy0 := H6.out.2.2.2.cell 0
  have cy1 := H6.out.2.2.2.cell 1
  have cy2 := H6.out.2.2.2.cell 2
  have cy3 := H6.out.2.2.2.cell 3
  have cy4 := H6.out.2.2.2.cell 4
  have cy5 := H6.out.2.2.2.cell 5
  have cy6 := H6.out.2.2.2.cell 6
  have cy7 := H6.out.2.2.2.cell 7
  have cy8 := H6.out.2.2.2.cell 8
  have cy9 := H6.out.2.2.2.cell 9
  have cy10 := H6.out.2.2.2.cell 10
  have cy11 := H6.out.2.2.2.cell 11
  have cy12 := H6.out.2.2.2.cell 12
  have cy13 := H6.out.2.2.2.cell 13
  simp [mv] at cy0 cy1 cy2 cy3 cy4 cy5 cy6 cy7 cy8 cy9 cy10 cy11 cy12 cy13
  go_wp2_with ((with_reducible show wpList _ _ _ ((⟨none, .store 27 (.tmp 13) (.tmp 70), _, _, _, _⟩ : Oper) :: _) _ _); refine wpList_store_msg w6 rfl (.tmp 13) (.tmp 70) rfl ({ m with data := b }) t rfl rfl ?_; intro w7 hb7 hw7; have hw8 : Below w6.heap.size w6 (w7.setCell ⟨w6.heap.size, 13, none⟩ (.slice s.da m.data.length s.dk)) := hw7.trans ((Fr.setCell (S := fun k => k = w6.heap.size) (Fr.refl _ w7) (p := ⟨w6.heap.size, 13, none⟩) (fun _ => rfl) _).below hw7.size fun k hk => by omega); have H7 := Lib.hid (And.intro (H6.out.1.keep hw7) hb7); have H8 := Lib.hid (show Bx w bx m s (w7.setCell ⟨w6.heap.size, 13, none⟩ (.slice s.da m.data.length s.dk)) ∧ MIn (w7.setCell ⟨w6.heap.size, 13, none⟩ (.slice s.da m.data.length s.dk)) (w7.setCell ⟨w6.heap.size, 13, none⟩ (.slice s.da m.data.length s.dk)).heap.size ({ m with data := b }) t ∧ Mem.Own (w7.setCell ⟨w6.heap.size, 13, none⟩ (.slice s.da m.data.length s.dk)) w2.heap.size 5 t.da t.dk (({ m with data := b } : Msg).data.map u8v) ∧ Blk (w7.setCell ⟨w6.heap.size, 13, none⟩ (.slice s.da m.data.length s.dk)) gx 27 (mv ({ m with data := b }) t) ∧ Blk (w7.setCell ⟨w6.heap.size, 13, none⟩ (.slice s.da m.data.length s.dk)) w6.heap.size 27 (mv m ⟨t.ia, t.ic, t.na, t.nc, s.da, s.dk⟩) from ⟨H6.out.1.keep hw8, H6.out.2.1.keep hw8, H6.out.2.2.1.keep hw8, H6.out.2.2.2.keep hw8, hb7.set_ 13 _⟩); clear hb7 hw7 hw8 cy0 cy1 cy2 cy3 cy4 cy5 cy6 cy7 cy8 cy9 cy10 cy11 cy12 cy13; obtain ⟨gy, hgy⟩ : ∃ x, w6.heap.size = x := ⟨_, rfl⟩; rw [hgy] at H7 H8 ⊢; clear hgy; have cm13 := H7.out.1.1.cell 13; have cv13 := H7.out.2.cell 13; have zy := H7.out.2.frozen 13; simp [mv] at cm13 cv13; have cz0 := H8.out.2.2.2.2.cell 0; have cz1 := H8.out.2.2.2.2.cell 1; have cz2 := H8.out.2.2.2.2.cell 2; have cz3 := H8.out.2.2.2.2.cell 3; have cz4 := H8.out.2.2.2.2.cell 4; have cz5 := H8.out.2.2.2.2.cell 5; have cz6 := H8.out.2.2.2.2.cell 6; have cz7 := H8.out.2.2.2.2.cell 7; have cz8 := H8.out.2.2.2.2.cell 8; have cz9 := H8.out.2.2.2.2.cell 9; have cz10 := H8.out.2.2.2.2.cell 10; have cz11 := H8.out.2.2.2.2.cell 11; have cz12 := H8.out.2.2.2.2.cell 12; have cz13 := H8.out.2.2.2.2.cell 13; simp [mv] at cz0 cz1 cz2 cz3 cz4 cz5 cz6 cz7 cz8 cz9 cz10 cz11 cz12 cz13; have cu0 := H8.out.1.1.cell 0; have cu1 := H8.out.1.1.cell 1; have cu2 := H8.out.1.1.cell 2; have cu3 := H8.out.1.1.cell 3; have cu4 := H8.out.1.1.cell 4; have cu5 := H8.out.1.1.cell 5; have cu6 := H8.out.1.1.cell 6; have cu7 := H8.out.1.1.cell 7; have cu8 := H8.out.1.1.cell 8; have cu9 := H8.out.1.1.cell 9; have cu10 := H8.out.1.1.cell 10; have cu11 := H8.out.1.1.cell 11; have cu12 := H8.out.1.1.cell 12; have cu13 := H8.out.1.1.cell 13; simp [mv] at cu0 cu1 cu2 cu3 cu4 cu5 cu6 cu7 cu8 cu9 cu10 cu11 cu12 cu13)
  have h8 := H8.out
  clear cm13 cv13 zy cz0 cz1 cz2 cz3 cz4 cz5 cz6 cz7 cz8 cz9 cz10 cz11 cz12 cz13 cu0 cu1 cu2 cu3 cu4 cu5 cu6 cu7 cu8 cu9 cu10 cu11 cu12 cu13
  obtain ⟨w8, hw8⟩ : ∃ x, w7.setCell ⟨gy, 13, none⟩ (.slice s.da m.data.length s.dk) = x := ⟨_, rfl⟩
  rw [hw8] at h8 ⊢
  refine (same_any w8 m m ⟨t.ia, t.ic, t.na, t.nc, s.da, s.dk⟩ s (by
    have h1 := HM.out.keep h8.1.2
    exact ⟨h8.2.1.ids, h8.2.1.nodes, h1.data, h1.kind, h1.lk, h1.li, h1.ln, h1.ld, h1.lik⟩) (HM.out.keep h8.1.2)).mono ?_
  rintro e w9 ⟨rfl, hb⟩
  rw [same_refl]
  have H9 := Lib.hid (And.intro (h8.1.keep hb) (And.intro (h8.2.2.1.keep hb) (h8.2.2.2.1.keep hb)))
  clear hb h8 hw8 H8 H7 H6 H5 H4
  go_wp2_with fail
  obtain ⟨L, hL⟩ : ∃ L, ({ m with data := b } : Msg).data.length = L := ⟨_, rfl⟩
  have HL := Lib.hid hL
  go_loopw [15] (fun i wq => ∃ (j : Nat) (l1 : List UInt8), i = .int .i64 (j : Int) ∧ j ≤ L ∧ l1.length = L ∧ Mem.Own wq w2.heap.size 5 t.da t.dk (l1.map u8v) ∧ Blk wq gx 27 (mv ({ m with data := b }) t) ∧ Bx w bx m s wq) (fun i _ => L - (intOf i).toNat)
  case atStart => exact ⟨0, _, rfl, Nat.zero_le _, hL, H9.out.2.1, H9.out.2.2, H9.out.1⟩
  case round =>
    clear H9
    obtain ⟨j, l1, rfl, hj, hl1, ho, hx, hB⟩ := hrel
    have HX := Lib.hid (And.intro hx (And.intro hB ho))
    have HL1 := Lib.hid hl1
    have cx13 := hx.cell 13
    simp [mv] at cx13
    rw [HL.out] at cx13
    clear hx hB
    by_cases hjl : j < L
    · have hii : (j : Int) < (L : Int) := by omega
      have h0 : (0 : Int) ≤ (j : Int) := by omega
      obtain ⟨g, e, hbg, hlt, hc', hz, hset⟩ := ho.at_ (k := j) (by rw [List.length_map]; omega)
      obtain ⟨x, hx⟩ : ∃ x, l1[j]'(by omega) = x := ⟨_, rfl⟩
      have hc : wr.cell? ⟨g, j, none⟩ = some (.int .u8 (x.toNat : Int)) := by rw [hc', List.getElem_map, hx]; rfl
      have hw : IntKind.u8.wrap ((x.toNat : Int) + 1) = ((x + 1).toNat : Int) := by
        have := x.toNat_lt
        rw [UInt8.toNat_add]
        show ((x.toNat : Int) + 1) % 256 = (((x.toNat + 1) % 256 : Nat) : Int)
        omega
      have HR := Lib.hid (show Mem.Own (wr.setCell ⟨g, j, none⟩ (.int .u8 ((x + 1).toNat : Int))) w2.heap.size 5 t.da t.dk ((l1.set j (x + 1)).map u8v) from by rw [List.map_set]; exact hset _)
      have hfr : Fr (fun k => k = g) wr (wr.setCell ⟨g, j, none⟩ (.int .u8 ((x + 1).toNat : Int))) := (Fr.refl (fun k => k = g) wr).setCell (p := ⟨g, j, none⟩) (fun _ => rfl) _
      have hg2 : bx < w2.heap.size := H2.out.1.lt
      have HN := Lib.hid (show Blk (wr.setCell ⟨g, j, none⟩ (.int .u8 ((x + 1).toNat : Int))) gx 27 (mv ({ m with data := b }) t) ∧ Bx w bx m s (wr.setCell ⟨g, j, none⟩ (.int .u8 ((x + 1).toNat : Int))) from
        ⟨HX.out.1.fr hfr (fun h => HX.out.1.ne_own ho (by decide) g e h.symm), HX.out.2.1.1.fr hfr (by omega), HX.out.2.1.2.trans (hfr.below HX.out.2.1.2.size fun k hk => by have := H2.out.2.size; omega)⟩)
      rw [e] at cx13
      clear hc' hset hx hlt ho hl1 hfr hg2 hL e
      have HT := Lib.hid (And.intro cx13 (And.intro hc hz))
      have HW := Lib.hid (show ((x.toNat : Int) + 1) % 256 = ((x + 1).toNat : Int) from hw)
      have hL3 : L ≤ 3000 := by rw [← HL.out]; first | exact HF.out.2 | exact HD.out
      have hL3 : (L : Int) ≤ 3000 := by omega
      go_wp2_with fail
      refine wp_region_noPanic ?_
      refine wp_heldG (fun V => V.cell? ⟨gx, 13, none⟩ = some (.slice (some ⟨g, 0, none⟩) L t.dk) ∧ V.cell? ⟨g, j, none⟩ = some (.int .u8 (x.toNat : Int)) ∧ V.frozen? ⟨g, j, none⟩ = false) [10] (by kernel_rfl) ?hs0 ?rg0
      case hs0 =>
        exact HT.out
      case rg0 =>
      intro hHeld
      refine puG 0 ⟨some 84, .fieldAddr 27 (.tmp 6) 13, 0, _, #[], none⟩ (v := ?_) ?_ (fun _ => by assumption) ?_
      rotate_left
      · intro w hSw
        try dsimp only at hSw
        go_simp
        try with_reducible rfl
      try simp only [Act.put, List.setIfInBounds_toArray, List.set_cons_zero, List.set_cons_succ]
      refine tkG 1 ⟨some 85, .load 25 (.tmp 84), 25, _, #[⟨0, .data⟩], none⟩ (v := ?_) ?_ (by assumption) ?_
      rotate_left
      · intro w hSw
        try dsimp only at hSw
        go_simp
        try with_reducible rfl
      try simp only [Act.put, List.setIfInBounds_toArray, List.set_cons_zero, List.set_cons_succ]
      refine puG 2 ⟨some 86, .move (.tmp 15), 3, _, #[], none⟩ (v := ?_) ?_ (fun _ => by assumption) ?_
      rotate_left
      · intro w hSw
        try dsimp only at hSw
        go_simp
        try with_reducible rfl
      try simp only [Act.put, List.setIfInBounds_toArray, List.set_cons_zero, List.set_cons_succ]
      refine puG 3 ⟨some 87, .fieldAddr 27 (.tmp 6) 13, 0, _, #[], none⟩ (v := ?_) ?_ (fun _ => by assumption) ?_
      rotate_left
      · intro w hSw
        try dsimp only at hSw
        go_simp
        try with_reducible rfl
      try simp only [Act.put, List.setIfInBounds_toArray, List.set_cons_zero, List.set_cons_succ]
      refine tkG 4 ⟨some 88, .load 25 (.tmp 87), 25, _, #[⟨3, .data⟩], none⟩ (v := ?_) ?_ (by assumption) ?_
      rotate_left
      · intro w hSw
        try dsimp only at hSw
        go_simp
        try with_reducible rfl
      try simp only [Act.put, List.setIfInBounds_toArray, List.set_cons_zero, List.set_cons_succ]
      refine puG 5 ⟨some 89, .move (.tmp 15), 3, _, #[], none⟩ (v := ?_) ?_ (fun _ => by assumption) ?_
      rotate_left
      · intro w hSw
        try dsimp only at hSw
        go_simp
        try with_reducible rfl
      try simp only [Act.put, List.setIfInBounds_toArray, List.set_cons_zero, List.set_cons_succ]
      refine puG 6 ⟨some 90, .indexAddr 25 (.tmp 88) (.tmp 89), 0, _, #[⟨4, .data⟩, ⟨5, .data⟩], none⟩ (v := ?_) ?_ (fun _ => by assumption) ?_
      rotate_left
      · intro w hSw
        try dsimp only at hSw
        go_simp
        try with_reducible rfl
      try simp only [Act.put, List.setIfInBounds_toArray, List.set_cons_zero, List.set_cons_succ]
      refine tkG 7 ⟨some 91, .load 5 (.tmp 90), 5, _, #[⟨6, .data⟩], none⟩ (v := ?_) ?_ (by assumption) ?_
      rotate_left
      · intro w hSw
        try dsimp only at hSw
        go_simp
        try with_reducible rfl
      try simp only [Act.put, List.setIfInBounds_toArray, List.set_cons_zero, List.set_cons_succ]
      refine puG 8 ⟨some 92, .binOp BinOp.add 5 (.tmp 91) (Operand.const (Value.int IntKind.u8 1)) 5, 5, _, #[⟨7, .data⟩], none⟩ (v := ?_) ?_ (fun _ => by assumption) ?_
      rotate_left
      · intro w hSw
        try dsimp only at hSw
        go_simp
        try with_reducible rfl
      try simp only [Act.put, List.setIfInBounds_toArray, List.set_cons_zero, List.set_cons_succ]
      refine puG 9 ⟨some 93, .indexAddr 25 (.tmp 85) (.tmp 86), 0, _, #[⟨1, .data⟩, ⟨2, .data⟩, ⟨0, .phase⟩, ⟨1, .phase⟩, ⟨2, .phase⟩, ⟨3, .phase⟩, ⟨4, .phase⟩, ⟨5, .phase⟩, ⟨6, .phase⟩, ⟨7, .phase⟩, ⟨8, .phase⟩], none⟩ (v := ?_) ?_ (fun _ => by assumption) ?_
      rotate_left
      · intro w hSw
        try dsimp only at hSw
        go_simp
        try with_reducible rfl
      try simp only [Act.put, List.setIfInBounds_toArray, List.set_cons_zero, List.set_cons_succ]
      refine onG 10 ⟨none, .store 5 (.tmp 93) (.tmp 92), 0, _, #[⟨9, .data⟩, ⟨8, .data⟩, ⟨0, .phase⟩, ⟨1, .phase⟩, ⟨2, .phase⟩, ⟨3, .phase⟩, ⟨4, .phase⟩, ⟨5, .phase⟩, ⟨6, .phase⟩, ⟨7, .phase⟩, ⟨8, .phase⟩], none⟩ (fun K hK => ?_)
      have c0 : wr.drew.cell? ⟨g, j, none⟩ = some (.int .u8 (x.toNat : Int)) := HT.out.2.1
      have z0 : wr.drew.frozen? ⟨g, j, none⟩ = false := HT.out.2.2
      go_simp
      try dsimp only
      refine hK.out _ _ ?_ (fun hHeld => ?_)
      · exact fun h => (st_no (by kernel_rfl) h).elim
      clear hK K
      try simp only [Act.put, List.setIfInBounds_toArray, List.set_cons_zero, List.set_cons_succ]
      clear hHeld
      refine wpAnyG_done (by kernel_rfl) ?_ _
      refine NoPanic.normal ?_
      go_wp2_with fail
      go_roundw
      case rel =>
        rw [HW.out]
        exact ⟨j + 1, l1.set j (x + 1), by simp, by omega, by rw [List.length_set]; exact HL1.out, HR.out.keep (nextN (Mem.start _) 1), HN.out.1.keep (nextN (Mem.start _) 1), HN.out.2.keep (nextN (Mem.start _) 1)⟩
      case measure => simp [intOf]; omega
    · obtain rfl : j = L := by omega
      have H10 := Lib.hid HX.out.2.1
      have cm13 := H10.out.1.cell 13
      simp [mv] at cm13
      have es := run_str (P := Tryd.prog) wr 25 5 Tryd.underlying25 Tryd.underlying5 (HI.out.2.1.keep H10.out.2).data s.dk 9 Tryd.underlying9
      clear hL ho hl1
      by_cases hp : p1 = 0
      · have hp2 := HP.out hp
        clear HP
        subst hp
        subst hp2
        go_wp2_with fail
        refine (works_any wr (HI.out.1.keep H10.out.2)).mono ?_
        rintro e w11 ⟨rfl, hb⟩
        have H11 := Lib.hid (next H10.out.2 hb)
        clear hb
        go_wp2_with fail
        go_ret
        exact ⟨rfl, H11.out⟩
      · have dp : (p1 != 0) = true := by rw [bne_iff_ne]; exact hp
        clear hp HP
        go_wp2_with fail
        refine (works_any wr (HI.out.1.keep H10.out.2)).mono ?_
        rintro e w11 ⟨rfl, hb⟩
        have H11 := Lib.hid (next H10.out.2 hb)
        clear hb
        go_wp2_with fail
        go_ret
        exact ⟨rfl, H11.out⟩
set_option maxRecDepth 100000 in
set_option maxHeartbeats 16000000 in
theorem lies_c (w : World) (hT : HasT w) (m : Msg) (s : Sl) (hm : MIn0 w w.heap.size m s) (A : Option Addr) (b : List UInt8) (c : Nat) (hb : Bytes w w.heap.size A b) (hf : few m = true) (hbl : b.length ≤ 3000) (hk : ¬ m.kind = 9 ∧ ¬ m.kind = 20) :
    Calls Tryd.prog 7 #[.agg (mv m s), .slice A b.length c] w fun e w' => e = .returned (.bool true) ∧ Below w.heap.size w w' := by
  obtain ⟨bx, hbx⟩ : ∃ bx, w.heap.size = bx := ⟨_, rfl⟩
  obtain ⟨w1, hw1⟩ : ∃ x : World, w.alloc (.cells (mv m s) 27) = x := ⟨_, rfl⟩
  have hb1 : Below w.heap.size w w1 := by rw [← hw1]; exact nextA (Mem.start w) _
  have H1 := Lib.hid (show Bx w bx m s w1 by
    rw [← hw1, ← hbx]
    exact ⟨Blk.new w _ _, nextA (Mem.start w) _⟩)
  have HI := Lib.hid (And.intro hT (And.intro hm hb))
  have HF := Lib.hid (And.intro hf hbl)
  have HM := Lib.hid (hm.small hf)
  have HK := Lib.hid (show tells m.kind = false ∧ lie m b = m by
    have h1 : tells m.kind = false := by simp [tells, *]
    exact ⟨h1, by unfold lie; rw [h1]; rfl⟩)
  obtain ⟨p1, hp1⟩ : ∃ p1, pe m = p1 := ⟨_, rfl⟩
  obtain ⟨p2, hp2⟩ : ∃ p2, pe (m) = p2 := ⟨_, rfl⟩
  have HPe := Lib.hid (And.intro hp1 hp2)
  have HP := Lib.hid (show p1 = 0 → p2 = 0 by
    have h := may_lie m b hbl
    first
    | (rw [HK.out.2, hp1, hp2] at h; exact h)
    | (intro h0; rw [← hp2, hp1]; exact h0))
  clear hp1 hp2
  have HD := Lib.hid (show m.data.length ≤ 3000 from ((few_iff m).1 hf).2.2.1)
  have e9 : ((m.kind : Int) == 9) = false := by rw [beq_eq_false_iff_ne]; omega
  have e20 : ((m.kind : Int) == 20) = false := by rw [beq_eq_false_iff_ne]; omega
  have dl : decide ((3000 : Int) < ((b.length : Nat) : Int)) = false := decide_eq_false (by omega)
  have ca0 := H1.out.1.cell 0
  have ca1 := H1.out.1.cell 1
  have ca2 := H1.out.1.cell 2
  have ca3 := H1.out.1.cell 3
  have ca4 := H1.out.1.cell 4
  have ca5 := H1.out.1.cell 5
  have ca6 := H1.out.1.cell 6
  have ca7 := H1.out.1.cell 7
  have ca8 := H1.out.1.cell 8
  have ca9 := H1.out.1.cell 9
  have ca10 := H1.out.1.cell 10
  have ca11 := H1.out.1.cell 11
  have ca12 := H1.out.1.cell 12
  have ca13 := H1.out.1.cell 13
  simp [mv] at ca0 ca1 ca2 ca3 ca4 ca5 ca6 ca7 ca8 ca9 ca10 ca11 ca12 ca13
  clear hT hm hb hb1 hf hbl hk
  go_enter Tryd.func7, Tryd.ntmps7
  go_wp2_with fail
  refine (few_any w1 m s (HI.out.2.1.keep H1.out.2)).mono ?_
  rintro e w2 ⟨rfl, hb⟩
  rw [HF.out.1]
  have H2 := Lib.hid (H1.out.keep hb)
  have HB2 := Lib.hid (HI.out.2.1.keep H2.out.2).data
  have es := run_str (P := Tryd.prog) w2 25 5 Tryd.underlying25 Tryd.underlying5 HB2.out s.dk 9 Tryd.underlying9
  clear hb ca0 ca1 ca2 ca3 ca4 ca5 ca6 ca7 ca8 ca9 ca10 ca11 ca12 ca13 hw1 hbx
  have cb0 := H2.out.1.cell 0
  have cb1 := H2.out.1.cell 1
  have cb2 := H2.out.1.cell 2
  have cb3 := H2.out.1.cell 3
  have cb4 := H2.out.1.cell 4
  have cb5 := H2.out.1.cell 5
  have cb6 := H2.out.1.cell 6
  have cb7 := H2.out.1.cell 7
  have cb8 := H2.out.1.cell 8
  have cb9 := H2.out.1.cell 9
  have cb10 := H2.out.1.cell 10
  have cb11 := H2.out.1.cell 11
  have cb12 := H2.out.1.cell 12
  have cb13 := H2.out.1.cell 13
  simp [mv] at cb0 cb1 cb2 cb3 cb4 cb5 cb6 cb7 cb8 cb9 cb10 cb11 cb12 cb13
  go_wp2_with fail
  refine (lie_any w2 m s (HM.out.keep H2.out.2) A b b.length c rfl (by have := HF.out.2; omega) ((HI.out.2.2.below H2.out.2).up H2.out.2.size)).mono ?_
  rintro e w3 ⟨t, rfl, hM, ho, hb⟩
  rw [HK.out.2] at hM ho ⊢
  have H3 := Lib.hid (And.intro (H2.out.keep hb) (And.intro hM ho))
  clear hM ho hb es cb0 cb1 cb2 cb3 cb4 cb5 cb6 cb7 cb8 cb9 cb10 cb11 cb12 cb13
  go_wp2_with ((with_reducible show wpList _ _ _ ((⟨none, .store 27 (.tmp 6) (.tmp 30), _, _, _, _⟩ : Oper) :: _) _ _); refine wpList_store_msg w3 rfl (.tmp 6) (.tmp 30) rfl (m) t rfl rfl ?_; intro w4 hb4 hw4; have H4 := Lib.hid (And.intro (H3.out.1.keep hw4) (And.intro (H3.out.2.1.keep hw4) (And.intro (H3.out.2.2.keep hw4) hb4))); clear hb4 hw4; obtain ⟨gx, hgx⟩ : ∃ x, w3.heap.size = x := ⟨_, rfl⟩; rw [hgx] at H4 ⊢; have HG := Lib.hid hgx; clear hgx; have c0 := H4.out.1.1.cell 0; simp [mv] at c0)
  refine (tells_any w4 m.kind).mono ?_
  rintro e w5 ⟨rfl, rfl⟩
  rw [HK.out.1]
  have cc0 := H4.out.1.1.cell 0
  have cc1 := H4.out.1.1.cell 1
  have cc2 := H4.out.1.1.cell 2
  have cc3 := H4.out.1.1.cell 3
  have cc4 := H4.out.1.1.cell 4
  have cc5 := H4.out.1.1.cell 5
  have cc6 := H4.out.1.1.cell 6
  have cc7 := H4.out.1.1.cell 7
  have cc8 := H4.out.1.1.cell 8
  have cc9 := H4.out.1.1.cell 9
  have cc10 := H4.out.1.1.cell 10
  have cc11 := H4.out.1.1.cell 11
  have cc12 := H4.out.1.1.cell 12
  have cc13 := H4.out.1.1.cell 13
  simp [mv] at cc0 cc1 cc2 cc3 cc4 cc5 cc6 cc7 cc8 cc9 cc10 cc11 cc12 cc13
  have cx13 := H4.out.2.2.2.cell 13
  simp [mv] at cx13
  have es := run_str (P := Tryd.prog) w4 25 5 Tryd.underlying25 Tryd.underlying5 (HI.out.2.1.keep H4.out.1.2).data s.dk 9 Tryd.underlying9
  have eb := run_str (P := Tryd.prog) w4 25 5 Tryd.underlying25 Tryd.underlying5 (HI.out.2.2.below H4.out.1.2) c 9 Tryd.underlying9
  have ex := run_str (P := Tryd.prog) w4 25 5 Tryd.underlying25 Tryd.underlying5 H4.out.2.1.data t.dk 9 Tryd.underlying9
  go_wp2_with fail
  have K := put_e w4 m s (HI.out.1.keep H4.out.1.2) (HM.out.keep H4.out.1.2)
  rw [HPe.out.1] at K
  refine K.mono ?_
  clear K
  rintro e w5 ⟨A5, n5, c5, rfl, hb⟩
  have H5 := Lib.hid (And.intro (H4.out.1.keep hb) (And.intro (H4.out.2.1.keep hb) (And.intro (H4.out.2.2.1.keep hb) (H4.out.2.2.2.keep hb))))
  clear hb cc0 cc1 cc2 cc3 cc4 cc5 cc6 cc7 cc8 cc9 cc10 cc11 cc12 cc13 cx13 es eb ex
  have cx0 := H5.out.2.2.2.cell 0
  have cx1 := H5.out.2.2.2.cell 1
  have cx2 := H5.out.2.2.2.cell 2
  have cx3 := H5.out.2.2.2.cell 3
  have cx4 := H5.out.2.2.2.cell 4
  have cx5 := H5.out.2.2.2.cell 5
  have cx6 := H5.out.2.2.2.cell 6
  have cx7 := H5.out.2.2.2.cell 7
  have cx8 := H5.out.2.2.2.cell 8
  have cx9 := H5.out.2.2.2.cell 9
  have cx10 := H5.out.2.2.2.cell 10
  have cx11 := H5.out.2.2.2.cell 11
  have cx12 := H5.out.2.2.2.cell 12
  have cx13 := H5.out.2.2.2.cell 13
  simp [mv] at cx0 cx1 cx2 cx3 cx4 cx5 cx6 cx7 cx8 cx9 cx10 cx11 cx12 cx13
  go_wp2_with fail
  have K := put_e w5 (m) t (HI.out.1.keep H5.out.1.2) H5.out.2.1
  rw [HPe.out.2] at K
  refine K.mono ?_
  clear K
  rintro e w6 ⟨A6, n6, c6, rfl, hb⟩
  have H6 := Lib.hid (And.intro (H5.out.1.keep hb) (And.intro (H5.out.2.1.keep hb) (And.intro (H5.out.2.2.1.keep hb) (H5.out.2.2.2.keep hb))))
  clear hb cx0 cx1 cx2 cx3 cx4 cx5 cx6 cx7 cx8 cx9 cx10 cx11 cx12 cx13
  have cy0 := H6.out.2.2.2.cell 0
  have cy1 := H6.out.2.2.2.cell 1
  have cy2 := H6.out.2.2.2.cell 2
  have cy3 := H6.out.2.2.2.cell 3
  have cy4 := H6.out.2.2.2.cell 4
  have cy5 := H6.out.2.2.2.cell 5
  have cy6 := H6.out.2.2.2.cell 6
  have cy7 := H6.out.2.2.2.cell 7
  have cy8 := H6.out.2.2.2.cell 8
  have cy9 := H6.out.2.2.2.cell 9
  have cy10 := H6.out.2.2.2.cell 10
  have cy11 := H6.out.2.2.2.cell 11
  have cy12 := H6.out.2.2.2.cell 12
  have cy13 := H6.out.2.2.2.cell 13
  simp [mv] at cy0 cy1 cy2 cy3 cy4 cy5 cy6 cy7 cy8 cy9 cy10 cy11 cy12 cy13
  go_wp2_with ((with_reducible show wpList _ _ _ ((⟨none, .store 27 (.tmp 13) (.tmp 70), _, _, _, _⟩ : Oper) :: _) _ _); refine wpList_store_msg w6 rfl (.tmp 13) (.tmp 70) rfl (m) t rfl rfl ?_; intro w7 hb7 hw7; have hw8 : Below w6.heap.size w6 (w7.setCell ⟨w6.heap.size, 13, none⟩ (.slice s.da m.data.length s.dk)) := hw7.trans ((Fr.setCell (S := fun k => k = w6.heap.size) (Fr.refl _ w7) (p := ⟨w6.heap.size, 13, none⟩) (fun _ => rfl) _).below hw7.size fun k hk => by omega); have H7 := Lib.hid (And.intro (H6.out.1.keep hw7) hb7); have H8 := Lib.hid (show Bx w bx m s (w7.setCell ⟨w6.heap.size, 13, none⟩ (.slice s.da m.data.length s.dk)) ∧ MIn (w7.setCell ⟨w6.heap.size, 13, none⟩ (.slice s.da m.data.length s.dk)) (w7.setCell ⟨w6.heap.size, 13, none⟩ (.slice s.da m.data.length s.dk)).heap.size (m) t ∧ Mem.Own (w7.setCell ⟨w6.heap.size, 13, none⟩ (.slice s.da m.data.length s.dk)) w2.heap.size 5 t.da t.dk ((m : Msg).data.map u8v) ∧ Blk (w7.setCell ⟨w6.heap.size, 13, none⟩ (.slice s.da m.data.length s.dk)) gx 27 (mv (m) t) ∧ Blk (w7.setCell ⟨w6.heap.size, 13, none⟩ (.slice s.da m.data.length s.dk)) w6.heap.size 27 (mv m ⟨t.ia, t.ic, t.na, t.nc, s.da, s.dk⟩) from ⟨H6.out.1.keep hw8, H6.out.2.1.keep hw8, H6.out.2.2.1.keep hw8, H6.out.2.2.2.keep hw8, hb7.set_ 13 _⟩); clear hb7 hw7 hw8 cy0 cy1 cy2 cy3 cy4 cy5 cy6 cy7 cy8 cy9 cy10 cy11 cy12 cy13; obtain ⟨gy, hgy⟩ : ∃ x, w6.heap.size = x := ⟨_, rfl⟩; rw [hgy] at H7 H8 ⊢; clear hgy; have cm13 := H7.out.1.1.cell 13; have cv13 := H7.out.2.cell 13; have zy := H7.out.2.frozen 13; simp [mv] at cm13 cv13; have cz0 := H8.out.2.2.2.2.cell 0; have cz1 := H8.out.2.2.2.2.cell 1; have cz2 := H8.out.2.2.2.2.cell 2; have cz3 := H8.out.2.2.2.2.cell 3; have cz4 := H8.out.2.2.2.2.cell 4; have cz5 := H8.out.2.2.2.2.cell 5; have cz6 := H8.out.2.2.2.2.cell 6; have cz7 := H8.out.2.2.2.2.cell 7; have cz8 := H8.out.2.2.2.2.cell 8; have cz9 := H8.out.2.2.2.2.cell 9; have cz10 := H8.out.2.2.2.2.cell 10; have cz11 := H8.out.2.2.2.2.cell 11; have cz12 := H8.out.2.2.2.2.cell 12; have cz13 := H8.out.2.2.2.2.cell 13; simp [mv] at cz0 cz1 cz2 cz3 cz4 cz5 cz6 cz7 cz8 cz9 cz10 cz11 cz12 cz13; have cu0 := H8.out.1.1.cell 0; have cu1 := H8.out.1.1.cell 1; have cu2 := H8.out.1.1.cell 2; have cu3 := H8.out.1.1.cell 3; have cu4 := H8.out.1.1.cell 4; have cu5 := H8.out.1.1.cell 5; have cu6 := H8.out.1.1.cell 6; have cu7 := H8.out.1.1.cell 7; have cu8 := H8.out.1.1.cell 8; have cu9 := H8.out.1.1.cell 9; have cu10 := H8.out.1.1.cell 10; have cu11 := H8.out.1.1.cell 11; have cu12 := H8.out.1.1.cell 12; have cu13 := H8.out.1.1.cell 13; simp [mv] at cu0 cu1 cu2 cu3 cu4 cu5 cu6 cu7 cu8 cu9 cu10 cu11 cu12 cu13)
  have h8 := H8.out
  clear cm13 cv13 zy cz0 cz1 cz2 cz3 cz4 cz5 cz6 cz7 cz8 cz9 cz10 cz11 cz12 cz13 cu0 cu1 cu2 cu3 cu4 cu5 cu6 cu7 cu8 cu9 cu10 cu11 cu12 cu13
  obtain ⟨w8, hw8⟩ : ∃ x, w7.setCell ⟨gy, 13, none⟩ (.slice s.da m.data.length s.dk) = x := ⟨_, rfl⟩
  rw [hw8] at h8 ⊢
  refine (same_any w8 m m ⟨t.ia, t.ic, t.na, t.nc, s.da, s.dk⟩ s (by
    have h1 := HM.out.keep h8.1.2
    exact ⟨h8.2.1.ids, h8.2.1.nodes, h1.data, h1.kind, h1.lk, h1.li, h1.ln, h1.ld, h1.lik⟩) (HM.out.keep h8.1.2)).mono ?_
  rintro e w9 ⟨rfl, hb⟩
  rw [same_refl]
  have H9 := Lib.hid (And.intro (h8.1.keep hb) (And.intro (h8.2.2.1.keep hb) (h8.2.2.2.1.keep hb)))
  clear hb h8 hw8 H8 H7 H6 H5 H4
  go_wp2_with fail
  obtain ⟨L, hL⟩ : ∃ L, (m : Msg).data.length = L := ⟨_, rfl⟩
  have HL := Lib.hid hL
  go_loopw [15] (fun i wq => ∃ (j : Nat) (l1 : List UInt8), i = .int .i64 (j : Int) ∧ j ≤ L ∧ l1.length = L ∧ Mem.Own wq w2.heap.size 5 t.da t.dk (l1.map u8v) ∧ Blk wq gx 27 (mv (m) t) ∧ Bx w bx m s wq) (fun i _ => L - (intOf i).toNat)
  case atStart => exact ⟨0, _, rfl, Nat.zero_le _, hL, H9.out.2.1, H9.out.2.2, H9.out.1⟩
  case round =>
    clear H9
    obtain ⟨j, l1, rfl, hj, hl1, ho, hx, hB⟩ := hrel
    have HX := Lib.hid (And.intro hx (And.intro hB ho))
    have HL1 := Lib.hid hl1
    have cx13 := hx.cell 13
    simp [mv] at cx13
    rw [HL.out] at cx13
    clear hx hB
    by_cases hjl : j < L
    · have hii : (j : Int) < (L : Int) := by omega
      have h0 : (0 : Int) ≤ (j : Int) := by omega
      obtain ⟨g, e, hbg, hlt, hc', hz, hset⟩ := ho.at_ (k := j) (by rw [List.length_map]; omega)
      obtain ⟨x, hx⟩ : ∃ x, l1[j]'(by omega) = x := ⟨_, rfl⟩
      have hc : wr.cell? ⟨g, j, none⟩ = some (.int .u8 (x.toNat : Int)) := by rw [hc', List.getElem_map, hx]; rfl
      have hw : IntKind.u8.wrap ((x.toNat : Int) + 1) = ((x + 1).toNat : Int) := by
        have := x.toNat_lt
        rw [UInt8.toNat_add]
        show ((x.toNat : Int) + 1) % 256 = (((x.toNat + 1) % 256 : Nat) : Int)
        omega
      have HR := Lib.hid (show Mem.Own (wr.setCell ⟨g, j, none⟩ (.int .u8 ((x + 1).toNat : Int))) w2.heap.size 5 t.da t.dk ((l1.set j (x + 1)).map u8v) from by rw [List.map_set]; exact hset _)
      have hfr : Fr (fun k => k = g) wr (wr.setCell ⟨g, j, none⟩ (.int .u8 ((x + 1).toNat : Int))) := (Fr.refl (fun k => k = g) wr).setCell (p := ⟨g, j, none⟩) (fun _ => rfl) _
      have hg2 : bx < w2.heap.size := H2.out.1.lt
      have HN := Lib.hid (show Blk (wr.setCell ⟨g, j, none⟩ (.int .u8 ((x + 1).toNat : Int))) gx 27 (mv (m) t) ∧ Bx w bx m s (wr.setCell ⟨g, j, none⟩ (.int .u8 ((x + 1).toNat : Int))) from
        ⟨HX.out.1.fr hfr (fun h => HX.out.1.ne_own ho (by decide) g e h.symm), HX.out.2.1.1.fr hfr (by omega), HX.out.2.1.2.trans (hfr.below HX.out.2.1.2.size fun k hk => by have := H2.out.2.size; omega)⟩)
      rw [e] at cx13
      clear hc' hset hx hlt ho hl1 hfr hg2 hL e
      have HT := Lib.hid (And.intro cx13 (And.intro hc hz))
      have HW := Lib.hid (show ((x.toNat : Int) + 1) % 256 = ((x + 1).toNat : Int) from hw)
      have hL3 : L ≤ 3000 := by rw [← HL.out]; first | exact HF.out.2 | exact HD.out
      have hL3 : (L : Int) ≤ 3000 := by omega
      go_wp2_with fail
      refine wp_region_noPanic ?_
      refine wp_heldG (fun V => V.cell? ⟨gx, 13, none⟩ = some (.slice (some ⟨g, 0, none⟩) L t.dk) ∧ V.cell? ⟨g, j, none⟩ = some (.int .u8 (x.toNat : Int)) ∧ V.frozen? ⟨g, j, none⟩ = false) [10] (by kernel_rfl) ?hs0 ?rg0
      case hs0 =>
        exact HT.out
      case rg0 =>
      intro hHeld
      refine puG 0 ⟨some 84, .fieldAddr 27 (.tmp 6) 13, 0, _, #[], none⟩ (v := ?_) ?_ (fun _ => by assumption) ?_
      rotate_left
      · intro w hSw
        try dsimp only at hSw
        go_simp
        try with_reducible rfl
      try simp only [Act.put, List.setIfInBounds_toArray, List.set_cons_zero, List.set_cons_succ]
      refine tkG 1 ⟨some 85, .load 25 (.tmp 84), 25, _, #[⟨0, .data⟩], none⟩ (v := ?_) ?_ (by assumption) ?_
      rotate_left
      · intro w hSw
        try dsimp only at hSw
        go_simp
        try with_reducible rfl
      try simp only [Act.put, List.setIfInBounds_toArray, List.set_cons_zero, List.set_cons_succ]
      refine puG 2 ⟨some 86, .move (.tmp 15), 3, _, #[], none⟩ (v := ?_) ?_ (fun _ => by assumption) ?_
      rotate_left
      · intro w hSw
        try dsimp only at hSw
        go_simp
        try with_reducible rfl
      try simp only [Act.put, List.setIfInBounds_toArray, List.set_cons_zero, List.set_cons_succ]
      refine puG 3 ⟨some 87, .fieldAddr 27 (.tmp 6) 13, 0, _, #[], none⟩ (v := ?_) ?_ (fun _ => by assumption) ?_
      rotate_left
      · intro w hSw
        try dsimp only at hSw
        go_simp
        try with_reducible rfl
      try simp only [Act.put, List.setIfInBounds_toArray, List.set_cons_zero, List.set_cons_succ]
      refine tkG 4 ⟨some 88, .load 25 (.tmp 87), 25, _, #[⟨3, .data⟩], none⟩ (v := ?_) ?_ (by assumption) ?_
      rotate_left
      · intro w hSw
        try dsimp only at hSw
        go_simp
        try with_reducible rfl
      try simp only [Act.put, List.setIfInBounds_toArray, List.set_cons_zero, List.set_cons_succ]
      refine puG 5 ⟨some 89, .move (.tmp 15), 3, _, #[], none⟩ (v := ?_) ?_ (fun _ => by assumption) ?_
      rotate_left
      · intro w hSw
        try dsimp only at hSw
        go_simp
        try with_reducible rfl
      try simp only [Act.put, List.setIfInBounds_toArray, List.set_cons_zero, List.set_cons_succ]
      refine puG 6 ⟨some 90, .indexAddr 25 (.tmp 88) (.tmp 89), 0, _, #[⟨4, .data⟩, ⟨5, .data⟩], none⟩ (v := ?_) ?_ (fun _ => by assumption) ?_
      rotate_left
      · intro w hSw
        try dsimp only at hSw
        go_simp
        try with_reducible rfl
      try simp only [Act.put, List.setIfInBounds_toArray, List.set_cons_zero, List.set_cons_succ]
      refine tkG 7 ⟨some 91, .load 5 (.tmp 90), 5, _, #[⟨6, .data⟩], none⟩ (v := ?_) ?_ (by assumption) ?_
      rotate_left
      · intro w hSw
        try dsimp only at hSw
        go_simp
        try with_reducible rfl
      try simp only [Act.put, List.setIfInBounds_toArray, List.set_cons_zero, List.set_cons_succ]
      refine puG 8 ⟨some 92, .binOp BinOp.add 5 (.tmp 91) (Operand.const (Value.int IntKind.u8 1)) 5, 5, _, #[⟨7, .data⟩], none⟩ (v := ?_) ?_ (fun _ => by assumption) ?_
      rotate_left
      · intro w hSw
        try dsimp only at hSw
        go_simp
        try with_reducible rfl
      try simp only [Act.put, List.setIfInBounds_toArray, List.set_cons_zero, List.set_cons_succ]
      refine puG 9 ⟨some 93, .indexAddr 25 (.tmp 85) (.tmp 86), 0, _, #[⟨1, .data⟩, ⟨2, .data⟩, ⟨0, .phase⟩, ⟨1, .phase⟩, ⟨2, .phase⟩, ⟨3, .phase⟩, ⟨4, .phase⟩, ⟨5, .phase⟩, ⟨6, .phase⟩, ⟨7, .phase⟩, ⟨8, .phase⟩], none⟩ (v := ?_) ?_ (fun _ => by assumption) ?_
      rotate_left
      · intro w hSw
        try dsimp only at hSw
        go_simp
        try with_reducible rfl
      try simp only [Act.put, List.setIfInBounds_toArray, List.set_cons_zero, List.set_cons_succ]
      refine onG 10 ⟨none, .store 5 (.tmp 93) (.tmp 92), 0, _, #[⟨9, .data⟩, ⟨8, .data⟩, ⟨0, .phase⟩, ⟨1, .phase⟩, ⟨2, .phase⟩, ⟨3, .phase⟩, ⟨4, .phase⟩, ⟨5, .phase⟩, ⟨6, .phase⟩, ⟨7, .phase⟩, ⟨8, .phase⟩], none⟩ (fun K hK => ?_)
      have c0 : wr.drew.cell? ⟨g, j, none⟩ = some (.int .u8 (x.toNat : Int)) := HT.out.2.1
      have z0 : wr.drew.frozen? ⟨g, j, none⟩ = false := HT.out.2.2
      go_simp
      try dsimp only
      refine hK.out _ _ ?_ (fun hHeld => ?_)
      · exact fun h => (st_no (by kernel_rfl) h).elim
      clear hK K
      try simp only [Act.put, List.setIfInBounds_toArray, List.set_cons_zero, List.set_cons_succ]
      clear hHeld
      refine wpAnyG_done (by kernel_rfl) ?_ _
      refine NoPanic.normal ?_
      go_wp2_with fail
      go_roundw
      case rel =>
        rw [HW.out]
        exact ⟨j + 1, l1.set j (x + 1), by simp, by omega, by rw [List.length_set]; exact HL1.out, HR.out.keep (nextN (Mem.start _) 1), HN.out.1.keep (nextN (Mem.start _) 1), HN.out.2.keep (nextN (Mem.start _) 1)⟩
      case measure => simp [intOf]; omega
    · obtain rfl : j = L := by omega
      have H10 := Lib.hid HX.out.2.1
      have cm13 := H10.out.1.cell 13
      simp [mv] at cm13
      have es := run_str (P := Tryd.prog) wr 25 5 Tryd.underlying25 Tryd.underlying5 (HI.out.2.1.keep H10.out.2).data s.dk 9 Tryd.underlying9
      clear hL ho hl1
      by_cases hp : p1 = 0
      · have hp2 := HP.out hp
        clear HP
        subst hp
        subst hp2
        go_wp2_with fail
        refine (works_any wr (HI.out.1.keep H10.out.2)).mono ?_
        rintro e w11 ⟨rfl, hb⟩
        have H11 := Lib.hid (next H10.out.2 hb)
        clear hb
        go_wp2_with fail
        go_ret
        exact ⟨rfl, H11.out⟩
      · have dp : (p1 != 0) = true := by rw [bne_iff_ne]; exact hp
        clear hp HP
        go_wp2_with fail
        refine (works_any wr (HI.out.1.keep H10.out.2)).mono ?_
        rintro e w11 ⟨rfl, hb⟩
        have H11 := Lib.hid (next H10.out.2 hb)
        clear hb
        go_wp2_with fail
        go_ret
        exact ⟨rfl, H11.out⟩
theorem lies_law (w : World) (hT : HasT w) (m : Msg) (s : Sl) (hm : MIn0 w w.heap.size m s) (A : Option Addr) (b : List UInt8) (c : Nat) (hle : b.length ≤ c) (hmx : c ≤ maxLen) (hb : Bytes w w.heap.size A b) :
    Calls Tryd.prog 7 #[.agg (mv m s), .slice A b.length c] w fun e w' => e = .returned (.bool true) ∧ Below w.heap.size w w' := by
  by_cases hg : few m = true ∧ b.length ≤ 3000
  · by_cases h9 : m.kind = 9
    · exact lies_a w hT m s hm A b c hb hg.1 hg.2 h9
    · by_cases h20 : m.kind = 20
      · exact lies_b w hT m s hm A b c hb hg.1 hg.2 h20
      · exact lies_c w hT m s hm A b c hb hg.1 hg.2 ⟨h9, h20⟩
  · obtain ⟨bx, hbx⟩ : ∃ bx, w.heap.size = bx := ⟨_, rfl⟩
    obtain ⟨w1, hw1⟩ : ∃ x : World, w.alloc (.cells (mv m s) 27) = x := ⟨_, rfl⟩
    have H1 := Lib.hid (show Bx w bx m s w1 by
      rw [← hw1, ← hbx]
      exact ⟨Blk.new w _ _, nextA (Mem.start w) _⟩)
    have HI := Lib.hid (And.intro hT hm)
    have ca0 := H1.out.1.cell 0
    have ca1 := H1.out.1.cell 1
    have ca2 := H1.out.1.cell 2
    have ca3 := H1.out.1.cell 3
    have ca4 := H1.out.1.cell 4
    have ca5 := H1.out.1.cell 5
    have ca6 := H1.out.1.cell 6
    have ca7 := H1.out.1.cell 7
    have ca8 := H1.out.1.cell 8
    have ca9 := H1.out.1.cell 9
    have ca10 := H1.out.1.cell 10
    have ca11 := H1.out.1.cell 11
    have ca12 := H1.out.1.cell 12
    have ca13 := H1.out.1.cell 13
    simp [mv] at ca0 ca1 ca2 ca3 ca4 ca5 ca6 ca7 ca8 ca9 ca10 ca11 ca12 ca13
    clear hT hm hb hle
    cases hf : few m
    · have HF := Lib.hid hf
      clear hf hg
      go_enter Tryd.func7, Tryd.ntmps7
      go_wp2_with fail
      refine (few_any w1 m s (HI.out.2.keep H1.out.2)).mono ?_
      rintro e w2 ⟨rfl, hb⟩
      rw [HF.out]
      have H2 := Lib.hid (H1.out.keep hb)
      clear hb ca0 ca1 ca2 ca3 ca4 ca5 ca6 ca7 ca8 ca9 ca10 ca11 ca12 ca13 hw1 hbx
      go_wp2_with fail
      refine (works_any w2 (HI.out.1.keep H2.out.2)).mono ?_
      rintro e w3 ⟨rfl, hb⟩
      have H3 := Lib.hid (next H2.out.2 hb)
      clear hb
      go_wp2_with fail
      go_ret
      exact ⟨rfl, H3.out⟩
    · have HF := Lib.hid hf
      have hl : ¬ b.length ≤ 3000 := fun h => hg ⟨hf, h⟩
      have dl : decide ((3000 : Int) < ((b.length : Nat) : Int)) = true := decide_eq_true (by omega)
      clear hf hg hl
      go_enter Tryd.func7, Tryd.ntmps7
      go_wp2_with fail
      refine (few_any w1 m s (HI.out.2.keep H1.out.2)).mono ?_
      rintro e w2 ⟨rfl, hb⟩
      rw [HF.out]
      have H2 := Lib.hid (H1.out.keep hb)
      clear hb ca0 ca1 ca2 ca3 ca4 ca5 ca6 ca7 ca8 ca9 ca10 ca11 ca12 ca13 hw1 hbx
      go_wp2_with fail
      refine (works_any w2 (HI.out.1.keep H2.out.2)).mono ?_
      rintro e w3 ⟨rfl, hb⟩
      have H3 := Lib.hid (next H2.out.2 hb)
      clear hb
      go_wp2_with fail
      go_ret
      exact ⟨rfl, H3.out⟩
end Go.Proofs.YtebdmfmadbikaaaDoor.WiW
