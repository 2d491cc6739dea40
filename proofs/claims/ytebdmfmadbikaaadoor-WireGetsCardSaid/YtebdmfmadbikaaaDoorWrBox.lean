/- A message's box: a new one, stored to; what came before. -/
import Derived.Test.YtebdmfmadbikaaaDoorWrFew
namespace Go.Proofs.YtebdmfmadbikaaaDoor.WiW
open Go.RowKit Go.Shelf Mem Fds FdW Wi Rng
set_option linter.unusedVariables false
set_option linter.unusedSimpArgs false

theorem mrow {w : World} {g : Nat} {T : TypeId} {old : Array Value} (h : Blk w g T old) (cs : Array Value) : Blk (w.setRow g cs) g T cs := setRow_heap w g old cs T (0, 0) h
/-- A whole message that is new, stored to. -/
theorem wpList_store_msg {ops : Array Oper} {rest : List Oper} {o : Oper} {a : Act} {Q : Exit → Act → World → Prop} (w : World) (hgd : o.guard = none) (x y : Operand) (ho : o.op = .store 27 x y) (m : Msg) (s : Sl)
    (hx : a.eval x = .pointer (some ⟨w.heap.size, 0, none⟩)) (hy : a.eval y = .agg (mv m s))
    (h : ∀ w', Blk w' w.heap.size 27 (mv m s) → Below w.heap.size w w' → wpList Tryd.prog ops Q rest (a.put o.dst undef) w') : wpList Tryd.prog ops Q (o :: rest) a (w.alloc (.cells #[.int .u8 0, .int .i64 0, .int .i64 0, .int .i64 0, .string { data := #[] }, .int .i64 0, .int .i64 0, .int .i64 0, .int .i64 0, .int .i64 0, .bool false, .slice none 0 0, .slice none 0 0, .slice none 0 0] 27)) := by
  refine wpList_store_row hgd 27 x y ho w.heap.size (mv m s) hx hy 27 #[.int .u8 0, .int .i64 0, .int .i64 0, .int .i64 0, .string { data := #[] }, .int .i64 0, .int .i64 0, .int .i64 0, .int .i64 0, .int .i64 0, .bool false, .slice none 0 0, .slice none 0 0, .slice none 0 0] (new_heap w _) minfo rfl (mv_one m s) (h _ (mrow (Blk.new w 27 #[.int .u8 0, .int .i64 0, .int .i64 0, .int .i64 0, .string { data := #[] }, .int .i64 0, .int .i64 0, .int .i64 0, .int .i64 0, .int .i64 0, .bool false, .slice none 0 0, .slice none 0 0, .slice none 0 0]) (mv m s)) ?_)
  refine ⟨rfl, rfl, rfl, ?_, fun k hk => ?_⟩
  · unfold World.setRow; simp
  · have hne : w.heap.size ≠ k := by omega
    have : ((w.alloc (.cells #[.int .u8 0, .int .i64 0, .int .i64 0, .int .i64 0, .string { data := #[] }, .int .i64 0, .int .i64 0, .int .i64 0, .int .i64 0, .int .i64 0, .bool false, .slice none 0 0, .slice none 0 0, .slice none 0 0] 27)).setRow w.heap.size (mv m s)).heap[k]? = (w.alloc (.cells #[.int .u8 0, .int .i64 0, .int .i64 0, .int .i64 0, .string { data := #[] }, .int .i64 0, .int .i64 0, .int .i64 0, .int .i64 0, .int .i64 0, .bool false, .slice none 0 0, .slice none 0 0, .slice none 0 0] 27)).heap[k]? := by unfold World.setRow; simp [Array.getElem?_modify, hne]
    exact this.trans ((nextA (Mem.start w) (.cells #[.int .u8 0, .int .i64 0, .int .i64 0, .int .i64 0, .string { data := #[] }, .int .i64 0, .int .i64 0, .int .i64 0, .int .i64 0, .int .i64 0, .bool false, .slice none 0 0, .slice none 0 0, .slice none 0 0] 27)).block k hk)
/-- The message's box, and what came before. -/
def Bx (w : World) (bx : Nat) (m : Msg) (s : Sl) (V : World) : Prop := Blk V bx 27 (mv m s) ∧ Below w.heap.size w V
theorem Bx.keep {w V V' : World} {bx : Nat} {m : Msg} {s : Sl} (h : Bx w bx m s V) (hb : Below V.heap.size V V') : Bx w bx m s V' := ⟨h.1.keep hb, next h.2 hb⟩
/-- Two boxes, and what came before. -/
def Two (w : World) (bx : Nat) (m : Msg) (s : Sl) (n : Msg) (t : Sl) (V : World) : Prop := Blk V bx 27 (mv m s) ∧ Blk V (bx + 1) 27 (mv n t) ∧ Below w.heap.size w V
theorem Two.keep {w V V' : World} {bx : Nat} {m n : Msg} {s t : Sl} (h : Two w bx m s n t V) (hb : Below V.heap.size V V') : Two w bx m s n t V' := ⟨h.1.keep hb, h.2.1.keep hb, next h.2.2 hb⟩
end Go.Proofs.YtebdmfmadbikaaaDoor.WiW
