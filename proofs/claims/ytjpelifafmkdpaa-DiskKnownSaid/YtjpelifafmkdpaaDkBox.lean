/- A late write as a value and in a box: built, loaded, copied into, laid in a slice. -/
import Derived.Test.YtjpelifafmkdpaaDkRead
import Derived.Great.BuildSlice
import Derived.Laws.CopyRow
namespace Go.Proofs.Ytjpelifafmkdpaa.DkW
open Go.RowKit Go.Shelf Mem Rng
set_option linter.unusedVariables false

def lc (x : Int × List UInt8) : Array Value := (lcells x).toArray
theorem lc_size {x : Int × List UInt8} (h : x.2.length = 256) : (lc x).size = 257 := by simp [lc, lcells, h]
theorem linfo : (Try.prog.info? 65).map (·.size) = some 257 := by kernel_rfl
theorem u1info : (Try.prog.info? 5).map (·.size) = some 1 := by kernel_rfl
theorem lc_one (x : Int × List UInt8) : (lc x).all (·.oneCell') = true := all_oneCell_toArray (lcells_one x)
theorem zeroL (w : World) : (zeroValue 65).run Try.prog w = .ok (.agg (lc (0, z256))) w := by kernel_rfl
theorem build_lc (w : World) (i : Int) : (Instr.build 65 #[(0, .int .i64 i)]).run Try.prog w = .ok (.agg (lc (i, z256))) w := by kernel_rfl
theorem lsame {x y : Int × List UInt8} (hx : x.2.length = 256) (hy : y.2.length = 256) : (Try.prog.info? 65).map (·.size) = some (lc x).size ∧ (lc y).size = (lc x).size := by
  rw [lc_size hx, lc_size hy]; exact ⟨linfo, rfl⟩
section
variable {w : World} {b : Nat} {x : Int × List UInt8}
theorem load_lc (h : Blk w b 65 (lc x)) (hx : x.2.length = 256) : (Instr.loadAt 65 (.pointer (some ⟨b, 0, none⟩))).run Try.prog w = .ok (.agg (lc x)) w := by
  have := run_loadAt_mid (P := Try.prog) w b 0 65 (lcells x) _ (fun j v hv => by rw [Nat.zero_add, h.cell, ← hv]; simp [lc]) Try.underlying65 rfl (by rw [lcells_len hx]; exact linfo)
  exact this
theorem load_lb (h : Blk w b 65 (lc x)) (hx : x.2.length = 256) : (Instr.loadAt 59 (.pointer (some ⟨b, 1, none⟩))).run Try.prog w = .ok (.agg (bcells x.2)) w := by
  have := run_loadAt_mid (P := Try.prog) w b 1 59 (x.2.map u8v) _ (fun j v hv => by rw [h.cell, ← hv]; simp [lc, lcells, Nat.add_comm 1 j]) Try.underlying59 rfl (by rw [List.length_map, hx]; exact binfo)
  exact this
theorem load_bb {l : List UInt8} (h : Blk w b 59 (bcells l)) (hl : l.length = 256) : (Instr.loadAt 59 (.pointer (some ⟨b, 0, none⟩))).run Try.prog w = .ok (.agg (bcells l)) w := by
  have := run_loadAt_mid (P := Try.prog) w b 0 59 (l.map u8v) _ (fun j v hv => by rw [Nat.zero_add, h.cell, ← hv]; simp [bcells]) Try.underlying59 rfl (by rw [List.length_map, hl]; exact binfo)
  exact this
theorem slice_late (W : World) (hx : x.2.length = 256) : (Instr.buildSlice 61 1 #[(0, .agg (lc x))]).run Try.prog W = .ok (.slice (some ⟨W.heap.size, 0, none⟩) 1 1) (W.alloc (.cells (lc x) 65)) := by
  obtain ⟨i0, hi0, hz0, hz1, hz2⟩ := info_parts lateinfo
  refine run_buildSlice W 61 65 1 _ (lc x) i0 _ Try.underlying61 hi0 hz0 (by rw [hz1]; decide) (by rw [hz1]; decide) ?_
  rw [hz1]
  have := Great.fill_whole (s := 257) (by decide) [.agg (lc x)] ((Array.range (1 * 257)).map ((Value.agg (lcells (0, z256)).toArray).cells[· % (Value.agg (lcells (0, z256)).toArray).cells.size]!)) (fun v hv => by rw [List.mem_singleton.1 hv]; exact lc_size hx) (by simp)
  rw [show ([Value.agg (lc x)].flatMap fun v => v.cells.toList).toArray = lc x from by simp [Value.cells, lc]] at this
  exact this
end
/-- copy into a block that is known whole. -/
theorem wpList_copyin {ops : Array Oper} {rest : List Oper} {o : Oper} {a : Act} {Q : Exit → Act → World → Prop} (w : World) (hgd : o.guard = none) (d s : Operand) (ho : o.op = .call { callee := .builtin .copy, args := #[d, s], argTypes := #[23, 23] })
    (g off n n' : Nat) (A : Option Addr) (m c : Nat) (l : List UInt8) (T : TypeId) (cur : Array Value) (hd : a.eval d = .slice (some ⟨g, off, none⟩) n n') (hs : a.eval s = .slice A m c) (hl : l.length = Nat.min m n)
    (hB : Blk w g T cur) (hfit : off + l.length ≤ cur.size) (hA : Bytes w w.heap.size A l)
    (h : ∀ w' k, Blk w' g T (cur.toList.take off ++ l.map u8v ++ cur.toList.drop (off + l.length)).toArray → Fr (fun k => k = g) w w' → w'.heap.size = w.heap.size → wpList Try.prog ops Q rest (a.put o.dst (.int .i64 k)) w') : wpList Try.prog ops Q (o :: rest) a w := by
  refine wpList_plain hgd fun K hK => ?_
  unfold Oper.wp execOp
  by_cases hz : l.length = 0
  · have hrun := run_copy_none (P := Try.prog) w 23 23 o.type 5 (some ⟨g, off, none⟩) A n n' m c Try.underlying23 u1info (by rw [← hl]; exact hz)
    simp only [ho, resolve, invoke, builtin, Sem.run_bind, Sem.run_pure, Result.andThen_ok, List.map_toArray, List.map_cons, List.map_nil, hd, hs, hrun]
    refine hK _ _ (h w 0 ?_ (Fr.refl _ w) rfl)
    obtain rfl : l = [] := List.eq_nil_of_length_eq_zero hz
    simp only [List.map_nil, List.append_nil, List.length_nil, Nat.add_zero, List.take_append_drop, Array.toArray_toList]
    exact hB
  · obtain ⟨b, o2, rfl, _, hc⟩ := hA (by rw [List.length_map]; omega)
    have hrun := run_copy_row (P := Try.prog) w 23 23 o.type 5 g off n n' ⟨b, o2, none⟩ m c cur T (l.map u8v) Try.underlying23 u1info hB (by rw [List.length_map]; exact hl) (fun j v hv => by rw [Addr.add_lit]; exact hc j v hv) (by rw [List.length_map]; exact hfit) (u8v_one (l := l))
    simp only [ho, resolve, invoke, builtin, Sem.run_bind, Sem.run_pure, Result.andThen_ok, List.map_toArray, List.map_cons, List.map_nil, hd, hs, hrun]
    rw [List.length_map]
    exact hK _ _ (h _ _ (blkRow hB _) (frRow (Fr.refl (fun k => k = g) w) (fun _ => rfl) _) (by unfold World.setRow; simp))
end Go.Proofs.Ytjpelifafmkdpaa.DkW
